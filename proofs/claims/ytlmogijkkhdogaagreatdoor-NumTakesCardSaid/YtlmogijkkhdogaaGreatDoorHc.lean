/- strconv's trim. -/
import Derived.Test.YtlmogijkkhdogaaGreatDoorHb
namespace Go.Proofs.YtlmogijkkhdogaaGreatDoor
open Go.RowKit
set_option maxRecDepth 100000

def trimTo (d : Nat → Nat) : Nat → Nat
  | 0 => 0
  | k + 1 => if d k = 48 then trimTo d k else k + 1
def trimD (D : Dec) : Dec := { D with nd := trimTo D.d D.nd, dp := if trimTo D.d D.nd = 0 then 0 else D.dp }
theorem trimTo_le (d : Nat → Nat) : ∀ k, trimTo d k ≤ k
  | 0 => Nat.le_refl _
  | k + 1 => by unfold trimTo; split; · exact Nat.le_succ_of_le (trimTo_le d k)
                · exact Nat.le_refl _
theorem i64_sub1 (j : Nat) (h : j ≤ 1000000) : IntKind.i64.wrap ((j + 1 : Nat) - 1 : Int) = (j : Int) := by
  rw [IntKind.wrap_i64]; omega

theorem trim_dec (E : Nat) (D : Dec) (hn : D.nd ≤ 800) (w : World) (h : DecAt w E D) : Calls Tryz.prog 224 #[.pointer (some ⟨E, 0, none⟩)] w fun e w' => e = .returned (.tuple #[]) ∧ DecAt w' E (trimD D) ∧ Kin E w w' := by
  have H := Lib.hid h
  obtain ⟨n, hn'⟩ : ∃ n, n = D.nd := ⟨_, rfl⟩
  have HN := Lib.hid hn'
  rw [← hn'] at hn
  clear h hn'
  go_enter Tryz.func224, Tryz.ntmps224
  go_wp2_with fail
  go_loopw [2] (fun _ wr => ∃ j : Nat, j ≤ n ∧ trimTo D.d n = trimTo D.d j ∧ DecAt wr E { D with nd := j } ∧ Kin E w wr) (fun _ wr => match wr.cell? ⟨E, 800, none⟩ with | some u => (RowKit.intOf u).toNat | none => 0)
  case atStart => exact ⟨n, Nat.le_refl _, rfl, by rw [HN.out]; exact H.out, Kin.refl _ _⟩
  case round =>
    obtain ⟨j, hj, htr, hD, hK⟩ := hrel
    have hnd := hD.nd
    have hdp := hD.dp
    have hfr := hD.froz
    have HT := Lib.hid htr
    have HD := Lib.hid hD
    have HK := Lib.hid hK
    clear htr hD hK
    simp only at hnd hdp
    cases j with
    | zero =>
      go_wp2_with fail
      go_quiet (fail)
      go_wp2_with fail
      go_end0
      refine ⟨rfl, ?_, HK.out.trans ((Kin.drewN E wr nq).trans (Kin.set E 801 _ _))⟩
      have e0 : trimTo D.d D.nd = 0 := by rw [← HN.out, HT.out]; rfl
      have := (HD.out.drewN nq).setDp 0
      unfold trimD
      rw [e0]
      exact this
    | succ j =>
      have hdig := HD.out.dig j (by omega)
      simp only at hdig
      have hjj := i64_sub1 j (by omega)
      have hj0 : (0 : Int) ≤ j := by omega
      have hj8 : (j : Int) < 800 := by omega
      have hjt : ((j : Int)).toNat = j := by omega
      by_cases h48 : D.d j = 48
      · have hnx : trimTo D.d (j + 1) = trimTo D.d j := if_pos h48
        have HN2 := Lib.hid hnx
        rw [h48] at hdig
        clear h48 hnx
        go_wp2_with fail
        go_quiet (fail)
        clear hjj hjt
        go_wp2_with fail
        have hset := (HD.out.drewN nq).setNd j
        have hn2 := hset.nd
        rw [hn2, hnd]
        refine ⟨⟨j, by omega, by rw [HT.out, HN2.out], hset, HK.out.trans ((Kin.drewN E wr nq).trans (Kin.set E 800 _ _))⟩, ?_⟩
        show (RowKit.intOf (.int .i64 (j : Nat))).toNat < (RowKit.intOf (.int .i64 (j + 1 : Nat))).toNat
        simp [RowKit.intOf]
      · have hv : (((D.d j : Nat) : Int) == 48) = false := by simp; omega
        have hnx : trimTo D.d (j + 1) = j + 1 := if_neg h48
        have HN2 := Lib.hid hnx
        generalize hc : D.d j = c at hdig hv
        clear h48 hnx hc
        go_wp2_with fail
        go_quiet (fail)
        clear hjj hjt
        go_wp2_with fail
        go_end0
        refine ⟨rfl, ?_, HK.out.trans (Kin.drewN E wr nq)⟩
        have e0 : trimTo D.d D.nd = j + 1 := by rw [← HN.out, HT.out, HN2.out]
        have := HD.out.drewN nq
        unfold trimD
        rw [e0]
        exact this
end Go.Proofs.YtlmogijkkhdogaaGreatDoor
