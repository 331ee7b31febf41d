/- strconv's (decimal).Shift. -/
import Derived.Test.YtlmogijkkhdogaaGreatDoorHg
namespace Go.Proofs.YtlmogijkkhdogaaGreatDoor
open Go.RowKit
set_option maxRecDepth 100000

theorem shiftL_ex (D : Dec) (k : Nat) (hk1 : 1 ≤ k) (hk2 : k ≤ 60) (hf : Fit D) (hp1 : -1000000 ≤ D.dp) (hp2 : D.dp ≤ 1000000) :
    ∃ (D' : Dec) (Δ : Nat), Δ ≤ 20 ∧ (Δ = 0 → D.d 0 < D'.d 0) ∧ Fit D' ∧ D'.dp = D.dp + (Δ : Nat) ∧ D'.neg = D.neg ∧
      ∀ (w : World) (E B : Nat), B ≤ E → Slow B w → DecAt w E D → Calls Tryz.prog 173 #[.pointer (some ⟨E, 0, none⟩), .int .i64 k] w fun e w' => e = .returned (.tuple #[]) ∧ DecAt w' E D' ∧ Kin E w w' := by
  obtain ⟨D', Δ, a1, a2, a3, a4, a5, hL⟩ := lshift_ex D k hk1 hk2 hf hp1 hp2
  refine ⟨D', Δ, a1, a2, a3, a4, a5, fun w E B hB hs h => ?_⟩
  have hnd := h.nd
  have hn1 := hf.n1
  obtain ⟨n, hn⟩ : ∃ n, n = D.nd := ⟨_, rfl⟩
  rw [← hn] at hnd hn1
  have hn0 : ((n : Int) == 0) = false := by simp; omega
  have hk1' : (0 : Int) < k := by omega
  have hk2' : (k : Int) ≤ 60 := by omega
  have HL := Lib.hid (hL w E B hB hs h)
  clear hL h hs hf a1 a2 a3 a4 a5 hn
  go_enter Tryz.func173, Tryz.ntmps173
  go_wp2_with fail
  go_loopw [1] (fun x wr => x = .int .i64 k ∧ wr = w) (fun _ _ => 0)
  case atStart => exact ⟨rfl, rfl⟩
  case round =>
    obtain ⟨rfl, rfl⟩ := hrel
    go_wp2_with (go_at_call 225; refine HL.out.mono ?_; rintro e w2 ⟨rfl, hD2, hK2⟩; have HD2 := Lib.hid hD2; have HK2 := Lib.hid hK2; clear hD2 hK2)
    go_end0
    exact ⟨rfl, HD2.out, HK2.out⟩

/-- one right shift by k takes D to D'. -/
def RStep (k : Nat) (D D' : Dec) : Prop :=
  ∀ (w : World) (E : Nat), DecAt w E D → Calls Tryz.prog 226 #[.pointer (some ⟨E, 0, none⟩), .int .u64 k] w fun e w' => e = .returned (.tuple #[]) ∧ DecAt w' E D' ∧ Kin E w w'
theorem rsteps_ex (D : Dec) (hf : Fit D) (hp1 : -500000 ≤ D.dp) (hp2 : D.dp ≤ 500000) : ∀ J : Nat, J ≤ 2000 → ∃ s : Nat → Dec, s 0 = D ∧ (∀ j, j < J → RStep 60 (s j) (s (j + 1))) ∧ (∀ j, j ≤ J → Fit (s j) ∧ (s j).dp ≤ D.dp ∧ D.dp - 20 * (j : Nat) ≤ (s j).dp ∧ (s j).neg = D.neg)
  | 0, _ => ⟨fun _ => D, rfl, fun j h => absurd h (by omega), fun j h => ⟨hf, Int.le_refl _, by show D.dp - 20 * (j : Nat) ≤ D.dp; omega, rfl⟩⟩
  | J + 1, hJ => by
    obtain ⟨s, h0, h1, h2⟩ := rsteps_ex D hf hp1 hp2 J (by omega)
    obtain ⟨g1, g2, g3, g4⟩ := h2 J (Nat.le_refl _)
    obtain ⟨D', R, hR1, hR2, -, -, hf', hdp', hneg', hst⟩ := rshift_ex (s J) 60 (by decide) (by decide) g1 (by omega) (by omega)
    refine ⟨fun j => if j ≤ J then s j else D', by show (if 0 ≤ J then s 0 else D') = D; rw [if_pos (Nat.zero_le _)]; exact h0, fun j hj => ?_, fun j hj => ?_⟩
    · simp only
      rw [if_pos (by omega)]
      rcases Nat.lt_or_ge j J with h | h
      · rw [if_pos (by omega)]; exact h1 j h
      · obtain rfl : j = J := by omega
        rw [if_neg (by omega)]; exact hst
    · simp only
      split
      · rename_i h; exact h2 j h
      · obtain rfl : j = J + 1 := by omega
        exact ⟨hf', by omega, by omega, by rw [hneg', g4]⟩

theorem shiftR_ex (D : Dec) (k : Nat) (hk1 : 1 ≤ k) (hk2 : k ≤ 100000) (hf : Fit D) (hp1 : -500000 ≤ D.dp) (hp2 : D.dp ≤ 500000) :
    ∃ (D' : Dec), (k ≤ 60 → ∃ R : Nat, 1 ≤ R ∧ (D.d 0 < 48 + 2 ^ k → 2 ≤ R) ∧ (R = 1 → D'.d 0 = 48 + (D.d 0 - 48) / 2 ^ k) ∧ D'.dp = D.dp - ((R : Int) - 1)) ∧ Fit D' ∧ D'.dp ≤ D.dp ∧ D.dp - 20 * ((k : Int) / 60 + 1) ≤ D'.dp ∧ D'.neg = D.neg ∧
      ∀ (w : World) (E : Nat), DecAt w E D → Calls Tryz.prog 173 #[.pointer (some ⟨E, 0, none⟩), .int .i64 (-(k : Int))] w fun e w' => e = .returned (.tuple #[]) ∧ DecAt w' E D' ∧ Kin E w w' := by
  obtain ⟨J, hJ⟩ : ∃ J, J = (k - 1) / 60 := ⟨_, rfl⟩
  obtain ⟨s, h0, h1, h2⟩ := rsteps_ex D hf hp1 hp2 J (by omega)
  obtain ⟨g1, g2, g3, g4⟩ := h2 J (Nat.le_refl _)
  obtain ⟨D', R, hR1, hR2, hR3, hR4, hf', hdp', hneg', hst⟩ := rshift_ex (s J) (k - 60 * J) (by omega) (by omega) g1 (by omega) (by omega)
  refine ⟨D', fun h => ?_, hf', by omega, by omega, by rw [hneg', g4], fun w E h => ?_⟩
  · obtain rfl : J = 0 := by omega
    rw [Nat.mul_zero, Nat.sub_zero, h0] at hR3 hR4
    rw [h0] at hdp'
    exact ⟨R, hR1, hR3, hR4, hdp'⟩
  · have hnd := h.nd
    have hn1 := hf.n1
    obtain ⟨n, hn⟩ : ∃ n, n = D.nd := ⟨_, rfl⟩
    rw [← hn] at hnd hn1
    have hn0 : ((n : Int) == 0) = false := by simp; omega
    have hk1' : 0 < k := by omega
    have hk2' : (-100000 : Int) ≤ -(k : Int) := by omega
    have H1 := Lib.hid h1
    have HS := Lib.hid (show ∀ w1 : World, DecAt w1 E (s J) → Calls Tryz.prog 226 #[.pointer (some ⟨E, 0, none⟩), .int .u64 (k - 60 * J : Nat)] w1 fun e w' => e = .returned (.tuple #[]) ∧ DecAt w' E D' ∧ Kin E w1 w' from fun w1 => hst w1 E)
    have H0 := Lib.hid (show DecAt w E (s 0) by rw [h0]; exact h)
    have HFIT := Lib.hid h2
    have HJ := Lib.hid hJ
    clear h hf h0 h1 h2 g1 g2 g3 g4 hR1 hR2 hR3 hR4 hf' hdp' hneg' hst hn hJ
    go_enter Tryz.func173, Tryz.ntmps173
    go_wp2_with fail
    clear hk1' hk2' hn0 hnd
    go_loopw [1] (fun x wr => ∃ j : Nat, j ≤ J ∧ x = .int .i64 (-(k : Int) + 60 * j) ∧ DecAt wr E (s j) ∧ Kin E w wr) (fun x _ => (- RowKit.intOf x).toNat)
    case atStart => exact ⟨0, Nat.zero_le _, by simp, H0.out, Kin.refl _ _⟩
    case round =>
      obtain ⟨j, hj, rfl, hD, hK⟩ := hrel
      have HDj := Lib.hid hD
      have HKj := Lib.hid hK
      clear hD hK
      have hJJ := HJ.out
      by_cases hlt : j < J
      · have hx : -(k : Int) + 60 * (j : Int) < -60 := by omega
        have hx2 : -100000 ≤ -(k : Int) + 60 * (j : Int) := by omega
        obtain ⟨x, hxx⟩ : ∃ x, x = -(k : Int) + 60 * (j : Int) := ⟨_, rfl⟩
        have HX := Lib.hid hxx
        rw [← hxx] at hx hx2 ⊢
        clear hxx hJJ
        go_wp2_with (go_at_call 226; refine (H1.out j hlt wr E HDj.out).mono ?_; rintro e w2 ⟨rfl, hD2, hK2⟩; have HD2 := Lib.hid hD2; have HK2 := Lib.hid hK2; clear hD2 hK2)
        refine ⟨⟨j + 1, by omega, ?_, HD2.out, HKj.out.trans HK2.out⟩, by simp [RowKit.intOf]; omega⟩
        rw [HX.out]; congr 1; omega
      · obtain rfl : j = J := by omega
        have hx : -60 ≤ -(k : Int) + 60 * (j : Int) := by omega
        have hx2 : -(k : Int) + 60 * (j : Int) < 0 := by omega
        obtain ⟨x, hxx⟩ : ∃ x, x = -(k : Int) + 60 * (j : Int) := ⟨_, rfl⟩
        have hxk : ((k - 60 * j : Nat) : Int) = -x := by omega
        have HS2 := Lib.hid (HS.out wr HDj.out)
        rw [hxk] at HS2
        rw [← hxx] at hx hx2 ⊢
        clear hxx hxk hJJ HS
        go_wp2_with (go_at_call 226; refine HS2.out.mono ?_; rintro e w2 ⟨rfl, hD2, hK2⟩; have HD2 := Lib.hid hD2; have HK2 := Lib.hid hK2; clear hD2 hK2)
        go_end0
        exact ⟨rfl, HD2.out, HKj.out.trans HK2.out⟩

theorem shift0_any (D : Dec) (k : Int) (h0 : D.nd = 0) (w : World) (E : Nat) (h : DecAt w E D) : Calls Tryz.prog 173 #[.pointer (some ⟨E, 0, none⟩), .int .i64 k] w fun e w' => e = .returned (.tuple #[]) ∧ w' = w := by
  have hnd := h.nd
  rw [h0] at hnd
  clear h h0
  go_enter Tryz.func173, Tryz.ntmps173
  go_wp2_with fail
  go_end0
  exact ⟨rfl, rfl⟩
end Go.Proofs.YtlmogijkkhdogaaGreatDoor
