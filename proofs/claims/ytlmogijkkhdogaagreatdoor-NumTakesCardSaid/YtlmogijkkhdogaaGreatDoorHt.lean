/- NumTakes: true of any text. -/
import Derived.Test.YtlmogijkkhdogaaGreatDoorHs
import Derived.Test.YtlmogijkkhdogaaGreatDoorHq
import Derived.Test.YtlmogijkkhdogaaGreatDoorHn
namespace Go.Proofs.YtlmogijkkhdogaaGreatDoor
open Go.RowKit
set_option maxRecDepth 100000
attribute [local go_sem] run62 run14

theorem Lay.alloc {w : World} (h : Lay w) (o : Obj) : Lay (w.alloc o) := h.below ((Below.refl _ _).alloc (Nat.le_refl _) _)
theorem same_refl (v : Nat) (w : World) : Calls Tryz.prog 22 #[.float .f64 v, .float .f64 v] w fun e w' => e = .returned (.bool true) ∧ w = w' := by
  go_enter Tryz.func22, Tryz.ntmps22
  go_wp2
  go_ret
  exact ⟨by simp, rfl⟩

structure WnBoth (l : List UInt8) (n c : Int) : Prop where
  num : ∀ w, Lay w → Calls Tryz.prog 23 #[.string ⟨l.toArray⟩] w fun e w' => e = .returned (.tuple #[.int .i64 n, errV c]) ∧ Below w.heap.size w w'
  doc : ∀ w, Lay w → Calls Tryz.prog 27 #[.string ⟨l.toArray⟩] w fun e w' => e = .returned (.tuple #[.int .i64 n, .int .i64 c]) ∧ Below w.heap.size w w'
theorem wn_any (l : List UInt8) (hl : l.length ≤ 1000) : ∃ n c, WnBoth l n c := by
  have hN := fun w (hw : Lay w) => numWhole_any l w hw.g (by omega)
  have hD := fun w => whole_ref l w (by omega)
  cases hr : wholeN l with
  | ok n =>
    rw [hr] at hN hD
    exact ⟨n, 0, fun w hw => (hN w hw).mono fun e w' h => ⟨h.2, h.1⟩, fun w _ => (hD w).mono fun e w' h => ⟨h.2, h.1⟩⟩
  | error c =>
    rw [hr] at hN hD
    have hc : c ≠ 0 := by rcases wholeN_codes l c hr with h | h | h | h <;> (rw [h]; decide)
    exact ⟨0, c, fun w hw => (hN w hw).mono fun e w' h => ⟨by rw [h.2, errV, if_neg hc], h.1⟩, fun w _ => (hD w).mono fun e w' h => ⟨h.2, h.1⟩⟩
/-- Parse and Is -/
structure IsBoth (l : List UInt8) (k : Bool) (c : Int) : Prop where
  eq : (c == 0) = k
  num : ∀ w, Lay w → Calls Tryz.prog 26 #[.string ⟨l.toArray⟩] w fun e w' => e = .returned (.bool k) ∧ Below w.heap.size w w'
  doc : ∀ w, Lay w → Calls Tryz.prog 24 #[.string ⟨l.toArray⟩] w fun e w' => (∃ b A n ca pt pw, e = .returned (.tuple #[.agg #[.bool b, .slice A n ca, .int .i64 pt, .int .i64 pw], .int .i64 c])) ∧ Below w.heap.size w w'
theorem is_both (l : List UInt8) (hl : l.length ≤ 1000) : ∃ k c, IsBoth l k c := by
  have hI := fun w => is_any l w hl
  cases hp : parseL l with
  | none =>
    rw [hp] at hI
    refine ⟨false, _, ?_, fun w _ => hI w, fun w _ => (parse_ref_none l w (by omega) hp).mono fun e w' h => ⟨⟨_, _, _, _, _, _, h.1⟩, h.2⟩⟩
    have := code_ne l
    simp only [beq_eq_false_iff_ne, ne_eq]; exact this
  | some p =>
    rw [hp] at hI
    refine ⟨true, 0, rfl, fun w _ => hI w, fun w _ => (parse_ref_some l w p (by omega) hp).mono fun e w' h => ?_⟩
    obtain ⟨A, ca, he, hb, _⟩ := h
    exact ⟨⟨_, _, _, _, _, _, he⟩, hb⟩

theorem law_long (l : List UInt8) (hl : 200 < l.length) (w : World) (hw : Lay w) : Calls Tryz.prog 6 #[.string ⟨l.toArray⟩] w fun e w' => e = .returned (.bool true) ∧ Below w.heap.size w w' := by
  have HA := Lib.hid (fun w (hw : Lay w) => alive_any w hw.g)
  have HW := Lib.hid hw
  have h1 : (200 : Int) < (l.length : Int) := by omega
  go_enter Tryz.func6, Tryz.ntmps6
  go_wp2_with (go_at_call 13; refine (HA.out _ HW.out).mono ?_; rintro e w1 ⟨rfl, hb1⟩)
  go_ret
  exact ⟨rfl, hb1⟩
set_option maxHeartbeats 1600000 in
theorem law_walk (l : List UInt8) (hl : ¬ 200 < l.length) (fv : Nat) (fc wn wc : Int) (ct : List UInt8) (cc : Int) (k : Bool) (pc : Int) (hF : FlBoth l fv fc) (hW : WnBoth l wn wc) (hC : CnBoth l ct cc) (hI : IsBoth l k pc) (w : World) (hw : Lay w) :
    Calls Tryz.prog 6 #[.string ⟨l.toArray⟩] w fun e w' => e = .returned (.bool true) ∧ Below w.heap.size w w' := by
  have HA := Lib.hid (fun w (hw : Lay w) => alive_any w hw.g)
  have HG := Lib.hid hw
  have HF := Lib.hid hF
  have HW := Lib.hid hW
  have HC := Lib.hid hC
  have HI := Lib.hid hI
  have h1 : (l.length : Int) ≤ 200 := by omega
  have hk := hI.eq
  clear hF hW hC hI
  cases k
  all_goals (
    go_enter Tryz.func6, Tryz.ntmps6
    go_wp2_with (first
      | (go_at_call 13; refine (HA.out _ HG.out).mono ?_; rintro e w1 ⟨rfl, hb1⟩; have L1 := Lib.hid (HG.out.below hb1))
      | (go_at_call 24; refine (HI.out.doc _ L1.out).mono ?_; rintro e w2 ⟨⟨pb, pA, pn, pca, ppt, ppw, rfl⟩, hb2⟩)
      | (go_at_call 20; refine (HF.out.num _ ((L1.out.below hb2).alloc _)).mono ?_; rintro e w3 ⟨rfl, hb3⟩; have L3 := Lib.hid (((L1.out.below hb2).alloc _).below hb3))
      | (go_at_call 25; refine (HF.out.doc _ L3.out).mono ?_; rintro e w4 ⟨rfl, hb4⟩; have L4 := Lib.hid (L3.out.below hb4))
      | (go_at_call 26; refine (HI.out.num _ L4.out).mono ?_; rintro e w5 ⟨rfl, hb5⟩; have L5 := Lib.hid (L4.out.below hb5))
      | (go_at_call 22; refine (same_refl _ _).mono ?_; rintro e w' ⟨rfl, rfl⟩)
      | (go_at_call 17; refine (num_any _ _).mono ?_; rintro e w' ⟨rfl, rfl⟩)
      | (go_at_call 23; refine (HW.out.num _ L5.out).mono ?_; rintro e w6 ⟨rfl, hb6⟩; have L6 := Lib.hid (L5.out.below hb6))
      | (go_at_call 27; refine (HW.out.doc _ L6.out).mono ?_; rintro e w7 ⟨rfl, hb7⟩; have L7 := Lib.hid (L6.out.below hb7))
      | (go_at_call 21; refine (HC.out.num _ L7.out).mono ?_; rintro e w8 ⟨rfl, hb8⟩; have L8 := Lib.hid (L7.out.below hb8))
      | (go_at_call 28; refine (HC.out.doc _ L8.out).mono ?_; rintro e w9 ⟨rfl, hb9⟩)))
  all_goals (
    go_ret
    refine ⟨by simp, ?_⟩
    have s1 := hb1.size
    have s2 := hb2.size
    have s3 := hb3.size
    have s4 := hb4.size
    have s5 := hb5.size
    have s6 := hb6.size
    have s7 := hb7.size
    have s8 := hb8.size
    simp at s3
    exact hb1.trans ((hb2.mono s1).trans (((Below.refl _ _).alloc (by omega) _).trans ((hb3.mono (by simp; omega)).trans ((hb4.mono (by omega)).trans ((hb5.mono (by omega)).trans ((hb6.mono (by omega)).trans ((hb7.mono (by omega)).trans ((hb8.mono (by omega)).trans (hb9.mono (by omega))))))))))
  )
theorem lawTakes_any (l : List UInt8) (w : World) (hw : Lay w) : Calls Tryz.prog 6 #[.string ⟨l.toArray⟩] w fun e w' => e = .returned (.bool true) ∧ Below w.heap.size w w' := by
  by_cases h200 : 200 < l.length
  · exact law_long l h200 w hw
  · obtain ⟨wn, wc, hW⟩ := wn_any l (by omega)
    obtain ⟨k, pc, hI⟩ := is_both l (by omega)
    cases hp : parseL l with
    | none => exact law_walk l h200 _ _ wn wc _ _ k pc (fl_none l (by omega) hp) hW (cn_none l (by omega) hp) hI w hw
    | some p =>
      obtain ⟨b, body, x, hl, hb, hx, h64, hbl⟩ := parts_txt hp
      obtain ⟨v, ok, hv, hok, hA⟩ := atof_ex b body x hb hx (by rw [← hl]; omega) (by omega)
      rw [← hl] at hA
      have hF := fl_some l p v ok hv hok (by omega) hp (parseFloat_any l v ok (by omega) hA)
      have hne : l ≠ [] := by
        rintro rfl
        obtain ⟨_, _, ⟨c, t, hct, _⟩, _⟩ := hb
        have := txt_len b body x
        rw [← hl, hct] at this; simp at this; omega
      obtain ⟨ct, cc, hC⟩ := cn_any l p (by omega) hp hne _ _ hF
      exact law_walk l h200 _ _ wn wc ct cc k pc hF hW hC hI w hw
end Go.Proofs.YtlmogijkkhdogaaGreatDoor
