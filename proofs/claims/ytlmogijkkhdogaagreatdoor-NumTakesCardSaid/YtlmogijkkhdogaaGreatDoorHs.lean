/- num.Canon and the document's Canon: the same text, the same error's number. -/
import Derived.Test.YtlmogijkkhdogaaGreatDoorHr
namespace Go.Proofs.YtlmogijkkhdogaaGreatDoor
open Go.RowKit
set_option maxRecDepth 100000

structure CnBoth (l t : List UInt8) (c : Int) : Prop where
  num : ∀ w, Lay w → Calls Tryz.prog 21 #[.string ⟨l.toArray⟩] w fun e w' => e = .returned (.tuple #[.string ⟨t.toArray⟩, errV c]) ∧ Below w.heap.size w w'
  doc : ∀ w, Lay w → Calls Tryz.prog 28 #[.string ⟨l.toArray⟩] w fun e w' => e = .returned (.tuple #[.string ⟨t.toArray⟩, .int .i64 c]) ∧ Below w.heap.size w w'

theorem whole_rng {l : List UInt8} {p : Parts} {n : Int} (hp : parseL l = some p) (h : wholeN l = .ok n) : -9223372036854775808 ≤ n ∧ n ≤ 9223372036854775807 := by
  rw [wholeN_ref hp] at h
  unfold wholeAt signed at h
  split at h
  · split at h
    · split at h
      · cases h; omega
      · cases h
    · split at h
      · cases h; omega
      · cases h
  · cases h

theorem numCanon_none (l : List UInt8) (c : Int) (hc : c ≠ 0) (A : ∀ w, Calls Tryz.prog 60 #[.string ⟨l.toArray⟩] w fun e w' =>
    e = .returned (.tuple #[.agg #[.bool false, .string ⟨#[]⟩, .string ⟨#[]⟩, .string ⟨#[]⟩], .iface 85 (.int .i64 c)]) ∧ Below w.heap.size w w') (w : World) :
    Calls Tryz.prog 21 #[.string ⟨l.toArray⟩] w fun e w' => e = .returned (.tuple #[.string ⟨#[]⟩, errV c]) ∧ Below w.heap.size w w' := by
  have HA := Lib.hid A
  have e1 : errV c = .iface 85 (.int .i64 c) := if_neg hc
  have E1 := Lib.hid e1
  clear A e1
  go_enter Tryz.func21, Tryz.ntmps21
  go_wp2_with (go_at_call 60; refine (HA.out _).mono ?_; rintro e w1 ⟨rfl, hb1⟩; obtain ⟨hc1, hf1⟩ := bcell hb1)
  refine bodyPost_ret (v := .tuple #[.string ⟨#[]⟩, .iface 85 (.int .i64 c)]) (by simp [results, Tryz.results21, go_sem]) rfl ?_
  exact ⟨by rw [E1.out], hb1.trans ((Below.refl _ _).alloc hb1.size _)⟩
theorem docCanon_none (l : List UInt8) (hl : l.length ≤ 1000) (hp : parseL l = none) (w : World) :
    Calls Tryz.prog 28 #[.string ⟨l.toArray⟩] w fun e w' => e = .returned (.tuple #[.string ⟨#[]⟩, .int .i64 (if 64 < l.length then 3 else 2)]) ∧ Below w.heap.size w w' := by
  have HA := Lib.hid (fun w => parse_ref_none l w (by omega) hp)
  obtain ⟨c, hc⟩ : ∃ c : Int, c = (if 64 < l.length then 3 else 2) := ⟨_, rfl⟩
  have hc0 : (c != 0) = true := by rw [hc]; split <;> rfl
  rw [← hc] at HA ⊢
  clear hp hc
  go_enter Tryz.func28, Tryz.ntmps28
  go_wp2_with (go_at_call 24; refine (HA.out _).mono ?_; rintro e w1 ⟨rfl, hb1⟩; obtain ⟨hc1, hf1⟩ := bcell hb1)
  refine bodyPost_ret (v := .tuple #[.string ⟨#[]⟩, .int .i64 c]) (by simp [results, Tryz.results28, go_sem]) rfl ?_
  exact ⟨rfl, hb1.trans ((Below.refl _ _).alloc hb1.size _)⟩

/-- a whole number that is not -0: by its figures. -/
theorem cn_whole (l : List UInt8) (p : Parts) (n : Int) (h64 : ¬ 64 < l.length) (hp : parseL l = some p) (hw : wholeN l = .ok n) (c0 : UInt8) (t : List UInt8) (hl : l = c0 :: t) (hn : n ≠ 0 ∨ c0 ≠ 45) : CnBoth l (Lib.itoa n) 0 := by
  obtain ⟨r1, r2⟩ := whole_rng hp hw
  have hWN := fun w hg => numWhole_any l w hg (by omega)
  have hWD := fun w => whole_ref l w (by omega)
  rw [hw] at hWN hWD
  have HA := Lib.hid (fun w => asks_ok l p w h64 hp)
  have HB := Lib.hid (fun w => parse_ref_some l w p (by omega) hp)
  have HW := Lib.hid hWN
  have HD := Lib.hid hWD
  have HI := Lib.hid (fun w hg => itoa_any n w hg r1 r2)
  have h3 : (0 : Nat) < (⟨l.toArray⟩ : ByteArray).size := by show 0 < l.length; rw [hl]; simp
  have h4 : (⟨l.toArray⟩ : ByteArray)[0]'h3 = c0 := by subst hl; rfl
  have h5 : (0 : Int) < (l.length : Int) := by have : 0 < l.length := h3; omega
  have hcs : (n != 0) = true ∧ (n == 0) = false ∨ n = 0 ∧ ((c0.toNat : Int) != 45) = true ∧ ((c0.toNat : Int) == 45) = false := by
    by_cases h0 : n = 0
    · right
      have : c0.toNat ≠ 45 := fun h => (hn.resolve_left (fun h => h h0)) (UInt8.toNat_inj.1 (by rw [h]; rfl))
      exact ⟨h0, by simp; omega, by simp; omega⟩
    · left; exact ⟨by simp [h0], by simp [h0]⟩
  have HLe := Lib.hid h64
  clear hp hw hWN hWD hl hn r1 r2 h64
  refine ⟨fun w hw => ?_, fun w hw => ?_⟩
  · have HG := Lib.hid hw
    rcases hcs with ⟨e1, e2⟩ | ⟨rfl, e1, e2⟩
    all_goals (
      go_enter Tryz.func21, Tryz.ntmps21
      go_wp2_with (first
        | (go_at_call 60; refine (HA.out _).mono ?_; rintro e w1 ⟨rfl, hb1⟩; obtain ⟨hc1, hf1⟩ := bcell hb1)
        | (go_at_call 23; refine (HW.out _ ((HG.out.below hb1).below ((Below.refl _ _).alloc (Nat.le_refl _) _)).g).mono ?_; rintro e w2 ⟨hb2, rfl⟩)
        | (go_at_call 58; refine (HI.out _ (((HG.out.below hb1).below ((Below.refl _ _).alloc (Nat.le_refl _) _)).below hb2).g).mono ?_; rintro e w3 ⟨rfl, hb3⟩)))
    · refine bodyPost_ret (v := .tuple #[.string ⟨(Lib.itoa n).toArray⟩, .nilIface]) (by simp [results, Tryz.results21, go_sem]) rfl ?_
      exact ⟨rfl, hb1.trans (((Below.refl _ _).alloc hb1.size _).trans ((hb2.mono (by simp; have := hb1.size; omega)).trans (hb3.mono (by have := hb2.size; simp at this; have := hb1.size; omega))))⟩
    · refine bodyPost_ret (v := .tuple #[.string ⟨(Lib.itoa 0).toArray⟩, .nilIface]) (by simp [results, Tryz.results21, go_sem]) rfl ?_
      exact ⟨rfl, hb1.trans (((Below.refl _ _).alloc hb1.size _).trans ((hb2.mono (by simp; have := hb1.size; omega)).trans (hb3.mono (by have := hb2.size; simp at this; have := hb1.size; omega))))⟩
  · have HG := Lib.hid hw
    rcases hcs with ⟨e1, e2⟩ | ⟨rfl, e1, e2⟩
    all_goals (
      go_enter Tryz.func28, Tryz.ntmps28
      go_wp2_with (first
        | (go_at_call 24; refine (HB.out _).mono ?_; rintro e w1 ⟨A, cA, rfl, hb1, hfg⟩; obtain ⟨hc1, hf1⟩ := bcell hb1)
        | (go_at_call 27; refine (HD.out _).mono ?_; rintro e w2 ⟨hb2, rfl⟩)
        | (go_at_call 58; refine (HI.out _ (((HG.out.below hb1).below ((Below.refl _ _).alloc (Nat.le_refl _) _)).below hb2).g).mono ?_; rintro e w3 ⟨rfl, hb3⟩)))
    · refine bodyPost_ret (v := .tuple #[.string ⟨(Lib.itoa n).toArray⟩, .int .i64 0]) (by simp [results, Tryz.results28, go_sem]) rfl ?_
      exact ⟨rfl, hb1.trans (((Below.refl _ _).alloc hb1.size _).trans ((hb2.mono (by simp; have := hb1.size; omega)).trans (hb3.mono (by have := hb2.size; simp at this; have := hb1.size; omega))))⟩
    · refine bodyPost_ret (v := .tuple #[.string ⟨(Lib.itoa 0).toArray⟩, .int .i64 0]) (by simp [results, Tryz.results28, go_sem]) rfl ?_
      exact ⟨rfl, hb1.trans (((Below.refl _ _).alloc hb1.size _).trans ((hb2.mono (by simp; have := hb1.size; omega)).trans (hb3.mono (by have := hb2.size; simp at this; have := hb1.size; omega))))⟩

/-- the others: by the float. -/
theorem cn_float_walk (l : List UInt8) (p : Parts) (h64 : ¬ 64 < l.length) (hp : parseL l = some p) (c0 : UInt8) (t : List UInt8) (hl : l = c0 :: t) (r : Except Int Int) (hr : wholeN l = r) (hw0 : (∃ cw, r = .error cw ∧ cw ≠ 0) ∨ (r = .ok 0 ∧ c0 = 45))
    (v : Nat) (c : Int) (hf : FlBoth l v c) : ∃ (t : List UInt8) (c' : Int), CnBoth l t c' := by
  have hWN := fun w hg => numWhole_any l w hg (by omega)
  have hWD := fun w => whole_ref l w (by omega)
  rw [hr] at hWN hWD
  have HA := Lib.hid (fun w => asks_ok l p w h64 hp)
  have HB := Lib.hid (fun w => parse_ref_some l w p (by omega) hp)
  have HF := Lib.hid hf
  have h3 : (0 : Nat) < (⟨l.toArray⟩ : ByteArray).size := by show 0 < l.length; rw [hl]; simp
  have h4 : (⟨l.toArray⟩ : ByteArray)[0]'h3 = c0 := by subst hl; rfl
  have h5 : (0 : Int) < (l.length : Int) := by have : 0 < l.length := h3; omega
  have hv := hf.lt
  clear hp hl h64 hf hr
  by_cases hc : c = 0
  · obtain ⟨t', c', hT, hU⟩ := text_both v hv
    have HT := Lib.hid hT
    have HU := Lib.hid hU
    have e1 : errV c = .nilIface := if_pos hc
    have E1 := Lib.hid e1
    clear hT hU e1
    subst hc
    refine ⟨t', c', ⟨fun w hw => ?_, fun w hw => ?_⟩⟩
    · have HG := Lib.hid hw
      rcases hw0 with ⟨cw, rfl, hcw⟩ | ⟨rfl, rfl⟩
      all_goals (
      have HW := Lib.hid hWN
      clear hWN hWD
      go_enter Tryz.func21, Tryz.ntmps21
      go_wp2_with (first
        | (go_at_call 60; refine (HA.out _).mono ?_; rintro e w1 ⟨rfl, hb1⟩; obtain ⟨hc1, hf1⟩ := bcell hb1)
        | (go_at_call 23; refine (HW.out _ ((HG.out.below hb1).below ((Below.refl _ _).alloc (Nat.le_refl _) _)).g).mono ?_; rintro e w2 ⟨hb2, rfl⟩)
        | (go_at_call 20; refine (HF.out.num _ (((HG.out.below hb1).below ((Below.refl _ _).alloc (Nat.le_refl _) _)).below hb2)).mono ?_; rw [E1.out]; rintro e w3 ⟨rfl, hb3⟩)
        | (go_at_call 15; refine (HT.out _ ((((HG.out.below hb1).below ((Below.refl _ _).alloc (Nat.le_refl _) _)).below hb2).below hb3)).mono ?_; rintro e w4 ⟨rfl, hb4⟩)))
      all_goals (
      refine bodyPost_ret (v := .tuple #[.string ⟨t'.toArray⟩, errV c']) (by simp [results, Tryz.results21, go_sem]) rfl ?_
      exact ⟨rfl, hb1.trans (((Below.refl _ _).alloc hb1.size _).trans ((hb2.mono (by simp; have := hb1.size; omega)).trans ((hb3.mono (by have := hb2.size; simp at this; have := hb1.size; omega)).trans (hb4.mono (by have := hb3.size; have := hb2.size; simp at this; have := hb1.size; omega)))))⟩)
    · have HG := Lib.hid hw
      rcases hw0 with ⟨cw, rfl, hcw⟩ | ⟨rfl, rfl⟩
      all_goals (
      have HD := Lib.hid hWD
      clear hWN hWD
      try have hcw2 : (cw == 0) = false := by simp [hcw]
      go_enter Tryz.func28, Tryz.ntmps28
      go_wp2_with (first
        | (go_at_call 24; refine (HB.out _).mono ?_; rintro e w1 ⟨A, cA, rfl, hb1, hfg⟩; obtain ⟨hc1, hf1⟩ := bcell hb1)
        | (go_at_call 27; refine (HD.out _).mono ?_; rintro e w2 ⟨hb2, rfl⟩)
        | (go_at_call 25; refine (HF.out.doc _ (((HG.out.below hb1).below ((Below.refl _ _).alloc (Nat.le_refl _) _)).below hb2)).mono ?_; rintro e w3 ⟨rfl, hb3⟩)
        | (go_at_call 16; refine (HU.out _ ((((HG.out.below hb1).below ((Below.refl _ _).alloc (Nat.le_refl _) _)).below hb2).below hb3)).mono ?_; rintro e w4 ⟨rfl, hb4⟩)))
      all_goals (
      refine bodyPost_ret (v := .tuple #[.string ⟨t'.toArray⟩, .int .i64 c']) (by simp [results, Tryz.results28, go_sem]) rfl ?_
      exact ⟨rfl, hb1.trans (((Below.refl _ _).alloc hb1.size _).trans ((hb2.mono (by simp; have := hb1.size; omega)).trans ((hb3.mono (by have := hb2.size; simp at this; have := hb1.size; omega)).trans (hb4.mono (by have := hb3.size; have := hb2.size; simp at this; have := hb1.size; omega)))))⟩)
  · have e1 : errV c = .iface 85 (.int .i64 c) := if_neg hc
    have E1 := Lib.hid e1
    have hc2 : (c != 0) = true := by simp [hc]
    clear e1 hc
    refine ⟨[], c, ⟨fun w hw => ?_, fun w hw => ?_⟩⟩
    · have HG := Lib.hid hw
      rcases hw0 with ⟨cw, rfl, hcw⟩ | ⟨rfl, rfl⟩
      all_goals (
      have HW := Lib.hid hWN
      clear hWN hWD
      go_enter Tryz.func21, Tryz.ntmps21
      go_wp2_with (first
        | (go_at_call 60; refine (HA.out _).mono ?_; rintro e w1 ⟨rfl, hb1⟩; obtain ⟨hc1, hf1⟩ := bcell hb1)
        | (go_at_call 23; refine (HW.out _ ((HG.out.below hb1).below ((Below.refl _ _).alloc (Nat.le_refl _) _)).g).mono ?_; rintro e w2 ⟨hb2, rfl⟩)
        | (go_at_call 20; refine (HF.out.num _ (((HG.out.below hb1).below ((Below.refl _ _).alloc (Nat.le_refl _) _)).below hb2)).mono ?_; rw [E1.out]; rintro e w3 ⟨rfl, hb3⟩)))
      all_goals (
      refine bodyPost_ret (v := .tuple #[.string ⟨#[]⟩, .iface 85 (.int .i64 c)]) (by simp [results, Tryz.results21, go_sem]) rfl ?_
      exact ⟨by rw [E1.out], hb1.trans (((Below.refl _ _).alloc hb1.size _).trans ((hb2.mono (by simp; have := hb1.size; omega)).trans (hb3.mono (by have := hb2.size; simp at this; have := hb1.size; omega))))⟩)
    · have HG := Lib.hid hw
      rcases hw0 with ⟨cw, rfl, hcw⟩ | ⟨rfl, rfl⟩
      all_goals (
      have HD := Lib.hid hWD
      clear hWN hWD
      try have hcw2 : (cw == 0) = false := by simp [hcw]
      go_enter Tryz.func28, Tryz.ntmps28
      go_wp2_with (first
        | (go_at_call 24; refine (HB.out _).mono ?_; rintro e w1 ⟨A, cA, rfl, hb1, hfg⟩; obtain ⟨hc1, hf1⟩ := bcell hb1)
        | (go_at_call 27; refine (HD.out _).mono ?_; rintro e w2 ⟨hb2, rfl⟩)
        | (go_at_call 25; refine (HF.out.doc _ (((HG.out.below hb1).below ((Below.refl _ _).alloc (Nat.le_refl _) _)).below hb2)).mono ?_; rintro e w3 ⟨rfl, hb3⟩)))
      all_goals (
      refine bodyPost_ret (v := .tuple #[.string ⟨#[]⟩, .int .i64 c]) (by simp [results, Tryz.results28, go_sem]) rfl ?_
      exact ⟨rfl, hb1.trans (((Below.refl _ _).alloc hb1.size _).trans ((hb2.mono (by simp; have := hb1.size; omega)).trans (hb3.mono (by have := hb2.size; simp at this; have := hb1.size; omega))))⟩)
theorem cn_any (l : List UInt8) (p : Parts) (h64 : ¬ 64 < l.length) (hp : parseL l = some p) (hne : l ≠ []) (v : Nat) (c : Int) (hf : FlBoth l v c) : ∃ (t : List UInt8) (c' : Int), CnBoth l t c' := by
  obtain ⟨c0, t, hl⟩ : ∃ c0 t, l = c0 :: t := by
    cases l with
    | nil => exact absurd rfl hne
    | cons a t => exact ⟨a, t, rfl⟩
  cases hr : wholeN l with
  | error cw =>
    have : cw ≠ 0 := by rcases wholeN_codes l cw hr with h | h | h | h <;> (rw [h]; decide)
    exact cn_float_walk l p h64 hp c0 t hl _ hr (Or.inl ⟨cw, rfl, this⟩) v c hf
  | ok n =>
    by_cases hn : n ≠ 0 ∨ c0 ≠ 45
    · exact ⟨_, _, cn_whole l p n h64 hp hr c0 t hl hn⟩
    · have h0 : n = 0 := Classical.byContradiction fun h => hn (Or.inl h)
      have h45 : c0 = 45 := Classical.byContradiction fun h => hn (Or.inr h)
      subst h0
      exact cn_float_walk l p h64 hp c0 t hl _ hr (Or.inr ⟨rfl, h45⟩) v c hf
theorem cn_none (l : List UInt8) (hl : l.length ≤ 1000) (hp : parseL l = none) : CnBoth l [] (if 64 < l.length then 3 else 2) := by
  refine ⟨fun w hw => ?_, fun w hw => docCanon_none l hl hp w⟩
  refine numCanon_none l _ (code_ne l) (fun w => ?_) w
  by_cases h : 64 < l.length
  · rw [if_pos h]; exact asks_long l w h (by omega)
  · rw [if_neg h]; exact asks_form l w h hp
end Go.Proofs.YtlmogijkkhdogaaGreatDoor
