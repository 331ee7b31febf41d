/- ParseFloat at a number's text; num.Float, num.Is and the document's Float: the same float, the same error's number. -/
import Derived.Test.YtlmogijkkhdogaaGreatDoorHz
import Derived.Test.YtlmogijkkhdogaaGreatDoorIe
import Derived.Test.YtlmogijkkhdogaaGreatDoorGi
namespace Go.Proofs.YtlmogijkkhdogaaGreatDoor
open Go.RowKit
set_option maxRecDepth 100000
attribute [local go_sem] run62 run14

/-- an error by its number: 0: none. -/
def errV (c : Int) : Value := if c = 0 then .nilIface else .iface 85 (.int .i64 c)
theorem num_any (c : Int) (w : World) : Calls Tryz.prog 17 #[errV c] w fun e w' => e = .returned (.int .i64 c) ∧ w = w' := by
  by_cases h : c = 0
  · subst h; exact num_nil w
  · unfold errV; rw [if_neg h]; exact num_err c h w

def PFl (l : List UInt8) (v : Nat) (ok : Bool) : Prop := ∀ w, Lay w → Calls Tryz.prog 61 #[.string ⟨l.toArray⟩, .int .i64 64] w fun e w' => ∃ er, e = .returned (.tuple #[.float .f64 v, er]) ∧ (ok = true → er = .nilIface) ∧ (ok = false → ∃ t p, er = .iface t p) ∧ Below w.heap.size w w'

theorem parseFloat_err (l : List UInt8) (v : Nat) (hlen : l.length ≤ 1000) (h : Atof l v false) : PFl l v false := by
  intro w hw
  have h119 : Calls Tryz.prog 119 #[.string ⟨l.toArray⟩, .int .i64 64] w fun e w' => e = .returned (.tuple #[.float .f64 v, .int .i64 (l.length : Nat), .iface 158 (.int .i64 1)]) ∧ Below w.heap.size w w' := by
    have h' : Calls Tryz.prog 177 #[.string ⟨l.toArray⟩] w fun e w' => e = .returned (.tuple #[.float .f64 v, .int .i64 (l.length : Nat), .iface 158 (.int .i64 1)]) ∧ Below w.heap.size w w' := h w hw
    have H := Lib.hid h'
    clear h h'
    go_enter Tryz.func119, Tryz.ntmps119
    go_wp2_with (go_at_call 177; refine H.out.mono ?_; rintro e w' ⟨rfl, hb⟩)
    refine bodyPost_ret (v := .tuple #[.float .f64 v, .int .i64 (l.length : Nat), .iface 158 (.int .i64 1)]) (by simp [results, Tryz.results119, go_sem]) rfl ?_
    exact ⟨rfl, hb⟩
  have h88 : Calls Tryz.prog 88 #[.string ⟨l.toArray⟩, .int .i64 64] w fun e w' => e = .returned (.tuple #[.float .f64 v, .iface 158 (.int .i64 1)]) ∧ Below w.heap.size w w' := by
    have H := Lib.hid h119
    clear h h119
    go_enter Tryz.func88, Tryz.ntmps88
    go_wp2_with (go_at_call 119; refine H.out.mono ?_; rintro e w' ⟨rfl, hb⟩)
    refine bodyPost_ret (v := .tuple #[.float .f64 v, .iface 158 (.int .i64 1)]) (by simp [results, Tryz.results88, go_sem]) rfl ?_
    exact ⟨rfl, hb⟩
  have H := Lib.hid h88
  have HW := Lib.hid hw
  clear h h119 h88
  go_enter Tryz.func61, Tryz.ntmps61
  go_wp2_with (first
    | (go_at_call 88; refine H.out.mono ?_; rintro e w1 ⟨rfl, hb⟩; obtain ⟨tr, pr, hr⟩ := (HW.out.below hb).g.range; have HR := Lib.hid hr; clear hr)
    | (go_at_call 89; refine (Tryz.strconv_toError_range _ ⟨l.toArray⟩ _ _ _ _ (by show l.length ≤ _; omega) HR.out (.inr ⟨_, _, rfl⟩)).mono ?_; rintro e w2 ⟨N, rfl, -, -, hb2⟩))
  refine bodyPost_ret (v := .tuple #[.float .f64 v, .iface 159 (.pointer (some ⟨N, 0, none⟩))]) (by simp [results, Tryz.results61, go_sem]) rfl ?_
  exact ⟨_, rfl, by simp, fun _ => ⟨_, _, rfl⟩, hb.trans (hb2.mono hb.size)⟩
theorem parseFloat_any (l : List UInt8) (v : Nat) (ok : Bool) (hlen : l.length ≤ 1000) (h : Atof l v ok) : PFl l v ok := by
  cases ok
  · exact parseFloat_err l v hlen h
  · intro w hw
    exact (parseFloat_ok l v hlen w (h w hw)).mono fun e w' hh => ⟨_, hh.1, fun _ => rfl, by simp, hh.2⟩

/-- a text's float and its error's number -/
structure FlBoth (l : List UInt8) (v : Nat) (c : Int) : Prop where
  lt : v < 18446744073709551616
  num : ∀ w, Lay w → Calls Tryz.prog 20 #[.string ⟨l.toArray⟩] w fun e w' => e = .returned (.tuple #[.float .f64 v, errV c]) ∧ Below w.heap.size w w'
  doc : ∀ w, Lay w → Calls Tryz.prog 25 #[.string ⟨l.toArray⟩] w fun e w' => e = .returned (.tuple #[.float .f64 v, .int .i64 c]) ∧ Below w.heap.size w w'

theorem numFloat_none (l : List UInt8) (hl : l.length ≤ 1000) (c : Int) (hc : c ≠ 0) (A : ∀ w, Calls Tryz.prog 60 #[.string ⟨l.toArray⟩] w fun e w' =>
    e = .returned (.tuple #[.agg #[.bool false, .string ⟨#[]⟩, .string ⟨#[]⟩, .string ⟨#[]⟩], .iface 85 (.int .i64 c)]) ∧ Below w.heap.size w w') (w : World) :
    Calls Tryz.prog 20 #[.string ⟨l.toArray⟩] w fun e w' => e = .returned (.tuple #[.float .f64 0, errV c]) ∧ Below w.heap.size w w' := by
  have HA := Lib.hid A
  have e1 : errV c = .iface 85 (.int .i64 c) := if_neg hc
  have E1 := Lib.hid e1
  clear A e1
  go_enter Tryz.func20, Tryz.ntmps20
  go_wp2_with (go_at_call 60; refine (HA.out _).mono ?_; rintro e w1 ⟨rfl, hb1⟩; obtain ⟨hc1, hf1⟩ := bcell hb1)
  refine bodyPost_ret (v := .tuple #[.float .f64 0, .iface 85 (.int .i64 c)]) (by simp [results, Tryz.results20, go_sem]) rfl ?_
  exact ⟨by rw [E1.out], hb1.trans ((Below.refl _ _).alloc hb1.size _)⟩
theorem numFloat_fin (l : List UInt8) (p : Parts) (v : Nat) (hv : v < 18446744073709551616) (hi : finf v = false) (h64 : ¬ 64 < l.length) (hp : parseL l = some p) (h : PFl l v true) (w : World) (hw : Lay w) :
    Calls Tryz.prog 20 #[.string ⟨l.toArray⟩] w fun e w' => e = .returned (.tuple #[.float .f64 v, .nilIface]) ∧ Below w.heap.size w w' := by
  have HA := Lib.hid (fun w => asks_ok l p w h64 hp)
  have HP := Lib.hid h
  have HG := Lib.hid hw
  have hI := fun w => isInf_any v hv w
  rw [hi] at hI
  have HI := Lib.hid hI
  clear h hp hI
  go_enter Tryz.func20, Tryz.ntmps20
  go_wp2_with (first | (go_at_call 60; refine (HA.out _).mono ?_; rintro e w1 ⟨rfl, hb1⟩; obtain ⟨hc1, hf1⟩ := bcell hb1) | (go_at_call 61; refine (HP.out _ ((HG.out.below hb1).below ((Below.refl _ _).alloc (Nat.le_refl _) _))).mono ?_; rintro e w2 ⟨er, rfl, hn, -, hb2⟩; cases hn rfl) | (go_at_call 19; refine (HI.out _).mono ?_; rintro e w' ⟨rfl, rfl⟩))
  refine bodyPost_ret (v := .tuple #[.float .f64 v, .nilIface]) (by simp [results, Tryz.results20, go_sem]) rfl ?_
  exact ⟨rfl, hb1.trans (((Below.refl _ _).alloc hb1.size _).trans (hb2.mono (by simp; have := hb1.size; omega)))⟩
theorem numFloat_inf (l : List UInt8) (p : Parts) (v : Nat) (ok : Bool) (hv : v < 18446744073709551616) (hi : finf v = true) (h64 : ¬ 64 < l.length) (hp : parseL l = some p) (h : PFl l v ok) (w : World) (hw : Lay w) :
    Calls Tryz.prog 20 #[.string ⟨l.toArray⟩] w fun e w' => e = .returned (.tuple #[.float .f64 0, .iface 85 (.int .i64 1)]) ∧ Below w.heap.size w w' := by
  have HA := Lib.hid (fun w => asks_ok l p w h64 hp)
  have HP := Lib.hid h
  have HG := Lib.hid hw
  have hI := fun w => isInf_any v hv w
  rw [hi] at hI
  have HI := Lib.hid hI
  clear h hp hI
  cases ok
  · go_enter Tryz.func20, Tryz.ntmps20
    go_wp2_with (first | (go_at_call 60; refine (HA.out _).mono ?_; rintro e w1 ⟨rfl, hb1⟩; obtain ⟨hc1, hf1⟩ := bcell hb1) | (go_at_call 61; refine (HP.out _ ((HG.out.below hb1).below ((Below.refl _ _).alloc (Nat.le_refl _) _))).mono ?_; rintro e w2 ⟨er, rfl, -, hn, hb2⟩; obtain ⟨te, pe, hte⟩ := hn rfl; subst hte))
    refine bodyPost_ret (v := .tuple #[.float .f64 0, .iface 85 (.int .i64 1)]) (by simp [results, Tryz.results20, go_sem]) rfl ?_
    exact ⟨rfl, hb1.trans (((Below.refl _ _).alloc hb1.size _).trans (hb2.mono (by simp; have := hb1.size; omega)))⟩
  · go_enter Tryz.func20, Tryz.ntmps20
    go_wp2_with (first | (go_at_call 60; refine (HA.out _).mono ?_; rintro e w1 ⟨rfl, hb1⟩; obtain ⟨hc1, hf1⟩ := bcell hb1) | (go_at_call 61; refine (HP.out _ ((HG.out.below hb1).below ((Below.refl _ _).alloc (Nat.le_refl _) _))).mono ?_; rintro e w2 ⟨er, rfl, hn, -, hb2⟩; cases hn rfl) | (go_at_call 19; refine (HI.out _).mono ?_; rintro e w' ⟨rfl, rfl⟩))
    refine bodyPost_ret (v := .tuple #[.float .f64 0, .iface 85 (.int .i64 1)]) (by simp [results, Tryz.results20, go_sem]) rfl ?_
    exact ⟨rfl, hb1.trans (((Below.refl _ _).alloc hb1.size _).trans (hb2.mono (by simp; have := hb1.size; omega)))⟩

theorem docMax_nan {x : Nat} (hn : fnan x = true) : (FloatKind.f64.format.order x 9218868437227405311 == some .gt) = false ∧ (FloatKind.f64.format.order x 18442240474082181119 == some .lt) = false := by
  have e1 : FloatKind.f64.format.order x 9218868437227405311 = none := forder_nan_left hn
  have e2 : FloatKind.f64.format.order x 18442240474082181119 = none := forder_nan_left hn
  rw [e1, e2]; exact ⟨rfl, rfl⟩
/-- the document's test for infinities -/
theorem docMax_any (x : Nat) (hx : x < 18446744073709551616) : ∃ c1 c2 : Bool, (FloatKind.f64.format.order x 9218868437227405311 == some .gt) = c1 ∧ (FloatKind.f64.format.order x 18442240474082181119 == some .lt) = c2 ∧ (c1 || c2) = finf x := by
  cases hn : fnan x
  · obtain ⟨a, b⟩ := docMax x hx hn
    exact ⟨_, _, a, b, by cases finf x <;> cases fneg x <;> rfl⟩
  · obtain ⟨a, b⟩ := docMax_nan hn
    refine ⟨_, _, a, b, ?_⟩
    unfold finf
    unfold fnan at hn
    have : I52 < frung x := by simpa using hn
    rw [decide_eq_false (by omega)]; rfl
theorem docFloat_none (l : List UInt8) (hl : l.length ≤ 1000) (hp : parseL l = none) (w : World) :
    Calls Tryz.prog 25 #[.string ⟨l.toArray⟩] w fun e w' => e = .returned (.tuple #[.float .f64 0, .int .i64 (if 64 < l.length then 3 else 2)]) ∧ Below w.heap.size w w' := by
  have HA := Lib.hid (fun w => parse_ref_none l w (by omega) hp)
  obtain ⟨c, hc⟩ : ∃ c : Int, c = (if 64 < l.length then 3 else 2) := ⟨_, rfl⟩
  have hc0 : (c != 0) = true := by rw [hc]; split <;> rfl
  rw [← hc] at HA ⊢
  clear hp hc
  go_enter Tryz.func25, Tryz.ntmps25
  go_wp2_with (go_at_call 24; refine (HA.out _).mono ?_; rintro e w1 ⟨rfl, hb1⟩; obtain ⟨hc1, hf1⟩ := bcell hb1)
  refine bodyPost_ret (v := .tuple #[.float .f64 0, .int .i64 c]) (by simp [results, Tryz.results25, go_sem]) rfl ?_
  exact ⟨rfl, hb1.trans ((Below.refl _ _).alloc hb1.size _)⟩
theorem docFloat_some (l : List UInt8) (p : Parts) (v : Nat) (ok : Bool) (hv : v < 18446744073709551616) (h64 : ¬ 64 < l.length) (hp : parseL l = some p) (h : PFl l v ok) (w : World) (hw : Lay w) :
    Calls Tryz.prog 25 #[.string ⟨l.toArray⟩] w fun e w' => e = .returned (.tuple #[.float .f64 (if finf v then 0 else v), .int .i64 (if finf v then 1 else 0)]) ∧ Below w.heap.size w w' := by
  have HA := Lib.hid (fun w => parse_ref_some l w p (by omega) hp)
  have HP := Lib.hid h
  have HG := Lib.hid hw
  obtain ⟨c1, c2, k1, k2, k3⟩ := docMax_any v hv
  rw [← k3]
  clear h hp k3
  cases c1 <;> cases c2 <;> (go_enter Tryz.func25, Tryz.ntmps25)
  all_goals (go_wp2_with (first | (go_at_call 24; refine (HA.out _).mono ?_; rintro e w1 ⟨A, cA, rfl, hb1, hfg⟩; obtain ⟨hc1, hf1⟩ := bcell hb1) | (go_at_call 61; refine (HP.out _ ((HG.out.below hb1).below ((Below.refl _ _).alloc (Nat.le_refl _) _))).mono ?_; rintro e w2 ⟨er, rfl, -, -, hb2⟩)))
  all_goals (first
    | (refine bodyPost_ret (v := .tuple #[.float .f64 v, .int .i64 0]) (by simp [results, Tryz.results25, go_sem]) rfl ?_
       exact ⟨rfl, hb1.trans (((Below.refl _ _).alloc hb1.size _).trans (hb2.mono (by simp; have := hb1.size; omega)))⟩)
    | (refine bodyPost_ret (v := .tuple #[.float .f64 0, .int .i64 1]) (by simp [results, Tryz.results25, go_sem]) rfl ?_
       exact ⟨rfl, hb1.trans (((Below.refl _ _).alloc hb1.size _).trans (hb2.mono (by simp; have := hb1.size; omega)))⟩))
theorem code_ne (l : List UInt8) : (if 64 < l.length then (3 : Int) else 2) ≠ 0 := by split <;> decide
theorem fl_none (l : List UInt8) (hl : l.length ≤ 1000) (hp : parseL l = none) : FlBoth l 0 (if 64 < l.length then 3 else 2) := by
  refine ⟨by decide, fun w hw => ?_, fun w hw => docFloat_none l hl hp w⟩
  refine numFloat_none l hl _ (code_ne l) (fun w => ?_) w
  by_cases h : 64 < l.length
  · rw [if_pos h]; exact asks_long l w h (by omega)
  · rw [if_neg h]; exact asks_form l w h hp
theorem fl_some (l : List UInt8) (p : Parts) (v : Nat) (ok : Bool) (hv : v < 18446744073709551616) (hok : ok = false → finf v = true) (h64 : ¬ 64 < l.length) (hp : parseL l = some p) (h : PFl l v ok) :
    FlBoth l (if finf v then 0 else v) (if finf v then 1 else 0) := by
  refine ⟨by split <;> omega, fun w hw => ?_, fun w hw => docFloat_some l p v ok hv h64 hp h w hw⟩
  cases hi : finf v
  · cases ok
    · rw [hok rfl] at hi; cases hi
    · exact numFloat_fin l p v hv hi h64 hp h w hw
  · exact numFloat_inf l p v ok hv hi h64 hp h w hw

/-- a float's text and its error's number -/
theorem text_both (x : Nat) (hx : x < 18446744073709551616) : ∃ (t : List UInt8) (c : Int), (∀ w, Lay w → Calls Tryz.prog 15 #[.float .f64 x] w fun e w' => e = .returned (.tuple #[.string ⟨t.toArray⟩, errV c]) ∧ Below w.heap.size w w') ∧
    (∀ w, Lay w → Calls Tryz.prog 16 #[.float .f64 x] w fun e w' => e = .returned (.tuple #[.string ⟨t.toArray⟩, .int .i64 c]) ∧ Below w.heap.size w w') := by
  by_cases h : frung x < I52
  · refine ⟨textR x, 0, fun w hw => ?_, fun w hw => ?_⟩
    · exact text_good x hx h w hw.g hw.t (by have := hw.size; omega)
    · exact doc_good x hx h w hw.g hw.t (by have := hw.size; omega)
  · refine ⟨[], 1, fun w hw => ?_, fun w hw => ?_⟩
    · exact (text_bad x hx (by omega) w).mono fun e w' hh => ⟨hh.1, by rw [hh.2]; exact Below.refl _ _⟩
    · exact (doc_bad x hx (by omega) w).mono fun e w' hh => ⟨hh.1, by rw [hh.2]; exact Below.refl _ _⟩
/-- is it a number's text? -/
theorem is_any (l : List UInt8) (w : World) (hl : l.length ≤ 1000) : Calls Tryz.prog 26 #[.string ⟨l.toArray⟩] w fun e w' => e = .returned (.bool (parseL l).isSome) ∧ Below w.heap.size w w' := by
  have hA : ∀ w, Calls Tryz.prog 66 #[.string ⟨l.toArray⟩] w (PRes w (parseL l)) := by
    intro w
    by_cases h : 64 < l.length
    · exact parse_long l w h (by omega)
    · exact parse_any l w h
  have HA := Lib.hid hA
  clear hA
  cases hp : parseL l with
  | none =>
    rw [hp] at HA
    go_enter Tryz.func26, Tryz.ntmps26
    go_wp2_with (go_at_call 66; refine (HA.out _).mono ?_; rintro e w1 ⟨hb1, rfl⟩; obtain ⟨hc1, hf1⟩ := bcell hb1)
    go_ret
    exact ⟨rfl, hb1.trans ((Below.refl _ _).alloc hb1.size _)⟩
  | some p =>
    rw [hp] at HA
    go_enter Tryz.func26, Tryz.ntmps26
    go_wp2_with (go_at_call 66; refine (HA.out _).mono ?_; rintro e w1 ⟨hb1, rfl⟩; obtain ⟨hc1, hf1⟩ := bcell hb1)
    go_ret
    exact ⟨rfl, hb1.trans ((Below.refl _ _).alloc hb1.size _)⟩
end Go.Proofs.YtlmogijkkhdogaaGreatDoor
