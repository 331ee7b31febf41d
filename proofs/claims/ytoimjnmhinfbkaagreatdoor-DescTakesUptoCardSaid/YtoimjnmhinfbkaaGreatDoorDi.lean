import Derived.Test.YtoimjnmhinfbkaaGreatDoorDh
namespace Go.Proofs.YtoimjnmhinfbkaaGreatDoor
open Go.RowKit
set_option maxRecDepth 100000

theorem digA_codes {v : V} {p : ByteArray} {b : Int × ByteArray} (h : digA v p = .error b) : b.1 ≠ 0 := by
  unfold digA at h
  split at h
  · rename_i h1; injection h with h; subst h; have := fieldA_codes h1; omega
  · split at h
    · rename_i h1; injection h with h; subst h; have := textA_codes h1; omega
    · split at h
      · cases h
      · injection h with h; subst h; simp
theorem sizeA_codes {v : V} {p : ByteArray} {b : Int × ByteArray} (h : sizeA v p = .error b) : b.1 ≠ 0 := by
  unfold sizeA at h
  split at h
  · rename_i h1; injection h with h; subst h; have := fieldA_codes h1; omega
  · exact wholeA_codes h
theorem platsA_codes {v : V} {p : ByteArray} {b : Int × ByteArray} (h : platsA v p = .error b) : b.1 ≠ 0 := by
  unfold platsA at h
  split at h
  · cases h
  · exact platA_codes h
theorem takeA_codes {v : V} {p : ByteArray} {b : Int × ByteArray} (h : takeA v p = .error b) : b.1 ≠ 0 := by
  unfold takeA at h
  split at h
  · rename_i h1; injection h with h; subst h; exact filledA_codes h1
  · split at h
    · rename_i h1; injection h with h; subst h; exact digA_codes h1
    · split at h
      · rename_i h1; injection h with h; subst h; exact sizeA_codes h1
      · split at h
        · rename_i h1; injection h with h; subst h; exact platsA_codes h1
        · cases h

/-- an error: none, or a fault of a code at a place; what is its own lies from 'lo' on. -/
def ErrAt (lo : Nat) (w : World) (ev : Value) (c : Int) (p : ByteArray) : Prop :=
  (ev = .nilIface ∧ c = 0 ∧ p = ⟨#[]⟩) ∨ ∃ g, ev = .iface 106 (.pointer (some ⟨g, 0, none⟩)) ∧ lo ≤ g ∧ c ≠ 0 ∧ w.heap[g]? = some (.cells #[.int .i64 c, .string p] 114 (0, 0))

theorem ErrAt.step {lo : Nat} {w w' : World} {ev : Value} {c : Int} {p : ByteArray} (h : ErrAt lo w ev c p) (hk : ∀ g, lo ≤ g → g < w.heap.size → w'.heap[g]? = w.heap[g]?) : ErrAt lo w' ev c p := by
  rcases h with h | ⟨g, h1, h2, h4, h3⟩
  · exact .inl h
  · exact .inr ⟨g, h1, h2, h4, (hk g h2 (Array.getElem?_eq_some_iff.1 h3).1).trans h3⟩
theorem ErrAt.below {lo : Nat} {w w' : World} {ev : Value} {c : Int} {p : ByteArray} (h : ErrAt lo w ev c p) (hb : Below w.heap.size w w') : ErrAt lo w' ev c p := h.step fun g _ hg => hb.block g hg
theorem ErrAt.mono {lo lo' : Nat} {w : World} {ev : Value} {c : Int} {p : ByteArray} (h : ErrAt lo w ev c p) (hl : lo' ≤ lo) : ErrAt lo' w ev c p := by
  rcases h with h | ⟨g, h1, h2, h4, h3⟩
  · exact .inl h
  · exact .inr ⟨g, h1, by omega, h4, h3⟩

set_option maxHeartbeats 800000 in
theorem found_any (lo : Nat) (w : World) (ev : Value) (c : Int) (p : ByteArray) (h : ErrAt lo w ev c p) : Calls Tryz.prog 27 #[ev] w fun e w' => e = .returned (.agg #[.int .i64 c, .string p]) ∧ Below w.heap.size w w' := by
  rcases h with ⟨rfl, rfl, rfl⟩ | ⟨g, rfl, -, -, hg⟩
  · go_enter Tryz.func27, Tryz.ntmps27
    go_wp2_with (first | (go_at_call 14; refine (code_nil _).mono ?_; rintro e w2 ⟨rfl, rfl⟩) | (go_at_call 15; refine (where_nil _).mono ?_; rintro e w2 ⟨rfl, rfl⟩))
    refine bodyPost_ret (v := .agg #[.int .i64 0, .string ⟨#[]⟩]) (by simp [results, Tryz.results27, go_sem]) rfl ⟨rfl, ?_⟩
    (repeat (first | with_reducible refine Below.setCell ?_ (by simp) _))
    exact (Below.refl _ _).alloc (Nat.le_refl _) _
  · have h0 := cell_of_row w g 0 _ 114 (0, 0) hg
    have h1 := cell_of_row w g 1 _ 114 (0, 0) hg
    have hlt : g < w.heap.size := (Array.getElem?_eq_some_iff.1 hg).1
    have k0 : ∀ W, Below w.heap.size w W → W.cell? ⟨g, 0, none⟩ = some (.int .i64 c) := fun W hW => (hW.cell (p := ⟨g, 0, none⟩) hlt).trans h0
    have k1 : ∀ W, Below w.heap.size w W → W.cell? ⟨g, 1, none⟩ = some (.string p) := fun W hW => (hW.cell (p := ⟨g, 1, none⟩) hlt).trans h1
    have K0 := Lib.hid k0
    have K1 := Lib.hid k1
    clear h0 h1 k0 k1 hg
    go_enter Tryz.func27, Tryz.ntmps27
    go_wp2_with (first | (go_at_call 14; refine (code_fault g c _ (K0.out _ ((Below.refl _ _).alloc (Nat.le_refl _) _))).mono ?_; rintro e w2 ⟨rfl, rfl⟩) | (go_at_call 15; refine (where_fault g p _ (K1.out _ ((Below.refl _ _).alloc (Nat.le_refl _) _))).mono ?_; rintro e w2 ⟨rfl, rfl⟩))
    refine bodyPost_ret (v := .agg #[.int .i64 c, .string p]) (by simp [results, Tryz.results27, go_sem]) rfl ⟨rfl, ?_⟩
    (repeat (first | with_reducible refine Below.setCell ?_ (by simp) _))
    exact (Below.refl _ _).alloc (Nat.le_refl _) _

theorem doc_desc (m n : ByteArray) (z : Int) (a b c : ByteArray) (w : World) : Calls Tryz.prog 26 #[.agg #[.string m, .string n, .int .i64 z, .string a, .string b, .string c]] w fun e w' => e = .returned (.agg #[.string m, .string n, .int .i64 z, .string a, .string b, .string c]) ∧ Below w.heap.size w w' := by
  go_enter Tryz.func26, Tryz.ntmps26
  go_wp2
  refine bodyPost_ret (v := .agg #[.string m, .string n, .int .i64 z, .string a, .string b, .string c]) (by simp [results, Tryz.results26, go_sem]) rfl ⟨rfl, ?_⟩
  (repeat (first | with_reducible refine Below.setCell ?_ (by simp) _))
  exact ((Below.refl _ _).alloc (Nat.le_refl _) _).alloc (by simp) _

/-- a function that was called by 'Try' came to its end: block bg has these cells. -/
def FnOK (B0 : Nat) (w : World) (bg : Nat) (cells : Array Value) (t : TypeId) (e : Ending) (w' : World) : Prop :=
  e = .returned (.tuple #[]) ∧ Below B0 w w' ∧ Also (fun b => b ≠ bg) w w' ∧ w'.heap[bg]? = some (.cells cells t (0, 0))
/-- what 'Try' answers of it. -/
def TryD (B0 : Nat) (w : World) (bg : Nat) (cells : Array Value) (t : TypeId) (c : Int) (p : ByteArray) (e : Ending) (w' : World) : Prop :=
  ∃ ev, e = .returned ev ∧ ErrAt w.heap.size w' ev c p ∧ Below B0 w w' ∧ Also (fun b => b ≠ bg) w w' ∧ w'.heap[bg]? = some (.cells cells t (0, 0))

theorem try_fn_ok {K : FuncId} {cap : Array Value} {w : World} {B0 bg : Nat} {cells : Array Value} {t : TypeId} (hent : ∀ w, (callFunc K cap).run Tryz.prog w = .ok (.enter K cap) w) (hB : B0 ≤ w.heap.size) (hbg : bg < w.heap.size)
    (h : Calls Tryz.prog K cap (w.alloc (.cells #[.nilIface] 29)) (FnOK B0 (w.alloc (.cells #[.nilIface] 29)) bg cells t)) :
    Calls Tryz.prog 10 #[.func (.func K) #[] cap] w (TryD B0 w bg cells t 0 ⟨#[]⟩) := by
  refine try_any hent (h.mono ?_)
  rintro e w2 ⟨rfl, hb, hal, hc⟩
  have h0 : w2.heap[w.heap.size]? = some (.cells #[.nilIface] 29 (0, 0)) := (hal.block _ (by omega) (by simp)).trans (heap_alloc_new w _)
  have hz := hal.size
  simp at hz
  refine ⟨cell_of_row w2 _ 0 _ 29 (0, 0) h0, by simp [World.frozen?, h0], .inl ⟨rfl, .nilIface, rfl, .inl ⟨rfl, rfl, rfl⟩, ?_, ?_, ?_⟩⟩
  · exact (((Below.refl _ _).alloc hB _).trans hb).setCell (by simp only; omega) _
  · refine ⟨by rw [setCell_size]; omega, fun b hb2 hlt => ?_⟩
    rw [Below.heap_setCell _ _ _ b (by simp only; omega), hal.block b hb2 (by simp; omega)]
    exact Below.heap_alloc w _ b hlt
  · rw [Below.heap_setCell _ _ _ bg (by simp only; omega)]; exact hc

theorem try_fn_bad {K : FuncId} {cap : Array Value} {w : World} {B0 bg : Nat} {cells : Array Value} {t : TypeId} {c : Int} {s : ByteArray} (hent : ∀ w, (callFunc K cap).run Tryz.prog w = .ok (.enter K cap) w) (hB : B0 ≤ w.heap.size) (hcn : c ≠ 0)
    (hbg : w.heap[bg]? = some (.cells cells t (0, 0)))
    (h : Calls Tryz.prog K cap (w.alloc (.cells #[.nilIface] 29)) (Threw (w.alloc (.cells #[.nilIface] 29)) c s)) :
    Calls Tryz.prog 10 #[.func (.func K) #[] cap] w (TryD B0 w bg cells t c s) := by
  have hlt : bg < w.heap.size := (Array.getElem?_eq_some_iff.1 hbg).1
  refine try_any hent (h.mono ?_)
  rintro e w2 ⟨g, rfl, hg1, hg2, hg3, hb⟩
  have h0 : w2.heap[w.heap.size]? = some (.cells #[.nilIface] 29 (0, 0)) := (hb.block _ (by simp)).trans (heap_alloc_new w _)
  have hz := hb.size
  simp at hg1 hz
  have key : ∀ b, b < w.heap.size → (w2.setCell ⟨w.heap.size, 0, none⟩ (.iface 106 (.pointer (some ⟨g, 0, none⟩)))).heap[b]? = w.heap[b]? := fun b hlt => by
    rw [Below.heap_setCell _ _ _ b (by simp only; omega), hb.block b (by simp; omega)]
    exact Below.heap_alloc w _ b hlt
  refine ⟨cell_of_row w2 _ 0 _ 29 (0, 0) h0, by simp [World.frozen?, h0], .inr ⟨some ⟨g, 0, none⟩, rfl, _, rfl, .inr ⟨g, rfl, by omega, hcn, ?_⟩, ?_, ?_, ?_⟩⟩
  · rw [Below.heap_setCell _ _ _ g (by simp only; omega)]; exact hg3
  · exact ((((Below.refl _ _).alloc hB _).trans (hb.mono (by simp; omega))).setCell (by simp only; omega) _)
  · exact ⟨by rw [setCell_size]; omega, fun b _ hlt => key b hlt⟩
  · exact (key bg hlt).trans hbg

def descC (r : DescT) : Array Value := #[.string r.1, .string r.2.1, .int .i64 r.2.2.1, .string r.2.2.2.1, .string r.2.2.2.2.1, .string r.2.2.2.2.2]
def platC (r : ByteArray × ByteArray × ByteArray) : Array Value := #[.string r.1, .string r.2.1, .string r.2.2]

set_option maxHeartbeats 800000 in
theorem try_take69 (v : V) (cs : List Value) (w : World) (S : Nat → Prop) (bv bg B0 : Nat) (hg : Glob w) (hbv : w.heap[bv]? = some (.cells cs.toArray 27 (0, 0))) (hv : v.Rep w S cs) (hb : v.bulk ≤ 4194304) (hbg : w.heap[bg]? = some (.cells #[.string ⟨#[]⟩, .string ⟨#[]⟩, .int .i64 0, .string ⟨#[]⟩, .string ⟨#[]⟩, .string ⟨#[]⟩] 62 (0, 0))) (hB : B0 ≤ bg) :
    Calls Tryz.prog 10 #[.func (.func 69) #[] #[.pointer (some ⟨bv, 0, none⟩), .pointer (some ⟨bg, 0, none⟩)]] w (TryD B0 w bg (descC (descE (takeA v ⟨#[]⟩))) 62 (codeE (takeA v ⟨#[]⟩)) (whereE (takeA v ⟨#[]⟩))) := by
  have lv : bv < w.heap.size := (Array.getElem?_eq_some_iff.1 hbv).1
  have lg : bg < w.heap.size := (Array.getElem?_eq_some_iff.1 hbg).1
  obtain ⟨W, hW⟩ : ∃ W, W = w.alloc (.cells #[.nilIface] 29) := ⟨_, rfl⟩
  have hbv2 : W.heap[bv]? = some (.cells cs.toArray 27 (0, 0)) := by rw [hW, alloc_before lv]; exact hbv
  have hbg2 : W.heap[bg]? = some (.cells #[.string ⟨#[]⟩, .string ⟨#[]⟩, .int .i64 0, .string ⟨#[]⟩, .string ⟨#[]⟩, .string ⟨#[]⟩] 62 (0, 0)) := by rw [hW, alloc_before lg]; exact hbg
  have hg2 : Glob W := hg.below (by rw [hW]; exact (Below.refl _ _).alloc (Nat.le_refl _) _)
  have hv2 : v.Rep W S cs := hv.agree fun b hs hlt => ⟨by rw [hW]; exact Below.heap_alloc w _ b hlt, hs⟩
  have hzW : W.heap.size = w.heap.size + 1 := by rw [hW]; simp
  have HB := Lib.hid hB
  have HG := Lib.hid hg2
  have HV := Lib.hid hv2
  have HOF := Lib.hid (of_any v cs W S hv2 hb)
  have HBG := Lib.hid hbg2
  obtain ⟨A, ca, B, cb, rfl, -⟩ := hv.open
  have cv := fun o => cell_of_row W bv o _ 27 (0, 0) hbv2
  have lgW : bg < W.heap.size := by omega
  cases hr : takeA v ⟨#[]⟩ with
  | error b =>
    obtain ⟨c, z⟩ := b
    refine try_fn_bad (fun _ => by kernel_rfl) (by omega) (takeA_codes hr) hbg ?_
    rw [← hW]
    have HR := Lib.hid hr
    clear hr hW hbv hbv2 hbg hbg2 hg hg2 hv hv2 hB
    go_enter Tryz.func69, Tryz.ntmps69
    go_wp2_with fail
    refine HOF.out.mono ?_
    rintro e w1 ⟨cs1, rfl, hr1, hb1⟩
    have H2 := Lib.hid (take_any v cs1 ⟨#[]⟩ w1 _ (HG.out.below hb1) hr1 hb (by decide))
    obtain ⟨A1, ca1, B1, cb1, rfl, -⟩ := hr1.open
    have HB1 := Lib.hid hb1
    clear hr1 hb1
    go_wp2_with fail
    refine H2.out.mono ?_
    rintro e w2 h2
    rw [HR.out] at h2
    obtain ⟨g, rfl, hth⟩ := h2
    go_wp2
    exact ⟨rfl, Threw.of ⟨g, rfl, hth⟩ HB1.out⟩
  | ok r =>
    obtain ⟨r1, r2, r3, r4, r5, r6⟩ := r
    refine try_fn_ok (fun _ => by kernel_rfl) (by omega) lg ?_
    rw [← hW]
    have HR := Lib.hid hr
    clear hr hW hbv hbv2 hbg hbg2 hg hg2 hv hv2 hB
    go_enter Tryz.func69, Tryz.ntmps69
    go_wp2_with fail
    refine HOF.out.mono ?_
    rintro e w1 ⟨cs1, rfl, hr1, hb1⟩
    have H2 := Lib.hid (take_any v cs1 ⟨#[]⟩ w1 _ (HG.out.below hb1) hr1 hb (by decide))
    obtain ⟨A1, ca1, B1, cb1, rfl, -⟩ := hr1.open
    have HB1 := Lib.hid hb1
    clear hr1 hb1
    go_wp2_with fail
    refine H2.out.mono ?_
    rintro e w2 h2
    rw [HR.out] at h2
    obtain ⟨val, rfl, hval, hb2⟩ := h2
    have hv' : val = .agg #[.string r1, .string r2, .int .i64 r3, .string r4, .string r5, .string r6] := hval
    subst hv'
    have hbw := HB1.out.trans (hb2.mono HB1.out.size)
    have hb2g := (hbw.block bg lgW).trans HBG.out
    have HBW := Lib.hid hbw
    have HB2G := Lib.hid hb2g
    have cg := fun o => cell_of_row w2 bg o _ 62 (0, 0) hb2g
    have fg : ∀ o, w2.frozen? ⟨bg, o, none⟩ = false := fun o => by simp [World.frozen?, hb2g]
    clear hbw hb2g hb2 hval
    go_wp2
    go_end0
    refine ⟨rfl, ?_, ?_, ?_⟩
    · (repeat (first | with_reducible refine Below.setCell ?_ (by exact HB.out) _))
      exact HBW.out.mono (by have := HB.out; omega)
    · (repeat (first | with_reducible refine Also.setCell ?_ (by simp) _))
      exact ⟨HBW.out.size, fun b _ hlt => HBW.out.block b hlt⟩
    · exact blk_set (blk_set (blk_set (blk_set (blk_set (blk_set (HB2G.out) 0 _) 1 _) 2 _) 3 _) 4 _) 5 _

set_option maxHeartbeats 800000 in
theorem try_take28 (v : V) (cs : List Value) (w : World) (S : Nat → Prop) (bv bg B0 : Nat) (hg : Glob w) (hbv : w.heap[bv]? = some (.cells cs.toArray 27 (0, 0))) (hv : v.Rep w S cs) (hb : v.bulk ≤ 4194304) (hbg : w.heap[bg]? = some (.cells #[.string ⟨#[]⟩, .string ⟨#[]⟩, .int .i64 0, .string ⟨#[]⟩, .string ⟨#[]⟩, .string ⟨#[]⟩] 62 (0, 0))) (hB : B0 ≤ bg) :
    Calls Tryz.prog 10 #[.func (.func 28) #[] #[.pointer (some ⟨bv, 0, none⟩), .pointer (some ⟨bg, 0, none⟩)]] w (TryD B0 w bg (descC (descE (takeA v ⟨#[]⟩))) 62 (codeE (takeA v ⟨#[]⟩)) (whereE (takeA v ⟨#[]⟩))) := by
  have lv : bv < w.heap.size := (Array.getElem?_eq_some_iff.1 hbv).1
  have lg : bg < w.heap.size := (Array.getElem?_eq_some_iff.1 hbg).1
  obtain ⟨W, hW⟩ : ∃ W, W = w.alloc (.cells #[.nilIface] 29) := ⟨_, rfl⟩
  have hbv2 : W.heap[bv]? = some (.cells cs.toArray 27 (0, 0)) := by rw [hW, alloc_before lv]; exact hbv
  have hbg2 : W.heap[bg]? = some (.cells #[.string ⟨#[]⟩, .string ⟨#[]⟩, .int .i64 0, .string ⟨#[]⟩, .string ⟨#[]⟩, .string ⟨#[]⟩] 62 (0, 0)) := by rw [hW, alloc_before lg]; exact hbg
  have hg2 : Glob W := hg.below (by rw [hW]; exact (Below.refl _ _).alloc (Nat.le_refl _) _)
  have hv2 : v.Rep W S cs := hv.agree fun b hs hlt => ⟨by rw [hW]; exact Below.heap_alloc w _ b hlt, hs⟩
  have hzW : W.heap.size = w.heap.size + 1 := by rw [hW]; simp
  have HB := Lib.hid hB
  have HG := Lib.hid hg2
  have HV := Lib.hid hv2
  have HOF := Lib.hid (of_any v cs W S hv2 hb)
  have HBG := Lib.hid hbg2
  obtain ⟨A, ca, B, cb, rfl, -⟩ := hv.open
  have cv := fun o => cell_of_row W bv o _ 27 (0, 0) hbv2
  have lgW : bg < W.heap.size := by omega
  cases hr : takeA v ⟨#[]⟩ with
  | error b =>
    obtain ⟨c, z⟩ := b
    refine try_fn_bad (fun _ => by kernel_rfl) (by omega) (takeA_codes hr) hbg ?_
    rw [← hW]
    have HR := Lib.hid hr
    clear hr hW hbv hbv2 hbg hbg2 hg hg2 hv hv2 hB
    go_enter Tryz.func28, Tryz.ntmps28
    go_wp2_with fail
    refine HOF.out.mono ?_
    rintro e w1 ⟨cs1, rfl, hr1, hb1⟩
    have H2 := Lib.hid (take_any v cs1 ⟨#[]⟩ w1 _ (HG.out.below hb1) hr1 hb (by decide))
    obtain ⟨A1, ca1, B1, cb1, rfl, -⟩ := hr1.open
    have HB1 := Lib.hid hb1
    clear hr1 hb1
    go_wp2_with fail
    refine H2.out.mono ?_
    rintro e w2 h2
    rw [HR.out] at h2
    obtain ⟨g, rfl, hth⟩ := h2
    go_wp2
    exact ⟨rfl, Threw.of ⟨g, rfl, hth⟩ HB1.out⟩
  | ok r =>
    obtain ⟨r1, r2, r3, r4, r5, r6⟩ := r
    refine try_fn_ok (fun _ => by kernel_rfl) (by omega) lg ?_
    rw [← hW]
    have HR := Lib.hid hr
    clear hr hW hbv hbv2 hbg hbg2 hg hg2 hv hv2 hB
    go_enter Tryz.func28, Tryz.ntmps28
    go_wp2_with fail
    refine HOF.out.mono ?_
    rintro e w1 ⟨cs1, rfl, hr1, hb1⟩
    have H2 := Lib.hid (take_any v cs1 ⟨#[]⟩ w1 _ (HG.out.below hb1) hr1 hb (by decide))
    obtain ⟨A1, ca1, B1, cb1, rfl, -⟩ := hr1.open
    have HB1 := Lib.hid hb1
    clear hr1 hb1
    go_wp2_with fail
    refine H2.out.mono ?_
    rintro e w2 h2
    rw [HR.out] at h2
    obtain ⟨val, rfl, hval, hb2⟩ := h2
    have hv' : val = .agg #[.string r1, .string r2, .int .i64 r3, .string r4, .string r5, .string r6] := hval
    subst hv'
    have hbw := HB1.out.trans (hb2.mono HB1.out.size)
    have hb2g := (hbw.block bg lgW).trans HBG.out
    have HBW := Lib.hid hbw
    have HB2G := Lib.hid hb2g
    have cg := fun o => cell_of_row w2 bg o _ 62 (0, 0) hb2g
    have fg : ∀ o, w2.frozen? ⟨bg, o, none⟩ = false := fun o => by simp [World.frozen?, hb2g]
    clear hbw hb2g hb2 hval
    go_wp2
    go_end0
    refine ⟨rfl, ?_, ?_, ?_⟩
    · (repeat (first | with_reducible refine Below.setCell ?_ (by exact HB.out) _))
      exact HBW.out.mono (by have := HB.out; omega)
    · (repeat (first | with_reducible refine Also.setCell ?_ (by simp) _))
      exact ⟨HBW.out.size, fun b _ hlt => HBW.out.block b hlt⟩
    · exact blk_set (blk_set (blk_set (blk_set (blk_set (blk_set (HB2G.out) 0 _) 1 _) 2 _) 3 _) 4 _) 5 _

set_option maxHeartbeats 800000 in
theorem try_plat30 (v : V) (cs : List Value) (w : World) (S : Nat → Prop) (bv bg B0 : Nat) (hg : Glob w) (hbv : w.heap[bv]? = some (.cells cs.toArray 27 (0, 0))) (hv : v.Rep w S cs) (hb : v.bulk ≤ 4194304) (hbg : w.heap[bg]? = some (.cells #[.string ⟨#[]⟩, .string ⟨#[]⟩, .string ⟨#[]⟩] 60 (0, 0))) (hB : B0 ≤ bg) :
    Calls Tryz.prog 10 #[.func (.func 30) #[] #[.pointer (some ⟨bv, 0, none⟩), .pointer (some ⟨bg, 0, none⟩)]] w (TryD B0 w bg (platC (platE (platA v ⟨#[]⟩))) 60 (codeE (platA v ⟨#[]⟩)) (whereE (platA v ⟨#[]⟩))) := by
  have lv : bv < w.heap.size := (Array.getElem?_eq_some_iff.1 hbv).1
  have lg : bg < w.heap.size := (Array.getElem?_eq_some_iff.1 hbg).1
  obtain ⟨W, hW⟩ : ∃ W, W = w.alloc (.cells #[.nilIface] 29) := ⟨_, rfl⟩
  have hbv2 : W.heap[bv]? = some (.cells cs.toArray 27 (0, 0)) := by rw [hW, alloc_before lv]; exact hbv
  have hbg2 : W.heap[bg]? = some (.cells #[.string ⟨#[]⟩, .string ⟨#[]⟩, .string ⟨#[]⟩] 60 (0, 0)) := by rw [hW, alloc_before lg]; exact hbg
  have hg2 : Glob W := hg.below (by rw [hW]; exact (Below.refl _ _).alloc (Nat.le_refl _) _)
  have hv2 : v.Rep W S cs := hv.agree fun b hs hlt => ⟨by rw [hW]; exact Below.heap_alloc w _ b hlt, hs⟩
  have hzW : W.heap.size = w.heap.size + 1 := by rw [hW]; simp
  have HB := Lib.hid hB
  have HG := Lib.hid hg2
  have HV := Lib.hid hv2
  have HOF := Lib.hid (of_any v cs W S hv2 hb)
  have HBG := Lib.hid hbg2
  obtain ⟨A, ca, B, cb, rfl, -⟩ := hv.open
  have cv := fun o => cell_of_row W bv o _ 27 (0, 0) hbv2
  have lgW : bg < W.heap.size := by omega
  cases hr : platA v ⟨#[]⟩ with
  | error b =>
    obtain ⟨c, z⟩ := b
    refine try_fn_bad (fun _ => by kernel_rfl) (by omega) (platA_codes hr) hbg ?_
    rw [← hW]
    have HR := Lib.hid hr
    clear hr hW hbv hbv2 hbg hbg2 hg hg2 hv hv2 hB
    go_enter Tryz.func30, Tryz.ntmps30
    go_wp2_with fail
    refine HOF.out.mono ?_
    rintro e w1 ⟨cs1, rfl, hr1, hb1⟩
    have H2 := Lib.hid (plat_any v cs1 ⟨#[]⟩ w1 _ hr1 hb (by decide))
    obtain ⟨A1, ca1, B1, cb1, rfl, -⟩ := hr1.open
    have HB1 := Lib.hid hb1
    clear hr1 hb1
    go_wp2_with fail
    refine H2.out.mono ?_
    rintro e w2 h2
    rw [HR.out] at h2
    obtain ⟨g, rfl, hth⟩ := h2
    go_wp2
    exact ⟨rfl, Threw.of ⟨g, rfl, hth⟩ HB1.out⟩
  | ok r =>
    obtain ⟨r1, r2, r3⟩ := r
    refine try_fn_ok (fun _ => by kernel_rfl) (by omega) lg ?_
    rw [← hW]
    have HR := Lib.hid hr
    clear hr hW hbv hbv2 hbg hbg2 hg hg2 hv hv2 hB
    go_enter Tryz.func30, Tryz.ntmps30
    go_wp2_with fail
    refine HOF.out.mono ?_
    rintro e w1 ⟨cs1, rfl, hr1, hb1⟩
    have H2 := Lib.hid (plat_any v cs1 ⟨#[]⟩ w1 _ hr1 hb (by decide))
    obtain ⟨A1, ca1, B1, cb1, rfl, -⟩ := hr1.open
    have HB1 := Lib.hid hb1
    clear hr1 hb1
    go_wp2_with fail
    refine H2.out.mono ?_
    rintro e w2 h2
    rw [HR.out] at h2
    obtain ⟨val, rfl, hval, hb2⟩ := h2
    have hv' : val = .agg #[.string r1, .string r2, .string r3] := hval
    subst hv'
    have hbw := HB1.out.trans (hb2.mono HB1.out.size)
    have hb2g := (hbw.block bg lgW).trans HBG.out
    have HBW := Lib.hid hbw
    have HB2G := Lib.hid hb2g
    have cg := fun o => cell_of_row w2 bg o _ 60 (0, 0) hb2g
    have fg : ∀ o, w2.frozen? ⟨bg, o, none⟩ = false := fun o => by simp [World.frozen?, hb2g]
    clear hbw hb2g hb2 hval
    go_wp2
    go_end0
    refine ⟨rfl, ?_, ?_, ?_⟩
    · (repeat (first | with_reducible refine Below.setCell ?_ (by exact HB.out) _))
      exact HBW.out.mono (by have := HB.out; omega)
    · (repeat (first | with_reducible refine Also.setCell ?_ (by simp) _))
      exact ⟨HBW.out.size, fun b _ hlt => HBW.out.block b hlt⟩
    · exact blk_set (blk_set (blk_set (HB2G.out) 0 _) 1 _) 2 _

end Go.Proofs.YtoimjnmhinfbkaaGreatDoor
