import Derived.Test.YtoimjnmhinfbkaaGreatDoorM
namespace Go.Proofs.YtoimjnmhinfbkaaGreatDoor
open Go.RowKit
set_option maxRecDepth 100000

theorem itoa_len (n : Int) (h1 : -9223372036854775808 ≤ n) (h2 : n ≤ 9223372036854775807) : (Lib.itoa n).length ≤ 20 := by
  unfold Lib.itoa
  split
  · have := decDigits_length 18 n.natAbs (by omega)
    simp only [List.length_cons]
    omega
  · have := decDigits_length 18 n.toNat (by omega)
    omega

theorem try_ret {K : FuncId} {cap : Array Value} {w : World} {b : Nat} {v : Value} (hent : ∀ w, (callFunc K cap).run Tryz.prog w = .ok (.enter K cap) w) {old : Value} {t : TypeId} (hc : w.heap[b]? = some (.cells #[old] t (0, 0)))
    (h : Calls Tryz.prog K cap (w.alloc (.cells #[.nilIface] 29)) fun e w2 => e = .returned (.tuple #[]) ∧ ∃ w1, Below (w.heap.size + 1) (w.alloc (.cells #[.nilIface] 29)) w1 ∧ w2 = w1.setCell ⟨b, 0, none⟩ v) :
    Calls Tryz.prog 10 #[.func (.func K) #[] cap] w fun e w' => e = .returned .nilIface ∧ w'.cell? ⟨b, 0, none⟩ = some v ∧ Below b w w' := by
  have hb : b < w.heap.size := (Array.getElem?_eq_some_iff.1 hc).1
  refine try_any hent (h.mono ?_)
  rintro e w2 ⟨rfl, w1, hb1, rfl⟩
  have h0 : (w1.setCell ⟨b, 0, none⟩ v).heap[w.heap.size]? = some (.cells #[.nilIface] 29 (0, 0)) :=
    ((Below.heap_setCell w1 _ _ _ (by simp only; omega)).trans (hb1.block _ (by simp))).trans (heap_alloc_new w _)
  have h1 : w1.heap[b]? = w.heap[b]? := (hb1.block b (by omega)).trans (Below.heap_alloc w _ b hb)
  refine ⟨cell_of_row _ _ 0 _ 29 (0, 0) h0, by simp [World.frozen?, h0], .inl ⟨rfl, rfl, ?_, ?_⟩⟩
  · rw [cell_of_heap (Below.heap_setCell _ _ _ b (by simp only; omega))]
    have h2 := h1.trans hc
    exact cell_of_row _ b 0 #[v] t (0, 0) (by simpa using blk_set h2 0 v)
  · exact (((((Below.refl _ _).alloc (Nat.le_of_lt hb) _).trans (hb1.mono (by omega))).setCell (Nat.le_refl _) _)).setCell (by simp only; omega) _

set_option maxHeartbeats 800000 in
theorem lookWhole_in (n least most : Int) (w : World) (hg : Glob w) (h1 : -9223372036854775808 ≤ n) (h2 : n ≤ 9223372036854775807) (hw : wholeN (Lib.itoa n) = .ok n) (hl : least ≤ n) (hm : n ≤ most) :
    Calls Tryz.prog 3 #[.int .i64 n, .int .i64 least, .int .i64 most] w fun e w' => e = .returned (.bool true) ∧ Below w.heap.size w w' := by
  have HG := Lib.hid hg
  have HW := Lib.hid hw
  clear hg hw
  have hmf : ∀ (fn : Fn) (first cap : Array Value) (w : World), (Instr.makeFunc fn first cap).run Tryz.prog w = .ok (.func fn first cap) w := fun _ _ _ _ => rfl
  have hen : ∀ w, (binOp .eql 29 .nilIface .nilIface).run Tryz.prog w = .ok (.bool true) w := fun _ => by kernel_rfl
  go_enter Tryz.func3, Tryz.ntmps3
  go_wp2_with (first | (go_at_call 8; refine (alive_any _ (by exact HG.out.below (((Below.refl _ _).alloc (Nat.le_refl _) _).alloc (by simp) _))).mono ?_; rintro e w1 ⟨rfl, hb1⟩; obtain ⟨hc1, hf1⟩ := bcell hb1; have hz1 : w.heap.size + 1 < w1.heap.size := (by have := hb1.size; simp at this; omega)) | (go_at_call 9; refine (figs_any n _ h1 h2).mono ?_; rintro e w2 ⟨rfl, hb2⟩; obtain ⟨hc2, hf2⟩ := bcell hb2))
  have a1 : w1.heap[w.heap.size]? = some (.cells #[.int .i64 least] 3 (0, 0)) := (hb1.block _ (by simp; omega)).trans ((alloc_before (by simp)).trans (alloc_at rfl))
  have a2 : w1.heap[w.heap.size + 1]? = some (.cells #[.int .i64 most] 3 (0, 0)) := (hb1.block _ (by simp)).trans (alloc_at (by simp))
  have hz2 : w1.heap.size ≤ w2.heap.size := hb2.size
  have b1 : w2.heap[w.heap.size]? = some (.cells #[.int .i64 least] 3 (0, 0)) := (hb2.block _ (by omega)).trans a1
  have b2 : w2.heap[w.heap.size + 1]? = some (.cells #[.int .i64 most] 3 (0, 0)) := (hb2.block _ (by omega)).trans a2
  have hgw : Glob w2 := (HG.out.below ((((Below.refl _ _).alloc (Nat.le_refl _) _).alloc (by simp) _).trans (hb1.mono (by simp; omega)))).below hb2
  have HGW := Lib.hid hgw
  have hil : (Lib.itoa n).length ≤ 20 := itoa_len n h1 h2
  have HL := Lib.hid hl
  have HM := Lib.hid hm
  have H1 := Lib.hid a1
  have H2 := Lib.hid a2
  have B1 := Lib.hid b1
  have B2 := Lib.hid b2
  clear hgw a1 a2 b1 b2 hc1 hc2 hf1 hf2
  refine (try_ret (b := w2.heap.size + 1) (v := .int .i64 n) (old := .int .i64 0) (t := 3) (fun _ => by kernel_rfl) (alloc_at (by simp)) ((whole_fn_in ⟨(Lib.itoa n).toArray⟩ n least most 0 w2.heap.size w.heap.size (w.heap.size + 1) (w2.heap.size + 1) _ ?_ (by show (Lib.itoa n).length ≤ 1000; omega) HW.out HL.out HM.out ?_ ?_ ?_ (by omega) (by omega) (by omega) ?_).mono ?_)).mono ?_
  · exact HGW.out.below ((((Below.refl _ _).alloc (Nat.le_refl _) _).alloc (by simp) _).alloc (by simp; omega) _)
  · rw [alloc_before (by simp; omega), alloc_before (by simp)]; exact alloc_at rfl
  · rw [alloc_before (by simp; omega), alloc_before (by simp; omega), alloc_before (by omega)]; exact B1.out
  · rw [alloc_before (by simp; omega), alloc_before (by simp; omega), alloc_before (by omega)]; exact B2.out
  · rw [alloc_before (by simp)]; exact alloc_at (by simp)
  · rintro e w3 ⟨rfl, w4, hb4, rfl⟩
    exact ⟨rfl, w4, hb4.mono (by simp), rfl⟩
  rintro e w3 ⟨rfl, cg, hb3⟩
  have cl : w3.cell? ⟨w.heap.size, 0, none⟩ = some (.int .i64 least) := cell_of_row _ _ 0 #[.int .i64 least] 3 (0, 0) ((hb3.block _ (by omega)).trans ((alloc_before (by simp; omega)).trans ((alloc_before (by omega)).trans B1.out)))
  have cm : w3.cell? ⟨w.heap.size + 1, 0, none⟩ = some (.int .i64 most) := cell_of_row _ _ 0 #[.int .i64 most] 3 (0, 0) ((hb3.block _ (by omega)).trans ((alloc_before (by simp; omega)).trans ((alloc_before (by omega)).trans B2.out)))
  have d1 : decide (n < least) = false := by simpa using HL.out
  have d2 : decide (most < n) = false := by simpa using HM.out
  clear hl hm
  go_wp2
  go_ret
  refine ⟨rfl, ?_⟩
  have q1 := ((((Below.refl w.heap.size w).alloc (Nat.le_refl _) (.cells #[.int .i64 least] 3)).alloc (by simp) (.cells #[.int .i64 most] 3)).trans (hb1.mono (by simp; omega))).trans (hb2.mono (by omega))
  exact q1.trans (((((Below.refl w2.heap.size w2).alloc (Nat.le_refl _) _).alloc (by simp) _).trans (hb3.mono (by omega))).mono (by omega))

set_option maxHeartbeats 800000 in
theorem lookWhole_out (n least most : Int) (w : World) (hg : Glob w) (h1 : -9223372036854775808 ≤ n) (h2 : n ≤ 9223372036854775807) (hw : wholeN (Lib.itoa n) = .ok n) (ho : n < least ∨ most < n) :
    Calls Tryz.prog 3 #[.int .i64 n, .int .i64 least, .int .i64 most] w fun e w' => e = .returned (.bool true) ∧ Below w.heap.size w w' := by
  have HG := Lib.hid hg
  have HW := Lib.hid hw
  clear hg hw
  have hmf : ∀ (fn : Fn) (first cap : Array Value) (w : World), (Instr.makeFunc fn first cap).run Tryz.prog w = .ok (.func fn first cap) w := fun _ _ _ _ => rfl
  have hen : ∀ w, (binOp .eql 29 .nilIface .nilIface).run Tryz.prog w = .ok (.bool true) w := fun _ => by kernel_rfl
  go_enter Tryz.func3, Tryz.ntmps3
  go_wp2_with (first | (go_at_call 8; refine (alive_any _ (by exact HG.out.below (((Below.refl _ _).alloc (Nat.le_refl _) _).alloc (by simp) _))).mono ?_; rintro e w1 ⟨rfl, hb1⟩; obtain ⟨hc1, hf1⟩ := bcell hb1; have hz1 : w.heap.size + 1 < w1.heap.size := (by have := hb1.size; simp at this; omega)) | (go_at_call 9; refine (figs_any n _ h1 h2).mono ?_; rintro e w2 ⟨rfl, hb2⟩; obtain ⟨hc2, hf2⟩ := bcell hb2))
  have a1 : w1.heap[w.heap.size]? = some (.cells #[.int .i64 least] 3 (0, 0)) := (hb1.block _ (by simp; omega)).trans ((alloc_before (by simp)).trans (alloc_at rfl))
  have a2 : w1.heap[w.heap.size + 1]? = some (.cells #[.int .i64 most] 3 (0, 0)) := (hb1.block _ (by simp)).trans (alloc_at (by simp))
  have hz2 : w1.heap.size ≤ w2.heap.size := hb2.size
  have b1 : w2.heap[w.heap.size]? = some (.cells #[.int .i64 least] 3 (0, 0)) := (hb2.block _ (by omega)).trans a1
  have b2 : w2.heap[w.heap.size + 1]? = some (.cells #[.int .i64 most] 3 (0, 0)) := (hb2.block _ (by omega)).trans a2
  have hgw : Glob w2 := (HG.out.below ((((Below.refl _ _).alloc (Nat.le_refl _) _).alloc (by simp) _).trans (hb1.mono (by simp; omega)))).below hb2
  have HGW := Lib.hid hgw
  have hil : (Lib.itoa n).length ≤ 20 := itoa_len n h1 h2
  have HO := Lib.hid ho
  have H1 := Lib.hid a1
  have H2 := Lib.hid a2
  have B1 := Lib.hid b1
  have B2 := Lib.hid b2
  clear hgw a1 a2 b1 b2 hc1 hc2 hf1 hf2
  refine (try_threw (c := 1) (s := ⟨#[]⟩) (fun _ => by kernel_rfl) (whole_fn_out ⟨(Lib.itoa n).toArray⟩ n least most 0 w2.heap.size w.heap.size (w.heap.size + 1) (w2.heap.size + 1) _ ?_ (by show (Lib.itoa n).length ≤ 1000; omega) HW.out HO.out ?_ ?_ ?_ (by omega) (by omega) (by omega) ?_)).mono ?_
  · exact HGW.out.below ((((Below.refl _ _).alloc (Nat.le_refl _) _).alloc (by simp) _).alloc (by simp; omega) _)
  · rw [alloc_before (by simp; omega), alloc_before (by simp)]; exact alloc_at rfl
  · rw [alloc_before (by simp; omega), alloc_before (by simp; omega), alloc_before (by omega)]; exact B1.out
  · rw [alloc_before (by simp; omega), alloc_before (by simp; omega), alloc_before (by omega)]; exact B2.out
  · rw [alloc_before (by simp)]; exact alloc_at (by simp)
  rintro e w3 ⟨g, rfl, hc0, hc1, hb3⟩
  have hz3 : w2.heap.size + 1 + 1 ≤ w3.heap.size := by have := hb3.size; simp at this; omega
  have cl : w3.cell? ⟨w.heap.size, 0, none⟩ = some (.int .i64 least) := cell_of_row _ _ 0 #[.int .i64 least] 3 (0, 0) ((hb3.block _ (by simp; omega)).trans ((alloc_before (by simp; omega)).trans ((alloc_before (by omega)).trans B1.out)))
  have cm : w3.cell? ⟨w.heap.size + 1, 0, none⟩ = some (.int .i64 most) := cell_of_row _ _ 0 #[.int .i64 most] 3 (0, 0) ((hb3.block _ (by simp; omega)).trans ((alloc_before (by simp; omega)).trans ((alloc_before (by omega)).trans B2.out)))
  have hor : (decide (n < least) || decide (most < n)) = true := by simpa using HO.out
  have HOR := Lib.hid hor
  clear ho hor
  have hfin : Below w.heap.size w w3 :=
    (((((Below.refl w.heap.size w).alloc (Nat.le_refl _) (.cells #[.int .i64 least] 3)).alloc (by simp) (.cells #[.int .i64 most] 3)).trans (hb1.mono (by simp; omega))).trans (hb2.mono (by omega))).trans (((((Below.refl w2.heap.size w2).alloc (Nat.le_refl _) _).alloc (by simp) _).trans (hb3.mono (by simp; omega))).mono (by omega))
  by_cases h3 : n < least
  · have d1 : decide (n < least) = true := by simpa using h3
    go_wp2_with (first | (go_at_call 14; refine (code_fault g 1 _ hc0).mono ?_; rintro e w4 ⟨rfl, rfl⟩) | (go_at_call 15; refine (where_fault g _ _ hc1).mono ?_; rintro e w4 ⟨rfl, rfl⟩))
    go_ret
    exact ⟨rfl, hfin⟩
  · have d1 : decide (n < least) = false := by simpa using h3
    have d2 : decide (most < n) = true := by simpa using HO.out.resolve_left h3
    go_wp2_with (first | (go_at_call 14; refine (code_fault g 1 _ hc0).mono ?_; rintro e w4 ⟨rfl, rfl⟩) | (go_at_call 15; refine (where_fault g _ _ hc1).mono ?_; rintro e w4 ⟨rfl, rfl⟩))
    go_ret
    exact ⟨rfl, hfin⟩

end Go.Proofs.YtoimjnmhinfbkaaGreatDoor
