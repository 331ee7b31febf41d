import Derived.Test.YtoimjnmhinfbkaaGreatDoorL
namespace Go.Proofs.YtoimjnmhinfbkaaGreatDoor
open Go.RowKit
set_option maxRecDepth 100000

def oneV (s : ByteArray) : V := .mk 2 false s [] []
theorem one_rep (s : ByteArray) (W : World) : (oneV s).Rep W (fun _ => True) [.int .i64 2, .bool false, .string s, .slice none 0 0, .slice none 0 0] :=
  ⟨_, 0, _, 0, rfl, Nat.le_refl _, Nat.le_refl _, .inl rfl, .inl rfl⟩

set_option maxHeartbeats 800000 in
theorem whole_fn_in (s : ByteArray) (q least most old : Int) (bv bl bm bg : Nat) (w : World) (hg : Glob w) (hs : s.size ≤ 1000) (h : wholeN s.data.toList = .ok q) (h1 : least ≤ q) (h2 : q ≤ most)
    (hv : w.heap[bv]? = some (.cells #[.int .i64 2, .bool false, .string s, .slice none 0 0, .slice none 0 0] 27 (0, 0)))
    (hl : w.heap[bl]? = some (.cells #[.int .i64 least] 3 (0, 0))) (hm : w.heap[bm]? = some (.cells #[.int .i64 most] 3 (0, 0))) (hn1 : bv ≠ bg) (hn2 : bl ≠ bg) (hn3 : bm ≠ bg) (hgt : w.heap[bg]? = some (.cells #[.int .i64 old] 3 (0, 0))) :
    Calls Tryz.prog 11 #[.pointer (some ⟨bv, 0, none⟩), .pointer (some ⟨bl, 0, none⟩), .pointer (some ⟨bm, 0, none⟩), .pointer (some ⟨bg, 0, none⟩)] w fun e w' =>
      e = .returned (.tuple #[]) ∧ ∃ w1, Below w.heap.size w w1 ∧ w' = w1.setCell ⟨bg, 0, none⟩ (.int .i64 q) := by
  have HG := Lib.hid hg
  have v0 := cell_of_row w bv 0 _ 27 (0, 0) hv
  have v1 := cell_of_row w bv 1 _ 27 (0, 0) hv
  have v2 := cell_of_row w bv 2 _ 27 (0, 0) hv
  have v3 := cell_of_row w bv 3 _ 27 (0, 0) hv
  have v4 := cell_of_row w bv 4 _ 27 (0, 0) hv
  have l0 := cell_of_row w bl 0 _ 3 (0, 0) hl
  have m0 := cell_of_row w bm 0 _ 3 (0, 0) hm
  have g0 := cell_of_row w bg 0 _ 3 (0, 0) hgt
  have gf : w.frozen? ⟨bg, 0, none⟩ = false := by simp [World.frozen?, hgt]
  have lv : bv < w.heap.size := World.block_lt_of_cell? w _ v0
  have ll : bl < w.heap.size := World.block_lt_of_cell? w _ l0
  have lm : bm < w.heap.size := World.block_lt_of_cell? w _ m0
  have lg : bg < w.heap.size := World.block_lt_of_cell? w _ g0
  simp at v0 v1 v2 v3 v4 l0 m0 g0
  have HW := Lib.hid h
  clear hg h hv hl hm hgt
  go_enter Tryz.func11, Tryz.ntmps11
  go_region_held3 (fun w' => w'.cell? ⟨bv, 0, none⟩ = some (.int .i64 2) ∧ w'.cell? ⟨bv, 1, none⟩ = some (.bool false) ∧ w'.cell? ⟨bv, 2, none⟩ = some (.string s) ∧ w'.cell? ⟨bv, 3, none⟩ = some (.slice none 0 0) ∧ w'.cell? ⟨bv, 4, none⟩ = some (.slice none 0 0) ∧ w'.cell? ⟨bl, 0, none⟩ = some (.int .i64 least) ∧ w'.cell? ⟨bm, 0, none⟩ = some (.int .i64 most))
    (first | go_keep | (refine ⟨?_, ?_, ?_, ?_, ?_, ?_, ?_⟩ <;> (first | rw [hc1 _ _ lv] | rw [hc1 _ _ ll] | rw [hc1 _ _ lm]) <;> assumption) | (refine ⟨?_, ?_, ?_, ?_, ?_, ?_, ?_⟩ <;> (first | rw [hc2 _ _ (Nat.lt_of_lt_of_le lv z1), hc1 _ _ lv] | rw [hc2 _ _ (Nat.lt_of_lt_of_le ll z1), hc1 _ _ ll] | rw [hc2 _ _ (Nat.lt_of_lt_of_le lm z1), hc1 _ _ lm]) <;> assumption) | (refine ⟨?_, ?_, ?_, ?_, ?_, ?_, ?_⟩ <;> (first | rw [cell_of_heap (Below.heap_setCell w2 _ _ bv hn1), hc2 _ _ (Nat.lt_of_lt_of_le lv z1), hc1 _ _ lv] | rw [cell_of_heap (Below.heap_setCell w2 _ _ bl hn2), hc2 _ _ (Nat.lt_of_lt_of_le ll z1), hc1 _ _ ll] | rw [cell_of_heap (Below.heap_setCell w2 _ _ bm hn3), hc2 _ _ (Nat.lt_of_lt_of_le lm z1), hc1 _ _ lm]) <;> assumption))
    ((first | (go_at_call 12; refine (of_any (oneV s) _ _ _ (one_rep s _) (by simp [oneV, V.bulk, V.bulks]; omega)).mono ?_; rintro e w1 ⟨cs1, rfl, hr1, hb1⟩; obtain ⟨A1, ca1, B1, cb1, rfl, -⟩ := hr1.open; clear hr1; obtain ⟨hc1, hf1⟩ := bcell hb1; have z1 : w.heap.size ≤ w1.heap.size := hb1.size) | (go_at_call 13; refine (lwhole_in false s A1 0 ca1 B1 0 cb1 _ least most q _ (by exact HG.out.below ⟨hb1.os, hb1.tape, hb1.output, hb1.size, hb1.block⟩) (by omega) HW.out h1 h2).mono ?_; rintro e w2 ⟨rfl, hb2⟩; obtain ⟨hc2, hf2⟩ := bcell hb2; have gc2 : w2.cell? ⟨bg, 0, none⟩ = some (.int .i64 old) := ((hc2 _ _ (Nat.lt_of_lt_of_le lg z1)).trans (hc1 _ _ lg)).trans g0; have gf2 : w2.frozen? ⟨bg, 0, none⟩ = false := ((hf2 _ _ (Nat.lt_of_lt_of_le lg z1)).trans (hf1 _ _ lg)).trans gf)))
  go_wp2
  go_end0
  refine ⟨rfl, w2, ?_, rfl⟩
  exact Below.trans ⟨hb1.os, hb1.tape, hb1.output, hb1.size, hb1.block⟩ (hb2.mono hb1.size)

set_option maxHeartbeats 800000 in
theorem whole_fn_out (s : ByteArray) (q least most old : Int) (bv bl bm bg : Nat) (w : World) (hg : Glob w) (hs : s.size ≤ 1000) (h : wholeN s.data.toList = .ok q) (ho : q < least ∨ most < q)
    (hv : w.heap[bv]? = some (.cells #[.int .i64 2, .bool false, .string s, .slice none 0 0, .slice none 0 0] 27 (0, 0)))
    (hl : w.heap[bl]? = some (.cells #[.int .i64 least] 3 (0, 0))) (hm : w.heap[bm]? = some (.cells #[.int .i64 most] 3 (0, 0))) (hn1 : bv ≠ bg) (hn2 : bl ≠ bg) (hn3 : bm ≠ bg) (hgt : w.heap[bg]? = some (.cells #[.int .i64 old] 3 (0, 0))) :
    Calls Tryz.prog 11 #[.pointer (some ⟨bv, 0, none⟩), .pointer (some ⟨bl, 0, none⟩), .pointer (some ⟨bm, 0, none⟩), .pointer (some ⟨bg, 0, none⟩)] w (Threw w 1 ⟨#[]⟩) := by
  have HG := Lib.hid hg
  have v0 := cell_of_row w bv 0 _ 27 (0, 0) hv
  have v1 := cell_of_row w bv 1 _ 27 (0, 0) hv
  have v2 := cell_of_row w bv 2 _ 27 (0, 0) hv
  have v3 := cell_of_row w bv 3 _ 27 (0, 0) hv
  have v4 := cell_of_row w bv 4 _ 27 (0, 0) hv
  have l0 := cell_of_row w bl 0 _ 3 (0, 0) hl
  have m0 := cell_of_row w bm 0 _ 3 (0, 0) hm
  have g0 := cell_of_row w bg 0 _ 3 (0, 0) hgt
  have gf : w.frozen? ⟨bg, 0, none⟩ = false := by simp [World.frozen?, hgt]
  have lv : bv < w.heap.size := World.block_lt_of_cell? w _ v0
  have ll : bl < w.heap.size := World.block_lt_of_cell? w _ l0
  have lm : bm < w.heap.size := World.block_lt_of_cell? w _ m0
  have lg : bg < w.heap.size := World.block_lt_of_cell? w _ g0
  simp at v0 v1 v2 v3 v4 l0 m0 g0
  have HW := Lib.hid h
  clear hg h hv hl hm hgt
  go_enter Tryz.func11, Tryz.ntmps11
  go_region_with (first | (go_at_call 12; refine (of_any (oneV s) _ _ _ (one_rep s _) (by simp [oneV, V.bulk, V.bulks]; omega)).mono ?_; rintro e w1 ⟨cs1, rfl, hr1, hb1⟩; obtain ⟨A1, ca1, B1, cb1, rfl, -⟩ := hr1.open; clear hr1; obtain ⟨hc1, hf1⟩ := bcell hb1; have kl : w1.cell? ⟨bl, 0, none⟩ = some (.int .i64 least) := (hc1 _ _ ll).trans l0; have km : w1.cell? ⟨bm, 0, none⟩ = some (.int .i64 most) := (hc1 _ _ lm).trans m0; clear hc1 hf1) | (go_at_call 13; refine (lwhole_out false s A1 0 ca1 B1 0 cb1 _ least most q _ (by exact HG.out.below ⟨hb1.os, hb1.tape, hb1.output, hb1.size, hb1.block⟩) (by omega) HW.out ho).mono ?_; rintro e w2 ⟨g, rfl, hth⟩; refine (fun (_ : wpAny Tryz.prog .any #[] (fun _ _ _ => True) 0 #[] ⟨#[], []⟩ w2) => ⟨rfl, Threw.of ⟨g, rfl, hth⟩ ⟨hb1.os, hb1.tape, hb1.output, hb1.size, hb1.block⟩⟩) ?_))
  all_goals trivial

end Go.Proofs.YtoimjnmhinfbkaaGreatDoor
