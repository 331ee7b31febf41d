import Derived.Test.YtoimjnmhinfbkaaGreatDoorS05
namespace Go.Proofs.YtoimjnmhinfbkaaGreatDoor
open Go.RowKit
set_option maxRecDepth 100000
/-- a block's word out of four bytes. -/
def wd (m : Nat → Nat) (i : Nat) : BitVec 32 := BitVec.ofNat 32 (m (4 * i)) <<< 24 ||| BitVec.ofNat 32 (m (4 * i + 1)) <<< 16 ||| BitVec.ofNat 32 (m (4 * i + 2)) <<< 8 ||| BitVec.ofNat 32 (m (4 * i + 3))
def nextW (m : Nat → Nat) (l : List (BitVec 32)) (k : Nat) : BitVec 32 := if k < 16 then wd m k else l.getD (k - 16) 0 + sg0 (l.getD (k - 15) 0) + l.getD (k - 7) 0 + sg1 (l.getD (k - 2) 0)
/-- the first k words of a block's schedule. -/
def schd (m : Nat → Nat) : Nat → List (BitVec 32)
 | 0 => []
 | k + 1 => schd m k ++ [nextW m (schd m k) k]
theorem schd_length (m : Nat → Nat) (k : Nat) : (schd m k).length = k := by
 induction k with
 | zero => rfl
 | succ k ih => simp [schd, ih]
/-- so many words of 64 cells. -/
def arr (l : List (BitVec 32)) : Array Value := (l.map (fun x => U x) ++ List.replicate (64 - l.length) (U 0)).toArray
theorem arr_at {l : List (BitVec 32)} {o : Nat} (h : o < l.length) : (arr l)[o]? = some (U (l.getD o 0)) := by
 unfold arr
 simp [List.getElem?_append, h, List.getD]
theorem arr_free {l : List (BitVec 32)} {o : Nat} (h : l.length ≤ o) (h2 : o < 64) : (arr l)[o]? = some (U 0) := by
 unfold arr
 simp only [List.getElem?_toArray, List.getElem?_append, List.length_map]
 rw [if_neg (by omega), List.getElem?_replicate, if_pos (by omega)]
theorem arr_push {l : List (BitVec 32)} (x : BitVec 32) (h : l.length < 64) : (arr l).setIfInBounds l.length (U x) = arr (l ++ [x]) := by
 unfold arr
 rw [List.setIfInBounds_toArray]
 congr 1
 rw [List.set_append_right _ _ (by simp)]
 obtain ⟨n, hn⟩ : ∃ n, 64 - l.length = n + 1 := ⟨63 - l.length, by omega⟩
 have hn2 : 64 - (l ++ [x]).length = n := by simp; omega
 rw [hn, hn2]
 simp [List.replicate_succ]
theorem arr_size (l : List (BitVec 32)) (h : l.length ≤ 64) : (arr l).size = 64 := by unfold arr; simp; omega
theorem hu186 : Tryz.prog.underlying 186 = some (.array 64 184) := Tryz.underlying186
theorem hi186 : (Tryz.prog.info? 186).map (·.size) = some 64 := by kernel_rfl
theorem arr_ones (l : List (BitVec 32)) : (arr l).all (·.oneCell') = true := by
 unfold arr
 refine all_ones _ fun v hv => ?_
 rcases List.mem_append.1 hv with h | h
 ·obtain ⟨x, -, rfl⟩ := List.mem_map.1 h; rfl
 ·obtain ⟨-, rfl⟩ := List.mem_replicate.1 h; rfl
theorem range_of_heap {w : World} {b t : Nat} {c : Array Value} (h : w.heap[b]? = some (.cells c t (0, 0))) : w.rangeAt b 0 c.toList := fun j v hv => by
 rw [Nat.zero_add, cell_of_row w b j c t (0, 0) h]
 simpa using hv
theorem there_of_heap {w : World} {b t n : Nat} {c : Array Value} (h : w.heap[b]? = some (.cells c t (0, 0))) (hn : c.size = n) : w.there b 0 n := fun j hj => by
 subst hn
 rw [Nat.zero_add, cell_of_row w b j c t (0, 0) h]
 exact ⟨by simp [hj], by simp [World.frozen?, h]⟩
theorem results197 (tmps : Array Value) (w : World) (b : Nat) (cs : List Value) (h2 : tmps.getD 2 undef = .pointer (some ⟨b, 0, none⟩)) (hc : w.rangeAt b 0 cs) (hl : cs.length = 64) :
  (results Tryz.f197 tmps).run Tryz.prog w = .ok (.agg cs.toArray) w := by
 have hr := run_loadVar_mid (P := Tryz.prog) w b 0 186 cs (.array 64 184) hc hu186 rfl (by rw [hl]; exact hi186)
 rw [Array.getD_eq_getD_getElem?] at h2
 simp [results, Tryz.results197, h2, hr, asAddr, Sem.run_bind]
theorem act97 {a : Act} (hs : a.tmps.size = 97) : a = ⟨#[a.eval (.tmp 0), a.eval (.tmp 1), a.eval (.tmp 2), a.eval (.tmp 3), a.eval (.tmp 4), a.eval (.tmp 5), a.eval (.tmp 6), a.eval (.tmp 7), a.eval (.tmp 8), a.eval (.tmp 9), a.eval (.tmp 10), a.eval (.tmp 11), a.eval (.tmp 12), a.eval (.tmp 13), a.eval (.tmp 14), a.eval (.tmp 15), a.eval (.tmp 16), a.eval (.tmp 17), a.eval (.tmp 18), a.eval (.tmp 19), a.eval (.tmp 20), a.eval (.tmp 21), a.eval (.tmp 22), a.eval (.tmp 23), a.eval (.tmp 24), a.eval (.tmp 25), a.eval (.tmp 26), a.eval (.tmp 27), a.eval (.tmp 28), a.eval (.tmp 29), a.eval (.tmp 30), a.eval (.tmp 31), a.eval (.tmp 32), a.eval (.tmp 33), a.eval (.tmp 34), a.eval (.tmp 35), a.eval (.tmp 36), a.eval (.tmp 37), a.eval (.tmp 38), a.eval (.tmp 39), a.eval (.tmp 40), a.eval (.tmp 41), a.eval (.tmp 42), a.eval (.tmp 43), a.eval (.tmp 44), a.eval (.tmp 45), a.eval (.tmp 46), a.eval (.tmp 47), a.eval (.tmp 48), a.eval (.tmp 49), a.eval (.tmp 50), a.eval (.tmp 51), a.eval (.tmp 52), a.eval (.tmp 53), a.eval (.tmp 54), a.eval (.tmp 55), a.eval (.tmp 56), a.eval (.tmp 57), a.eval (.tmp 58), a.eval (.tmp 59), a.eval (.tmp 60), a.eval (.tmp 61), a.eval (.tmp 62), a.eval (.tmp 63), a.eval (.tmp 64), a.eval (.tmp 65), a.eval (.tmp 66), a.eval (.tmp 67), a.eval (.tmp 68), a.eval (.tmp 69), a.eval (.tmp 70), a.eval (.tmp 71), a.eval (.tmp 72), a.eval (.tmp 73), a.eval (.tmp 74), a.eval (.tmp 75), a.eval (.tmp 76), a.eval (.tmp 77), a.eval (.tmp 78), a.eval (.tmp 79), a.eval (.tmp 80), a.eval (.tmp 81), a.eval (.tmp 82), a.eval (.tmp 83), a.eval (.tmp 84), a.eval (.tmp 85), a.eval (.tmp 86), a.eval (.tmp 87), a.eval (.tmp 88), a.eval (.tmp 89), a.eval (.tmp 90), a.eval (.tmp 91), a.eval (.tmp 92), a.eval (.tmp 93), a.eval (.tmp 94), a.eval (.tmp 95), a.eval (.tmp 96)], a.defers⟩ := act_ext rfl (by rw [hs]; rfl) (fun s h => by
 rw [hs] at h
 match s, h with
 | 0, _ => rfl
 | 1, _ => rfl
 | 2, _ => rfl
 | 3, _ => rfl
 | 4, _ => rfl
 | 5, _ => rfl
 | 6, _ => rfl
 | 7, _ => rfl
 | 8, _ => rfl
 | 9, _ => rfl
 | 10, _ => rfl
 | 11, _ => rfl
 | 12, _ => rfl
 | 13, _ => rfl
 | 14, _ => rfl
 | 15, _ => rfl
 | 16, _ => rfl
 | 17, _ => rfl
 | 18, _ => rfl
 | 19, _ => rfl
 | 20, _ => rfl
 | 21, _ => rfl
 | 22, _ => rfl
 | 23, _ => rfl
 | 24, _ => rfl
 | 25, _ => rfl
 | 26, _ => rfl
 | 27, _ => rfl
 | 28, _ => rfl
 | 29, _ => rfl
 | 30, _ => rfl
 | 31, _ => rfl
 | 32, _ => rfl
 | 33, _ => rfl
 | 34, _ => rfl
 | 35, _ => rfl
 | 36, _ => rfl
 | 37, _ => rfl
 | 38, _ => rfl
 | 39, _ => rfl
 | 40, _ => rfl
 | 41, _ => rfl
 | 42, _ => rfl
 | 43, _ => rfl
 | 44, _ => rfl
 | 45, _ => rfl
 | 46, _ => rfl
 | 47, _ => rfl
 | 48, _ => rfl
 | 49, _ => rfl
 | 50, _ => rfl
 | 51, _ => rfl
 | 52, _ => rfl
 | 53, _ => rfl
 | 54, _ => rfl
 | 55, _ => rfl
 | 56, _ => rfl
 | 57, _ => rfl
 | 58, _ => rfl
 | 59, _ => rfl
 | 60, _ => rfl
 | 61, _ => rfl
 | 62, _ => rfl
 | 63, _ => rfl
 | 64, _ => rfl
 | 65, _ => rfl
 | 66, _ => rfl
 | 67, _ => rfl
 | 68, _ => rfl
 | 69, _ => rfl
 | 70, _ => rfl
 | 71, _ => rfl
 | 72, _ => rfl
 | 73, _ => rfl
 | 74, _ => rfl
 | 75, _ => rfl
 | 76, _ => rfl
 | 77, _ => rfl
 | 78, _ => rfl
 | 79, _ => rfl
 | 80, _ => rfl
 | 81, _ => rfl
 | 82, _ => rfl
 | 83, _ => rfl
 | 84, _ => rfl
 | 85, _ => rfl
 | 86, _ => rfl
 | 87, _ => rfl
 | 88, _ => rfl
 | 89, _ => rfl
 | 90, _ => rfl
 | 91, _ => rfl
 | 92, _ => rfl
 | 93, _ => rfl
 | 94, _ => rfl
 | 95, _ => rfl
 | 96, _ => rfl
 | k + 97, h => exact absurd h (by omega))
structure Sched (w : World) (m : Nat → Nat) (k : Nat) (wr : World) : Prop where
 below : Below w.heap.size w wr
 cur : wr.heap[w.heap.size + 1]? = some (.cells (arr (schd m k)) 186 (0, 0))
 res : wr.heap[w.heap.size]? = some (.cells (arr []) 186 (0, 0))
theorem Sched.drew {w : World} {m : Nat → Nat} {k : Nat} {wr : World} (h : Sched w m k wr) : Sched w m k wr.drew := ⟨h.below.drew, h.cur, h.res⟩
theorem Sched.put {w : World} {m : Nat → Nat} {k : Nat} {wr : World} (h : Sched w m k wr) (hk : k < 64) {x : BitVec 32} (hx : x = nextW m (schd m k) k) : Sched w m (k + 1) (wr.setCell ⟨w.heap.size + 1, 0 + k, none⟩ (U x)) := by
 refine ⟨h.below.setCell (by simp only; omega) _, ?_, (Below.heap_setCell _ _ _ _ (by simp only; omega)).trans h.res⟩
 have := blk_set h.cur (0 + k) (U x)
 rw [this]
 subst hx
 have hl := schd_length m k
 have e := arr_push (l := schd m k) (nextW m (schd m k) k) (by omega)
 rw [hl] at e
 rw [Nat.zero_add, e]
 rfl
set_option maxHeartbeats 3200000 in
theorem schedule_any (b q : Nat) (m : Nat → Nat) (w : World) (hm : ∀ k, k < 64 → w.cell? ⟨b, q + k, none⟩ = some (.int .u8 (m k : Int)) ∧ m k < 256) :
  Calls Tryz.prog 197 #[.pointer (some ⟨b, q, none⟩)] w fun e w' => e = .returned (.agg (arr (schd m 64))) ∧ Below w.heap.size w w' := by
 have HM := Lib.hid hm
 clear hm
 go_enter Tryz.func197, Tryz.ntmps197
 go_wp2_with fail
 have hS0 : Sched w m 0 ((w.alloc (.cells (Array.replicate 64 (.int .u32 0)) 186)).alloc (.cells (Array.replicate 64 (.int .u32 0)) 186)) :=
  ⟨((Below.refl _ _).alloc (Nat.le_refl _) _).alloc (by simp) _, alloc_at (by simp), by rw [alloc_before (by simp)]; exact alloc_at rfl⟩
 change Code.wp _ _ _ _ ((w.alloc (.cells (Array.replicate 64 (.int .u32 0)) 186)).alloc (.cells (Array.replicate 64 (.int .u32 0)) 186))
 generalize (w.alloc (.cells (Array.replicate 64 (.int .u32 0)) 186)).alloc (.cells (Array.replicate 64 (.int .u32 0)) 186) = W at hS0 ⊢
 have HS0 := Lib.hid hS0
 clear hS0
 go_loopw [10] (fun i wr => ∃ k : Nat, k ≤ 16 ∧ i = .int .i64 k ∧ Sched w m k wr) (fun i _ => 16 - (intOf i).toNat)
 case atStart => exact ⟨0, by omega, rfl, HS0.out⟩
 case round =>
  obtain ⟨k, hk, rfl, hS⟩ := hrel
  have HS := Lib.hid hS
  have hk0 : (0 : Int) ≤ (k : Int) := Int.natCast_nonneg _
  clear hS HS0
  by_cases hlt : k < 16
  ·have hlt' : (k : Int) < 16 := by omega
   go_wp2_with fail
   rename_i Kf hKf
   have hM := fun j hj => (HS.out.drew.below.cell (World.block_lt_of_cell? w _ (HM.out (4 * k + j) hj).1)).trans (HM.out (4 * k + j) hj).1
   refine reg197_5 (c := w.heap.size + 1) (q := q) (b := b) (ii := k) (z0 := m (4 * k)) (z1 := m (4 * k + 1)) (z2 := m (4 * k + 2)) (z3 := m (4 * k + 3)) (y := U 0) (by kernel_rfl) rfl hlt (HM.out _ (by omega)).2 (HM.out _ (by omega)).2 (HM.out _ (by omega)).2 (HM.out _ (by omega)).2 (hM 0 (by omega)) (hM 1 (by omega)) (hM 2 (by omega)) (hM 3 (by omega)) ((cell_of_row _ _ _ _ 186 (0, 0) HS.out.drew.cur).trans (arr_free (by rw [schd_length]; omega) (by omega))) (by simp [World.frozen?, HS.out.drew.cur]) rfl rfl rfl rfl (fun A hd hs hr hR => ?_)
   generalize hW2 : World.setCell _ _ _ = W2
   have HS2 := Lib.hid (show Sched w m (k + 1) W2 from by rw [← hW2]; exact HS.out.drew.put (by omega) (x := wd m k) (by unfold nextW; rw [if_pos hlt]))
   clear hW2
   have y0 : A.eval (.tmp 0) = .pointer (some ⟨b, q, none⟩) := hr 0 (by kernel_rfl)
   have y1 : A.eval (.tmp 1) = undef := hr 1 (by kernel_rfl)
   have y2 : A.eval (.tmp 2) = .pointer (some ⟨w.heap.size, 0, none⟩) := hr 2 (by kernel_rfl)
   have y3 : A.eval (.tmp 3) = .pointer (some ⟨w.heap.size + 1, 0, none⟩) := hr 3 (by kernel_rfl)
   have y4 : A.eval (.tmp 4) = .int .i64 (k : Int) := hr 4 (by kernel_rfl)
   have y5 : A.eval (.tmp 5) = undef := hr 5 (by kernel_rfl)
   have y6 : A.eval (.tmp 6) = undef := hr 6 (by kernel_rfl)
   have y7 : A.eval (.tmp 7) = undef := hr 7 (by kernel_rfl)
   have y8 : A.eval (.tmp 8) = undef := hr 8 (by kernel_rfl)
   have y9 : A.eval (.tmp 9) = undef := hr 9 (by kernel_rfl)
   have y10 : A.eval (.tmp 10) = .int .i64 (k : Int) := hr 10 (by kernel_rfl)
   have y11 : A.eval (.tmp 11) = .bool true := hr 11 (by kernel_rfl)
   have y12 : A.eval (.tmp 12) = .int .i64 (k : Int) := hr 12 (by kernel_rfl)
   have y53 : A.eval (.tmp 53) = undef := hr 53 (by kernel_rfl)
   have y54 : A.eval (.tmp 54) = undef := hr 54 (by kernel_rfl)
   have y55 : A.eval (.tmp 55) = undef := hr 55 (by kernel_rfl)
   have y56 : A.eval (.tmp 56) = undef := hr 56 (by kernel_rfl)
   have y57 : A.eval (.tmp 57) = undef := hr 57 (by kernel_rfl)
   have y58 : A.eval (.tmp 58) = undef := hr 58 (by kernel_rfl)
   have y59 : A.eval (.tmp 59) = undef := hr 59 (by kernel_rfl)
   have y60 : A.eval (.tmp 60) = undef := hr 60 (by kernel_rfl)
   have y61 : A.eval (.tmp 61) = undef := hr 61 (by kernel_rfl)
   have y62 : A.eval (.tmp 62) = undef := hr 62 (by kernel_rfl)
   have y63 : A.eval (.tmp 63) = undef := hr 63 (by kernel_rfl)
   have y64 : A.eval (.tmp 64) = undef := hr 64 (by kernel_rfl)
   have y65 : A.eval (.tmp 65) = undef := hr 65 (by kernel_rfl)
   have y66 : A.eval (.tmp 66) = undef := hr 66 (by kernel_rfl)
   have y67 : A.eval (.tmp 67) = undef := hr 67 (by kernel_rfl)
   have y68 : A.eval (.tmp 68) = undef := hr 68 (by kernel_rfl)
   have y69 : A.eval (.tmp 69) = undef := hr 69 (by kernel_rfl)
   have y70 : A.eval (.tmp 70) = undef := hr 70 (by kernel_rfl)
   have y71 : A.eval (.tmp 71) = undef := hr 71 (by kernel_rfl)
   have y72 : A.eval (.tmp 72) = undef := hr 72 (by kernel_rfl)
   have y73 : A.eval (.tmp 73) = undef := hr 73 (by kernel_rfl)
   have y74 : A.eval (.tmp 74) = undef := hr 74 (by kernel_rfl)
   have y75 : A.eval (.tmp 75) = undef := hr 75 (by kernel_rfl)
   have y76 : A.eval (.tmp 76) = undef := hr 76 (by kernel_rfl)
   have y77 : A.eval (.tmp 77) = undef := hr 77 (by kernel_rfl)
   have y78 : A.eval (.tmp 78) = undef := hr 78 (by kernel_rfl)
   have y79 : A.eval (.tmp 79) = undef := hr 79 (by kernel_rfl)
   have y80 : A.eval (.tmp 80) = undef := hr 80 (by kernel_rfl)
   have y81 : A.eval (.tmp 81) = undef := hr 81 (by kernel_rfl)
   have y82 : A.eval (.tmp 82) = undef := hr 82 (by kernel_rfl)
   have y83 : A.eval (.tmp 83) = undef := hr 83 (by kernel_rfl)
   have y84 : A.eval (.tmp 84) = undef := hr 84 (by kernel_rfl)
   have y85 : A.eval (.tmp 85) = undef := hr 85 (by kernel_rfl)
   have y86 : A.eval (.tmp 86) = undef := hr 86 (by kernel_rfl)
   have y87 : A.eval (.tmp 87) = undef := hr 87 (by kernel_rfl)
   have y88 : A.eval (.tmp 88) = undef := hr 88 (by kernel_rfl)
   have y89 : A.eval (.tmp 89) = undef := hr 89 (by kernel_rfl)
   have y90 : A.eval (.tmp 90) = undef := hr 90 (by kernel_rfl)
   have y91 : A.eval (.tmp 91) = undef := hr 91 (by kernel_rfl)
   have y92 : A.eval (.tmp 92) = undef := hr 92 (by kernel_rfl)
   have y93 : A.eval (.tmp 93) = undef := hr 93 (by kernel_rfl)
   have y94 : A.eval (.tmp 94) = undef := hr 94 (by kernel_rfl)
   have y95 : A.eval (.tmp 95) = undef := hr 95 (by kernel_rfl)
   have y96 : A.eval (.tmp 96) = undef := hr 96 (by kernel_rfl)
   rw [act97 hs, hd, y0, y1, y2, y3, y4, y5, y6, y7, y8, y9, y10, y11, y12, y53, y54, y55, y56, y57, y58, y59, y60, y61, y62, y63, y64, y65, y66, y67, y68, y69, y70, y71, y72, y73, y74, y75, y76, y77, y78, y79, y80, y81, y82, y83, y84, y85, y86, y87, y88, y89, y90, y91, y92, y93, y94, y95, y96]
   generalize A.eval (.tmp 13) = x1_13
   generalize A.eval (.tmp 14) = x1_14
   generalize A.eval (.tmp 15) = x1_15
   generalize A.eval (.tmp 16) = x1_16
   generalize A.eval (.tmp 17) = x1_17
   generalize A.eval (.tmp 18) = x1_18
   generalize A.eval (.tmp 19) = x1_19
   generalize A.eval (.tmp 20) = x1_20
   generalize A.eval (.tmp 21) = x1_21
   generalize A.eval (.tmp 22) = x1_22
   generalize A.eval (.tmp 23) = x1_23
   generalize A.eval (.tmp 24) = x1_24
   generalize A.eval (.tmp 25) = x1_25
   generalize A.eval (.tmp 26) = x1_26
   generalize A.eval (.tmp 27) = x1_27
   generalize A.eval (.tmp 28) = x1_28
   generalize A.eval (.tmp 29) = x1_29
   generalize A.eval (.tmp 30) = x1_30
   generalize A.eval (.tmp 31) = x1_31
   generalize A.eval (.tmp 32) = x1_32
   generalize A.eval (.tmp 33) = x1_33
   generalize A.eval (.tmp 34) = x1_34
   generalize A.eval (.tmp 35) = x1_35
   generalize A.eval (.tmp 36) = x1_36
   generalize A.eval (.tmp 37) = x1_37
   generalize A.eval (.tmp 38) = x1_38
   generalize A.eval (.tmp 39) = x1_39
   generalize A.eval (.tmp 40) = x1_40
   generalize A.eval (.tmp 41) = x1_41
   generalize A.eval (.tmp 42) = x1_42
   generalize A.eval (.tmp 43) = x1_43
   generalize A.eval (.tmp 44) = x1_44
   generalize A.eval (.tmp 45) = x1_45
   generalize A.eval (.tmp 46) = x1_46
   generalize A.eval (.tmp 47) = x1_47
   generalize A.eval (.tmp 48) = x1_48
   generalize A.eval (.tmp 49) = x1_49
   generalize A.eval (.tmp 50) = x1_50
   generalize A.eval (.tmp 51) = x1_51
   generalize A.eval (.tmp 52) = x1_52
   clear hr hs hd y0 y1 y2 y3 y4 y5 y6 y7 y8 y9 y10 y11 y12 y53 y54 y55 y56 y57 y58 y59 y60 y61 y62 y63 y64 y65 y66 y67 y68 y69 y70 y71 y72 y73 y74 y75 y76 y77 y78 y79 y80 y81 y82 y83 y84 y85 y86 y87 y88 y89 y90 y91 y92 y93 y94 y95 y96
   clear hR HS hM
   refine hKf _ _ ?_
   clear hKf
   go_wp2
   go_roundw
   case rel => exact ⟨k + 1, by omega, (by first | rfl | go_num), HS2.out⟩
   case measure => simp [intOf]; omega
  ·have hlt' : ¬ (k : Int) < 16 := by omega
   obtain rfl : k = 16 := by omega
   clear HM
   go_wp2_with fail
   go_loopw [5] (fun i wr => ∃ k : Nat, 16 ≤ k ∧ k ≤ 64 ∧ i = .int .i64 k ∧ Sched w m k wr) (fun i _ => 64 - (intOf i).toNat)
   case atStart => exact ⟨16, by omega, by omega, rfl, HS.out⟩
   case round =>
    clear HS hk hk0 hlt hlt'
    obtain ⟨k, h16, hk, rfl, hS⟩ := hrel
    have HS := Lib.hid hS
    have hk0 : (0 : Int) ≤ (k : Int) := Int.natCast_nonneg _
    clear hS
    by_cases hlt : k < 64
    ·have hlt' : (k : Int) < 64 := by omega
     go_wp2_with fail
     rename_i Ko hKo Kf hKf
     have hC := fun j (hj : j < k) => (cell_of_row _ _ (0 + j) _ 186 (0, 0) HS.out.drew.cur).trans (arr_at (l := schd m k) (o := 0 + j) (by rw [schd_length]; omega))
     simp only [Nat.zero_add] at hC
     refine reg197_10 (c := w.heap.size + 1) (ii := k) (w15 := (schd m k).getD (k - 15) 0) (w2 := (schd m k).getD (k - 2) 0) (by kernel_rfl) rfl h16 hlt (by rw [Nat.zero_add]; exact hC _ (by omega)) (by rw [Nat.zero_add]; exact hC _ (by omega)) rfl rfl rfl (fun A hd hs hr hR => ?_)
     have y6 : A.eval (.tmp 6) = U ((schd m k).getD (k - 15) 0) := hR 8 (by decide)
     have y7 : A.eval (.tmp 7) = U ((schd m k).getD (k - 2) 0) := hR 9 (by decide)
     have y0 : A.eval (.tmp 0) = .pointer (some ⟨b, q, none⟩) := hr 0 (by kernel_rfl)
     have y1 : A.eval (.tmp 1) = undef := hr 1 (by kernel_rfl)
     have y2 : A.eval (.tmp 2) = .pointer (some ⟨w.heap.size, 0, none⟩) := hr 2 (by kernel_rfl)
     have y3 : A.eval (.tmp 3) = .pointer (some ⟨w.heap.size + 1, 0, none⟩) := hr 3 (by kernel_rfl)
     have y4 : A.eval (.tmp 4) = u4 := hr 4 (by kernel_rfl)
     have y5 : A.eval (.tmp 5) = .int .i64 (k : Int) := hr 5 (by kernel_rfl)
     have y6 : A.eval (.tmp 6) = U ((schd m k).getD (k - 15) 0) := y6
     have y7 : A.eval (.tmp 7) = U ((schd m k).getD (k - 2) 0) := y7
     have y10 : A.eval (.tmp 10) = .int .i64 16 := hr 10 (by kernel_rfl)
     have y11 : A.eval (.tmp 11) = .bool false := hr 11 (by kernel_rfl)
     have y12 : A.eval (.tmp 12) = u12 := hr 12 (by kernel_rfl)
     have y13 : A.eval (.tmp 13) = u13 := hr 13 (by kernel_rfl)
     have y14 : A.eval (.tmp 14) = u14 := hr 14 (by kernel_rfl)
     have y15 : A.eval (.tmp 15) = u15 := hr 15 (by kernel_rfl)
     have y16 : A.eval (.tmp 16) = u16 := hr 16 (by kernel_rfl)
     have y17 : A.eval (.tmp 17) = u17 := hr 17 (by kernel_rfl)
     have y18 : A.eval (.tmp 18) = u18 := hr 18 (by kernel_rfl)
     have y19 : A.eval (.tmp 19) = u19 := hr 19 (by kernel_rfl)
     have y20 : A.eval (.tmp 20) = u20 := hr 20 (by kernel_rfl)
     have y21 : A.eval (.tmp 21) = u21 := hr 21 (by kernel_rfl)
     have y22 : A.eval (.tmp 22) = u22 := hr 22 (by kernel_rfl)
     have y23 : A.eval (.tmp 23) = u23 := hr 23 (by kernel_rfl)
     have y24 : A.eval (.tmp 24) = u24 := hr 24 (by kernel_rfl)
     have y25 : A.eval (.tmp 25) = u25 := hr 25 (by kernel_rfl)
     have y26 : A.eval (.tmp 26) = u26 := hr 26 (by kernel_rfl)
     have y27 : A.eval (.tmp 27) = u27 := hr 27 (by kernel_rfl)
     have y28 : A.eval (.tmp 28) = u28 := hr 28 (by kernel_rfl)
     have y29 : A.eval (.tmp 29) = u29 := hr 29 (by kernel_rfl)
     have y30 : A.eval (.tmp 30) = u30 := hr 30 (by kernel_rfl)
     have y31 : A.eval (.tmp 31) = u31 := hr 31 (by kernel_rfl)
     have y32 : A.eval (.tmp 32) = u32 := hr 32 (by kernel_rfl)
     have y33 : A.eval (.tmp 33) = u33 := hr 33 (by kernel_rfl)
     have y34 : A.eval (.tmp 34) = u34 := hr 34 (by kernel_rfl)
     have y35 : A.eval (.tmp 35) = u35 := hr 35 (by kernel_rfl)
     have y36 : A.eval (.tmp 36) = u36 := hr 36 (by kernel_rfl)
     have y37 : A.eval (.tmp 37) = u37 := hr 37 (by kernel_rfl)
     have y38 : A.eval (.tmp 38) = u38 := hr 38 (by kernel_rfl)
     have y39 : A.eval (.tmp 39) = u39 := hr 39 (by kernel_rfl)
     have y40 : A.eval (.tmp 40) = u40 := hr 40 (by kernel_rfl)
     have y41 : A.eval (.tmp 41) = u41 := hr 41 (by kernel_rfl)
     have y42 : A.eval (.tmp 42) = u42 := hr 42 (by kernel_rfl)
     have y43 : A.eval (.tmp 43) = u43 := hr 43 (by kernel_rfl)
     have y44 : A.eval (.tmp 44) = u44 := hr 44 (by kernel_rfl)
     have y45 : A.eval (.tmp 45) = u45 := hr 45 (by kernel_rfl)
     have y46 : A.eval (.tmp 46) = u46 := hr 46 (by kernel_rfl)
     have y47 : A.eval (.tmp 47) = u47 := hr 47 (by kernel_rfl)
     have y48 : A.eval (.tmp 48) = u48 := hr 48 (by kernel_rfl)
     have y49 : A.eval (.tmp 49) = u49 := hr 49 (by kernel_rfl)
     have y50 : A.eval (.tmp 50) = u50 := hr 50 (by kernel_rfl)
     have y51 : A.eval (.tmp 51) = u51 := hr 51 (by kernel_rfl)
     have y52 : A.eval (.tmp 52) = u52 := hr 52 (by kernel_rfl)
     have y53 : A.eval (.tmp 53) = .int .i64 (k : Int) := hr 53 (by kernel_rfl)
     have y54 : A.eval (.tmp 54) = .bool true := hr 54 (by kernel_rfl)
     have y96 : A.eval (.tmp 96) = undef := hr 96 (by kernel_rfl)
     rw [act97 hs, hd, y0, y1, y2, y3, y4, y5, y6, y7, y10, y11, y12, y13, y14, y15, y16, y17, y18, y19, y20, y21, y22, y23, y24, y25, y26, y27, y28, y29, y30, y31, y32, y33, y34, y35, y36, y37, y38, y39, y40, y41, y42, y43, y44, y45, y46, y47, y48, y49, y50, y51, y52, y53, y54, y96]
     generalize A.eval (.tmp 8) = x1_8
     generalize A.eval (.tmp 9) = x1_9
     generalize A.eval (.tmp 55) = x1_55
     generalize A.eval (.tmp 56) = x1_56
     generalize A.eval (.tmp 57) = x1_57
     generalize A.eval (.tmp 58) = x1_58
     generalize A.eval (.tmp 59) = x1_59
     generalize A.eval (.tmp 60) = x1_60
     generalize A.eval (.tmp 61) = x1_61
     generalize A.eval (.tmp 62) = x1_62
     generalize A.eval (.tmp 63) = x1_63
     generalize A.eval (.tmp 64) = x1_64
     generalize A.eval (.tmp 65) = x1_65
     generalize A.eval (.tmp 66) = x1_66
     generalize A.eval (.tmp 67) = x1_67
     generalize A.eval (.tmp 68) = x1_68
     generalize A.eval (.tmp 69) = x1_69
     generalize A.eval (.tmp 70) = x1_70
     generalize A.eval (.tmp 71) = x1_71
     generalize A.eval (.tmp 72) = x1_72
     generalize A.eval (.tmp 73) = x1_73
     generalize A.eval (.tmp 74) = x1_74
     generalize A.eval (.tmp 75) = x1_75
     generalize A.eval (.tmp 76) = x1_76
     generalize A.eval (.tmp 77) = x1_77
     generalize A.eval (.tmp 78) = x1_78
     generalize A.eval (.tmp 79) = x1_79
     generalize A.eval (.tmp 80) = x1_80
     generalize A.eval (.tmp 81) = x1_81
     generalize A.eval (.tmp 82) = x1_82
     generalize A.eval (.tmp 83) = x1_83
     generalize A.eval (.tmp 84) = x1_84
     generalize A.eval (.tmp 85) = x1_85
     generalize A.eval (.tmp 86) = x1_86
     generalize A.eval (.tmp 87) = x1_87
     generalize A.eval (.tmp 88) = x1_88
     generalize A.eval (.tmp 89) = x1_89
     generalize A.eval (.tmp 90) = x1_90
     generalize A.eval (.tmp 91) = x1_91
     generalize A.eval (.tmp 92) = x1_92
     generalize A.eval (.tmp 93) = x1_93
     generalize A.eval (.tmp 94) = x1_94
     generalize A.eval (.tmp 95) = x1_95
     clear hr hs hd y0 y1 y2 y3 y4 y5 y6 y7 y10 y11 y12 y13 y14 y15 y16 y17 y18 y19 y20 y21 y22 y23 y24 y25 y26 y27 y28 y29 y30 y31 y32 y33 y34 y35 y36 y37 y38 y39 y40 y41 y42 y43 y44 y45 y46 y47 y48 y49 y50 y51 y52 y53 y54 y96
     clear hR hC
     refine hKf _ _ ?_
     clear hKf
     generalize hw15 : (schd m k).getD (k - 15) 0 = w15
     generalize hw2 : (schd m k).getD (k - 2) 0 = w2
     have HW15 := Lib.hid hw15
     have HW2 := Lib.hid hw2
     clear hw15 hw2
     have HSD := Lib.hid (HS.out.drew)
     clear HS
     generalize World.drew wr = W1 at HSD ⊢
     go_upto_region 11 with (fail)
     rename_i Kf hKf
     refine reg197_11 (x := w15) (by kernel_rfl) rfl rfl rfl (fun A hd hs hr hR => ?_)
     have y8 : A.eval (.tmp 8) = U (sg0 w15) := hR 8 (by decide)
     have y0 : A.eval (.tmp 0) = .pointer (some ⟨b, q, none⟩) := hr 0 (by kernel_rfl)
     have y1 : A.eval (.tmp 1) = undef := hr 1 (by kernel_rfl)
     have y2 : A.eval (.tmp 2) = .pointer (some ⟨w.heap.size, 0, none⟩) := hr 2 (by kernel_rfl)
     have y3 : A.eval (.tmp 3) = .pointer (some ⟨w.heap.size + 1, 0, none⟩) := hr 3 (by kernel_rfl)
     have y4 : A.eval (.tmp 4) = u4 := hr 4 (by kernel_rfl)
     have y5 : A.eval (.tmp 5) = .int .i64 (k : Int) := hr 5 (by kernel_rfl)
     have y6 : A.eval (.tmp 6) = U w15 := hr 6 (by kernel_rfl)
     have y7 : A.eval (.tmp 7) = U w2 := hr 7 (by kernel_rfl)
     have y8 : A.eval (.tmp 8) = U (sg0 w15) := y8
     have y10 : A.eval (.tmp 10) = .int .i64 16 := hr 10 (by kernel_rfl)
     have y11 : A.eval (.tmp 11) = .bool false := hr 11 (by kernel_rfl)
     have y12 : A.eval (.tmp 12) = u12 := hr 12 (by kernel_rfl)
     have y13 : A.eval (.tmp 13) = u13 := hr 13 (by kernel_rfl)
     have y14 : A.eval (.tmp 14) = u14 := hr 14 (by kernel_rfl)
     have y15 : A.eval (.tmp 15) = u15 := hr 15 (by kernel_rfl)
     have y16 : A.eval (.tmp 16) = u16 := hr 16 (by kernel_rfl)
     have y17 : A.eval (.tmp 17) = u17 := hr 17 (by kernel_rfl)
     have y18 : A.eval (.tmp 18) = u18 := hr 18 (by kernel_rfl)
     have y19 : A.eval (.tmp 19) = u19 := hr 19 (by kernel_rfl)
     have y20 : A.eval (.tmp 20) = u20 := hr 20 (by kernel_rfl)
     have y21 : A.eval (.tmp 21) = u21 := hr 21 (by kernel_rfl)
     have y22 : A.eval (.tmp 22) = u22 := hr 22 (by kernel_rfl)
     have y23 : A.eval (.tmp 23) = u23 := hr 23 (by kernel_rfl)
     have y24 : A.eval (.tmp 24) = u24 := hr 24 (by kernel_rfl)
     have y25 : A.eval (.tmp 25) = u25 := hr 25 (by kernel_rfl)
     have y26 : A.eval (.tmp 26) = u26 := hr 26 (by kernel_rfl)
     have y27 : A.eval (.tmp 27) = u27 := hr 27 (by kernel_rfl)
     have y28 : A.eval (.tmp 28) = u28 := hr 28 (by kernel_rfl)
     have y29 : A.eval (.tmp 29) = u29 := hr 29 (by kernel_rfl)
     have y30 : A.eval (.tmp 30) = u30 := hr 30 (by kernel_rfl)
     have y31 : A.eval (.tmp 31) = u31 := hr 31 (by kernel_rfl)
     have y32 : A.eval (.tmp 32) = u32 := hr 32 (by kernel_rfl)
     have y33 : A.eval (.tmp 33) = u33 := hr 33 (by kernel_rfl)
     have y34 : A.eval (.tmp 34) = u34 := hr 34 (by kernel_rfl)
     have y35 : A.eval (.tmp 35) = u35 := hr 35 (by kernel_rfl)
     have y36 : A.eval (.tmp 36) = u36 := hr 36 (by kernel_rfl)
     have y37 : A.eval (.tmp 37) = u37 := hr 37 (by kernel_rfl)
     have y38 : A.eval (.tmp 38) = u38 := hr 38 (by kernel_rfl)
     have y39 : A.eval (.tmp 39) = u39 := hr 39 (by kernel_rfl)
     have y40 : A.eval (.tmp 40) = u40 := hr 40 (by kernel_rfl)
     have y41 : A.eval (.tmp 41) = u41 := hr 41 (by kernel_rfl)
     have y42 : A.eval (.tmp 42) = u42 := hr 42 (by kernel_rfl)
     have y43 : A.eval (.tmp 43) = u43 := hr 43 (by kernel_rfl)
     have y44 : A.eval (.tmp 44) = u44 := hr 44 (by kernel_rfl)
     have y45 : A.eval (.tmp 45) = u45 := hr 45 (by kernel_rfl)
     have y46 : A.eval (.tmp 46) = u46 := hr 46 (by kernel_rfl)
     have y47 : A.eval (.tmp 47) = u47 := hr 47 (by kernel_rfl)
     have y48 : A.eval (.tmp 48) = u48 := hr 48 (by kernel_rfl)
     have y49 : A.eval (.tmp 49) = u49 := hr 49 (by kernel_rfl)
     have y50 : A.eval (.tmp 50) = u50 := hr 50 (by kernel_rfl)
     have y51 : A.eval (.tmp 51) = u51 := hr 51 (by kernel_rfl)
     have y52 : A.eval (.tmp 52) = u52 := hr 52 (by kernel_rfl)
     have y53 : A.eval (.tmp 53) = .int .i64 (k : Int) := hr 53 (by kernel_rfl)
     have y54 : A.eval (.tmp 54) = .bool true := hr 54 (by kernel_rfl)
     have y96 : A.eval (.tmp 96) = undef := hr 96 (by kernel_rfl)
     rw [act97 hs, hd, y0, y1, y2, y3, y4, y5, y6, y7, y8, y10, y11, y12, y13, y14, y15, y16, y17, y18, y19, y20, y21, y22, y23, y24, y25, y26, y27, y28, y29, y30, y31, y32, y33, y34, y35, y36, y37, y38, y39, y40, y41, y42, y43, y44, y45, y46, y47, y48, y49, y50, y51, y52, y53, y54, y96]
     generalize A.eval (.tmp 9) = x2_9
     generalize A.eval (.tmp 55) = x2_55
     generalize A.eval (.tmp 56) = x2_56
     generalize A.eval (.tmp 57) = x2_57
     generalize A.eval (.tmp 58) = x2_58
     generalize A.eval (.tmp 59) = x2_59
     generalize A.eval (.tmp 60) = x2_60
     generalize A.eval (.tmp 61) = x2_61
     generalize A.eval (.tmp 62) = x2_62
     generalize A.eval (.tmp 63) = x2_63
     generalize A.eval (.tmp 64) = x2_64
     generalize A.eval (.tmp 65) = x2_65
     generalize A.eval (.tmp 66) = x2_66
     generalize A.eval (.tmp 67) = x2_67
     generalize A.eval (.tmp 68) = x2_68
     generalize A.eval (.tmp 69) = x2_69
     generalize A.eval (.tmp 70) = x2_70
     generalize A.eval (.tmp 71) = x2_71
     generalize A.eval (.tmp 72) = x2_72
     generalize A.eval (.tmp 73) = x2_73
     generalize A.eval (.tmp 74) = x2_74
     generalize A.eval (.tmp 75) = x2_75
     generalize A.eval (.tmp 76) = x2_76
     generalize A.eval (.tmp 77) = x2_77
     generalize A.eval (.tmp 78) = x2_78
     generalize A.eval (.tmp 79) = x2_79
     generalize A.eval (.tmp 80) = x2_80
     generalize A.eval (.tmp 81) = x2_81
     generalize A.eval (.tmp 82) = x2_82
     generalize A.eval (.tmp 83) = x2_83
     generalize A.eval (.tmp 84) = x2_84
     generalize A.eval (.tmp 85) = x2_85
     generalize A.eval (.tmp 86) = x2_86
     generalize A.eval (.tmp 87) = x2_87
     generalize A.eval (.tmp 88) = x2_88
     generalize A.eval (.tmp 89) = x2_89
     generalize A.eval (.tmp 90) = x2_90
     generalize A.eval (.tmp 91) = x2_91
     generalize A.eval (.tmp 92) = x2_92
     generalize A.eval (.tmp 93) = x2_93
     generalize A.eval (.tmp 94) = x2_94
     generalize A.eval (.tmp 95) = x2_95
     clear hr hs hd y0 y1 y2 y3 y4 y5 y6 y7 y8 y10 y11 y12 y13 y14 y15 y16 y17 y18 y19 y20 y21 y22 y23 y24 y25 y26 y27 y28 y29 y30 y31 y32 y33 y34 y35 y36 y37 y38 y39 y40 y41 y42 y43 y44 y45 y46 y47 y48 y49 y50 y51 y52 y53 y54 y96
     clear hR
     refine hKf _ _ ?_
     clear hKf
     go_upto_region 12 with (fail)
     rename_i Kf hKf
     refine reg197_12 (x := w2) (by kernel_rfl) rfl rfl rfl (fun A hd hs hr hR => ?_)
     have y9 : A.eval (.tmp 9) = U (sg1 w2) := hR 8 (by decide)
     have y0 : A.eval (.tmp 0) = .pointer (some ⟨b, q, none⟩) := hr 0 (by kernel_rfl)
     have y1 : A.eval (.tmp 1) = undef := hr 1 (by kernel_rfl)
     have y2 : A.eval (.tmp 2) = .pointer (some ⟨w.heap.size, 0, none⟩) := hr 2 (by kernel_rfl)
     have y3 : A.eval (.tmp 3) = .pointer (some ⟨w.heap.size + 1, 0, none⟩) := hr 3 (by kernel_rfl)
     have y4 : A.eval (.tmp 4) = u4 := hr 4 (by kernel_rfl)
     have y5 : A.eval (.tmp 5) = .int .i64 (k : Int) := hr 5 (by kernel_rfl)
     have y6 : A.eval (.tmp 6) = U w15 := hr 6 (by kernel_rfl)
     have y7 : A.eval (.tmp 7) = U w2 := hr 7 (by kernel_rfl)
     have y8 : A.eval (.tmp 8) = U (sg0 w15) := hr 8 (by kernel_rfl)
     have y9 : A.eval (.tmp 9) = U (sg1 w2) := y9
     have y10 : A.eval (.tmp 10) = .int .i64 16 := hr 10 (by kernel_rfl)
     have y11 : A.eval (.tmp 11) = .bool false := hr 11 (by kernel_rfl)
     have y12 : A.eval (.tmp 12) = u12 := hr 12 (by kernel_rfl)
     have y13 : A.eval (.tmp 13) = u13 := hr 13 (by kernel_rfl)
     have y14 : A.eval (.tmp 14) = u14 := hr 14 (by kernel_rfl)
     have y15 : A.eval (.tmp 15) = u15 := hr 15 (by kernel_rfl)
     have y16 : A.eval (.tmp 16) = u16 := hr 16 (by kernel_rfl)
     have y17 : A.eval (.tmp 17) = u17 := hr 17 (by kernel_rfl)
     have y18 : A.eval (.tmp 18) = u18 := hr 18 (by kernel_rfl)
     have y19 : A.eval (.tmp 19) = u19 := hr 19 (by kernel_rfl)
     have y20 : A.eval (.tmp 20) = u20 := hr 20 (by kernel_rfl)
     have y21 : A.eval (.tmp 21) = u21 := hr 21 (by kernel_rfl)
     have y22 : A.eval (.tmp 22) = u22 := hr 22 (by kernel_rfl)
     have y23 : A.eval (.tmp 23) = u23 := hr 23 (by kernel_rfl)
     have y24 : A.eval (.tmp 24) = u24 := hr 24 (by kernel_rfl)
     have y25 : A.eval (.tmp 25) = u25 := hr 25 (by kernel_rfl)
     have y26 : A.eval (.tmp 26) = u26 := hr 26 (by kernel_rfl)
     have y27 : A.eval (.tmp 27) = u27 := hr 27 (by kernel_rfl)
     have y28 : A.eval (.tmp 28) = u28 := hr 28 (by kernel_rfl)
     have y29 : A.eval (.tmp 29) = u29 := hr 29 (by kernel_rfl)
     have y30 : A.eval (.tmp 30) = u30 := hr 30 (by kernel_rfl)
     have y31 : A.eval (.tmp 31) = u31 := hr 31 (by kernel_rfl)
     have y32 : A.eval (.tmp 32) = u32 := hr 32 (by kernel_rfl)
     have y33 : A.eval (.tmp 33) = u33 := hr 33 (by kernel_rfl)
     have y34 : A.eval (.tmp 34) = u34 := hr 34 (by kernel_rfl)
     have y35 : A.eval (.tmp 35) = u35 := hr 35 (by kernel_rfl)
     have y36 : A.eval (.tmp 36) = u36 := hr 36 (by kernel_rfl)
     have y37 : A.eval (.tmp 37) = u37 := hr 37 (by kernel_rfl)
     have y38 : A.eval (.tmp 38) = u38 := hr 38 (by kernel_rfl)
     have y39 : A.eval (.tmp 39) = u39 := hr 39 (by kernel_rfl)
     have y40 : A.eval (.tmp 40) = u40 := hr 40 (by kernel_rfl)
     have y41 : A.eval (.tmp 41) = u41 := hr 41 (by kernel_rfl)
     have y42 : A.eval (.tmp 42) = u42 := hr 42 (by kernel_rfl)
     have y43 : A.eval (.tmp 43) = u43 := hr 43 (by kernel_rfl)
     have y44 : A.eval (.tmp 44) = u44 := hr 44 (by kernel_rfl)
     have y45 : A.eval (.tmp 45) = u45 := hr 45 (by kernel_rfl)
     have y46 : A.eval (.tmp 46) = u46 := hr 46 (by kernel_rfl)
     have y47 : A.eval (.tmp 47) = u47 := hr 47 (by kernel_rfl)
     have y48 : A.eval (.tmp 48) = u48 := hr 48 (by kernel_rfl)
     have y49 : A.eval (.tmp 49) = u49 := hr 49 (by kernel_rfl)
     have y50 : A.eval (.tmp 50) = u50 := hr 50 (by kernel_rfl)
     have y51 : A.eval (.tmp 51) = u51 := hr 51 (by kernel_rfl)
     have y52 : A.eval (.tmp 52) = u52 := hr 52 (by kernel_rfl)
     have y53 : A.eval (.tmp 53) = .int .i64 (k : Int) := hr 53 (by kernel_rfl)
     have y54 : A.eval (.tmp 54) = .bool true := hr 54 (by kernel_rfl)
     have y96 : A.eval (.tmp 96) = undef := hr 96 (by kernel_rfl)
     rw [act97 hs, hd, y0, y1, y2, y3, y4, y5, y6, y7, y8, y9, y10, y11, y12, y13, y14, y15, y16, y17, y18, y19, y20, y21, y22, y23, y24, y25, y26, y27, y28, y29, y30, y31, y32, y33, y34, y35, y36, y37, y38, y39, y40, y41, y42, y43, y44, y45, y46, y47, y48, y49, y50, y51, y52, y53, y54, y96]
     generalize A.eval (.tmp 55) = x3_55
     generalize A.eval (.tmp 56) = x3_56
     generalize A.eval (.tmp 57) = x3_57
     generalize A.eval (.tmp 58) = x3_58
     generalize A.eval (.tmp 59) = x3_59
     generalize A.eval (.tmp 60) = x3_60
     generalize A.eval (.tmp 61) = x3_61
     generalize A.eval (.tmp 62) = x3_62
     generalize A.eval (.tmp 63) = x3_63
     generalize A.eval (.tmp 64) = x3_64
     generalize A.eval (.tmp 65) = x3_65
     generalize A.eval (.tmp 66) = x3_66
     generalize A.eval (.tmp 67) = x3_67
     generalize A.eval (.tmp 68) = x3_68
     generalize A.eval (.tmp 69) = x3_69
     generalize A.eval (.tmp 70) = x3_70
     generalize A.eval (.tmp 71) = x3_71
     generalize A.eval (.tmp 72) = x3_72
     generalize A.eval (.tmp 73) = x3_73
     generalize A.eval (.tmp 74) = x3_74
     generalize A.eval (.tmp 75) = x3_75
     generalize A.eval (.tmp 76) = x3_76
     generalize A.eval (.tmp 77) = x3_77
     generalize A.eval (.tmp 78) = x3_78
     generalize A.eval (.tmp 79) = x3_79
     generalize A.eval (.tmp 80) = x3_80
     generalize A.eval (.tmp 81) = x3_81
     generalize A.eval (.tmp 82) = x3_82
     generalize A.eval (.tmp 83) = x3_83
     generalize A.eval (.tmp 84) = x3_84
     generalize A.eval (.tmp 85) = x3_85
     generalize A.eval (.tmp 86) = x3_86
     generalize A.eval (.tmp 87) = x3_87
     generalize A.eval (.tmp 88) = x3_88
     generalize A.eval (.tmp 89) = x3_89
     generalize A.eval (.tmp 90) = x3_90
     generalize A.eval (.tmp 91) = x3_91
     generalize A.eval (.tmp 92) = x3_92
     generalize A.eval (.tmp 93) = x3_93
     generalize A.eval (.tmp 94) = x3_94
     generalize A.eval (.tmp 95) = x3_95
     clear hr hs hd y0 y1 y2 y3 y4 y5 y6 y7 y8 y9 y10 y11 y12 y13 y14 y15 y16 y17 y18 y19 y20 y21 y22 y23 y24 y25 y26 y27 y28 y29 y30 y31 y32 y33 y34 y35 y36 y37 y38 y39 y40 y41 y42 y43 y44 y45 y46 y47 y48 y49 y50 y51 y52 y53 y54 y96
     clear hR
     refine hKf _ _ ?_
     clear hKf
     go_wp2_with fail
     have hC := fun j (hj : j < k) => (cell_of_row _ _ j _ 186 (0, 0) HSD.out.drew.cur).trans (arr_at (l := schd m k) (o := j) (by rw [schd_length]; omega))
     refine reg197_13 (c := w.heap.size + 1) (ii := k) (w16 := (schd m k).getD (k - 16) 0) (w7 := (schd m k).getD (k - 7) 0) (p := sg0 w15) (q := sg1 w2) (y := U 0) (by kernel_rfl) rfl h16 hlt (by rw [Nat.zero_add]; exact hC _ (by omega)) (by rw [Nat.zero_add]; exact hC _ (by omega)) (by rw [Nat.zero_add]; exact (cell_of_row _ _ _ _ 186 (0, 0) HSD.out.drew.cur).trans (arr_free (by rw [schd_length]; omega) (by omega))) (by simp [World.frozen?, HSD.out.drew.cur]) rfl rfl rfl rfl rfl (fun A hd hs hr hR => ?_)
     generalize hW2 : World.setCell _ _ _ = W2
     have HS2 := Lib.hid (show Sched w m (k + 1) W2 from by
      rw [← hW2]
      exact HSD.out.drew.put (by omega) (by unfold nextW; rw [if_neg (by omega), HW15.out, HW2.out]))
     clear hW2
     have y0 : A.eval (.tmp 0) = .pointer (some ⟨b, q, none⟩) := hr 0 (by kernel_rfl)
     have y1 : A.eval (.tmp 1) = undef := hr 1 (by kernel_rfl)
     have y2 : A.eval (.tmp 2) = .pointer (some ⟨w.heap.size, 0, none⟩) := hr 2 (by kernel_rfl)
     have y3 : A.eval (.tmp 3) = .pointer (some ⟨w.heap.size + 1, 0, none⟩) := hr 3 (by kernel_rfl)
     have y4 : A.eval (.tmp 4) = u4 := hr 4 (by kernel_rfl)
     have y5 : A.eval (.tmp 5) = .int .i64 (k : Int) := hr 5 (by kernel_rfl)
     have y6 : A.eval (.tmp 6) = U w15 := hr 6 (by kernel_rfl)
     have y7 : A.eval (.tmp 7) = U w2 := hr 7 (by kernel_rfl)
     have y8 : A.eval (.tmp 8) = U (sg0 w15) := hr 8 (by kernel_rfl)
     have y9 : A.eval (.tmp 9) = U (sg1 w2) := hr 9 (by kernel_rfl)
     have y10 : A.eval (.tmp 10) = .int .i64 16 := hr 10 (by kernel_rfl)
     have y11 : A.eval (.tmp 11) = .bool false := hr 11 (by kernel_rfl)
     have y12 : A.eval (.tmp 12) = u12 := hr 12 (by kernel_rfl)
     have y13 : A.eval (.tmp 13) = u13 := hr 13 (by kernel_rfl)
     have y14 : A.eval (.tmp 14) = u14 := hr 14 (by kernel_rfl)
     have y15 : A.eval (.tmp 15) = u15 := hr 15 (by kernel_rfl)
     have y16 : A.eval (.tmp 16) = u16 := hr 16 (by kernel_rfl)
     have y17 : A.eval (.tmp 17) = u17 := hr 17 (by kernel_rfl)
     have y18 : A.eval (.tmp 18) = u18 := hr 18 (by kernel_rfl)
     have y19 : A.eval (.tmp 19) = u19 := hr 19 (by kernel_rfl)
     have y20 : A.eval (.tmp 20) = u20 := hr 20 (by kernel_rfl)
     have y21 : A.eval (.tmp 21) = u21 := hr 21 (by kernel_rfl)
     have y22 : A.eval (.tmp 22) = u22 := hr 22 (by kernel_rfl)
     have y23 : A.eval (.tmp 23) = u23 := hr 23 (by kernel_rfl)
     have y24 : A.eval (.tmp 24) = u24 := hr 24 (by kernel_rfl)
     have y25 : A.eval (.tmp 25) = u25 := hr 25 (by kernel_rfl)
     have y26 : A.eval (.tmp 26) = u26 := hr 26 (by kernel_rfl)
     have y27 : A.eval (.tmp 27) = u27 := hr 27 (by kernel_rfl)
     have y28 : A.eval (.tmp 28) = u28 := hr 28 (by kernel_rfl)
     have y29 : A.eval (.tmp 29) = u29 := hr 29 (by kernel_rfl)
     have y30 : A.eval (.tmp 30) = u30 := hr 30 (by kernel_rfl)
     have y31 : A.eval (.tmp 31) = u31 := hr 31 (by kernel_rfl)
     have y32 : A.eval (.tmp 32) = u32 := hr 32 (by kernel_rfl)
     have y33 : A.eval (.tmp 33) = u33 := hr 33 (by kernel_rfl)
     have y34 : A.eval (.tmp 34) = u34 := hr 34 (by kernel_rfl)
     have y35 : A.eval (.tmp 35) = u35 := hr 35 (by kernel_rfl)
     have y36 : A.eval (.tmp 36) = u36 := hr 36 (by kernel_rfl)
     have y37 : A.eval (.tmp 37) = u37 := hr 37 (by kernel_rfl)
     have y38 : A.eval (.tmp 38) = u38 := hr 38 (by kernel_rfl)
     have y39 : A.eval (.tmp 39) = u39 := hr 39 (by kernel_rfl)
     have y40 : A.eval (.tmp 40) = u40 := hr 40 (by kernel_rfl)
     have y41 : A.eval (.tmp 41) = u41 := hr 41 (by kernel_rfl)
     have y42 : A.eval (.tmp 42) = u42 := hr 42 (by kernel_rfl)
     have y43 : A.eval (.tmp 43) = u43 := hr 43 (by kernel_rfl)
     have y44 : A.eval (.tmp 44) = u44 := hr 44 (by kernel_rfl)
     have y45 : A.eval (.tmp 45) = u45 := hr 45 (by kernel_rfl)
     have y46 : A.eval (.tmp 46) = u46 := hr 46 (by kernel_rfl)
     have y47 : A.eval (.tmp 47) = u47 := hr 47 (by kernel_rfl)
     have y48 : A.eval (.tmp 48) = u48 := hr 48 (by kernel_rfl)
     have y49 : A.eval (.tmp 49) = u49 := hr 49 (by kernel_rfl)
     have y50 : A.eval (.tmp 50) = u50 := hr 50 (by kernel_rfl)
     have y51 : A.eval (.tmp 51) = u51 := hr 51 (by kernel_rfl)
     have y52 : A.eval (.tmp 52) = u52 := hr 52 (by kernel_rfl)
     have y53 : A.eval (.tmp 53) = .int .i64 (k : Int) := hr 53 (by kernel_rfl)
     have y54 : A.eval (.tmp 54) = .bool true := hr 54 (by kernel_rfl)
     have y96 : A.eval (.tmp 96) = undef := hr 96 (by kernel_rfl)
     rw [act97 hs, hd, y0, y1, y2, y3, y4, y5, y6, y7, y8, y9, y10, y11, y12, y13, y14, y15, y16, y17, y18, y19, y20, y21, y22, y23, y24, y25, y26, y27, y28, y29, y30, y31, y32, y33, y34, y35, y36, y37, y38, y39, y40, y41, y42, y43, y44, y45, y46, y47, y48, y49, y50, y51, y52, y53, y54, y96]
     generalize A.eval (.tmp 55) = x4_55
     generalize A.eval (.tmp 56) = x4_56
     generalize A.eval (.tmp 57) = x4_57
     generalize A.eval (.tmp 58) = x4_58
     generalize A.eval (.tmp 59) = x4_59
     generalize A.eval (.tmp 60) = x4_60
     generalize A.eval (.tmp 61) = x4_61
     generalize A.eval (.tmp 62) = x4_62
     generalize A.eval (.tmp 63) = x4_63
     generalize A.eval (.tmp 64) = x4_64
     generalize A.eval (.tmp 65) = x4_65
     generalize A.eval (.tmp 66) = x4_66
     generalize A.eval (.tmp 67) = x4_67
     generalize A.eval (.tmp 68) = x4_68
     generalize A.eval (.tmp 69) = x4_69
     generalize A.eval (.tmp 70) = x4_70
     generalize A.eval (.tmp 71) = x4_71
     generalize A.eval (.tmp 72) = x4_72
     generalize A.eval (.tmp 73) = x4_73
     generalize A.eval (.tmp 74) = x4_74
     generalize A.eval (.tmp 75) = x4_75
     generalize A.eval (.tmp 76) = x4_76
     generalize A.eval (.tmp 77) = x4_77
     generalize A.eval (.tmp 78) = x4_78
     generalize A.eval (.tmp 79) = x4_79
     generalize A.eval (.tmp 80) = x4_80
     generalize A.eval (.tmp 81) = x4_81
     generalize A.eval (.tmp 82) = x4_82
     generalize A.eval (.tmp 83) = x4_83
     generalize A.eval (.tmp 84) = x4_84
     generalize A.eval (.tmp 85) = x4_85
     generalize A.eval (.tmp 86) = x4_86
     generalize A.eval (.tmp 87) = x4_87
     generalize A.eval (.tmp 88) = x4_88
     generalize A.eval (.tmp 89) = x4_89
     generalize A.eval (.tmp 90) = x4_90
     generalize A.eval (.tmp 91) = x4_91
     generalize A.eval (.tmp 92) = x4_92
     generalize A.eval (.tmp 93) = x4_93
     generalize A.eval (.tmp 94) = x4_94
     generalize A.eval (.tmp 95) = x4_95
     clear hr hs hd y0 y1 y2 y3 y4 y5 y6 y7 y8 y9 y10 y11 y12 y13 y14 y15 y16 y17 y18 y19 y20 y21 y22 y23 y24 y25 y26 y27 y28 y29 y30 y31 y32 y33 y34 y35 y36 y37 y38 y39 y40 y41 y42 y43 y44 y45 y46 y47 y48 y49 y50 y51 y52 y53 y54 y96
     clear hR hC HW15 HW2 HSD
     refine hKo _ _ ?_
     clear hKo
     go_wp2
     go_roundw
     case rel => exact ⟨k + 1, by omega, by omega, (by first | rfl | go_num), HS2.out⟩
     case measure => simp [intOf]; omega
    ·have hlt' : ¬ (k : Int) < 64 := by omega
     obtain rfl : k = 64 := by omega
     have hsz : (arr (schd m 64)).toList.length = 64 := by simp [arr_size, schd_length]
     have hrange := Lib.hid (range_of_heap HS.out.cur)
     have hth := Lib.hid (there_of_heap HS.out.res (arr_size [] (by simp)))
     have hsz' := arr_size (schd m 64) (by rw [schd_length]; omega)
     go_wp2_with (first | (refine wpList_load_mid (by rfl) 186 (.tmp 3) (by rfl) (w.heap.size + 1) 0 (by rfl) (arr (schd m 64)).toList (.array 64 184) hrange.out hu186 rfl (by rw [hsz]; exact hi186) ?_) | (refine wpList_store_mid (by rfl) 186 (.tmp 2) (.tmp 96) (by rfl) w.heap.size 0 (arr (schd m 64)) (by rfl) (by rfl) (by rw [hsz']; exact hth.out) (by rw [hsz']; exact hi186) (arr_ones _) ?_))
     refine bodyPost_ret (results197 _ _ w.heap.size (arr (schd m 64)).toList rfl (World.rangeAt_setCells_same _ _ _ _ (fun j hj => hth.out j (by rw [hsz] at hj; exact hj))) hsz) rfl ?_
     exact ⟨rfl, setCells_below _ (Nat.le_refl _) _ _ HS.out.below⟩
end Go.Proofs.YtoimjnmhinfbkaaGreatDoor
