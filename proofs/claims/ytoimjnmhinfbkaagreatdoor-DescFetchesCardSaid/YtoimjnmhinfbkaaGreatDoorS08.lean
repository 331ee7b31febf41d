import Derived.Test.YtoimjnmhinfbkaaGreatDoorS04
import Derived.Test.YtoimjnmhinfbkaaGreatDoorS07
namespace Go.Proofs.YtoimjnmhinfbkaaGreatDoor
open Go.RowKit
set_option maxRecDepth 100000
/-- one round of a block's change. -/
def rnd (x : List (BitVec 32)) (k w : BitVec 32) : List (BitVec 32) := match x with
 | [a, b, c, d, e, f, g, h] =>
  let t := h + Sg1 e + ch e f g + k + w
  [t + (Sg0 a + mj a b c), a, b, c, d + t, e, f, g]
 | x => x
def comp (kl ws s : List (BitVec 32)) : Nat → List (BitVec 32)
 | 0 => s
 | k + 1 => rnd (comp kl ws s k) (kl.getD k 0) (ws.getD k 0)
theorem comp_length {kl ws s : List (BitVec 32)} (h : s.length = 8) (k : Nat) : (comp kl ws s k).length = 8 := by
 induction k with
 | zero => exact h
 | succ k ih =>
  unfold comp
  match comp kl ws s k, ih with
  | [a, b, c, d, e, f, g, h], _ => rfl
theorem eight {x : List (BitVec 32)} (h : x.length = 8) : ∃ x0 x1 x2 x3 x4 x5 x6 x7, x = [x0, x1, x2, x3, x4, x5, x6, x7] := by
 match x, h with
 | [a, b, c, d, e, f, g, h], _ => exact ⟨a, b, c, d, e, f, g, h, rfl⟩
/-- a hash in memory: the state, the bytes held, how many there were. -/
def hashC (s : List (BitVec 32)) (hd : List Nat) (n : Int) : Array Value := (s.map (fun x => U x) ++ hd.map (fun (z : Nat) => Value.int .u8 (z : Int)) ++ [Value.int .i64 n]).toArray
theorem hash_at {s : List (BitVec 32)} {hd : List Nat} {n : Int} {k : Nat} (hk : k < s.length) : (hashC s hd n)[k]? = some (U (s.getD k 0)) := by
 unfold hashC
 simp [List.getElem?_append, hk, List.getD]
theorem hash_byte {s : List (BitVec 32)} {hd : List Nat} {n : Int} {k : Nat} (hs : s.length = 8) (hk : k < hd.length) : (hashC s hd n)[8 + k]? = some (.int .u8 (hd.getD k 0 : Int)) := by
 unfold hashC
 simp [List.getElem?_append, hs, hk, List.getD]
theorem hash_set {s : List (BitVec 32)} {hd : List Nat} {n : Int} {k : Nat} (hk : k < s.length) (v : BitVec 32) : (hashC s hd n).setIfInBounds k (U v) = hashC (s.set k v) hd n := by
 unfold hashC
 rw [List.setIfInBounds_toArray]
 congr 1
 rw [List.append_assoc, List.append_assoc, List.set_append_left _ _ (by simpa using hk), List.map_set]
/-- a state changed by a block. -/
def blk (kl s : List (BitVec 32)) (m : Nat → Nat) : List (BitVec 32) := List.zipWith (· + ·) s (comp kl (schd m 64) s 64)
/-- the first k words are changed. -/
def updN (s x : List (BitVec 32)) (k : Nat) : List (BitVec 32) := (List.zipWith (· + ·) s x).take k ++ s.drop k
theorem updN_length {s x : List (BitVec 32)} (hs : s.length = 8) (hx : x.length = 8) {k : Nat} (hk : k ≤ 8) : (updN s x k).length = 8 := by unfold updN; simp [hs, hx]; omega
theorem updN_get {s x : List (BitVec 32)} (hs : s.length = 8) (hx : x.length = 8) {k : Nat} (hk : k < 8) : (updN s x k).getD k 0 = s.getD k 0 := by
 unfold updN
 simp [List.getD, List.getElem?_append, hs, hx, Nat.min_eq_left (Nat.le_of_lt hk)]
theorem updN_set {s x : List (BitVec 32)} (hs : s.length = 8) (hx : x.length = 8) {k : Nat} (hk : k < 8) : (updN s x k).set k (s.getD k 0 + x.getD k 0) = updN s x (k + 1) := by
 obtain ⟨s0, s1, s2, s3, s4, s5, s6, s7, rfl⟩ := eight hs
 obtain ⟨x0, x1, x2, x3, x4, x5, x6, x7, rfl⟩ := eight hx
 match k, hk with
 | 0, _ => rfl
 | 1, _ => rfl
 | 2, _ => rfl
 | 3, _ => rfl
 | 4, _ => rfl
 | 5, _ => rfl
 | 6, _ => rfl
 | 7, _ => rfl
 | k + 8, h => omega
theorem updN_all {s x : List (BitVec 32)} (hs : s.length = 8) (hx : x.length = 8) : updN s x 8 = List.zipWith (· + ·) s x := by
 unfold updN
 rw [List.drop_of_length_le (by omega), List.append_nil, List.take_of_length_le (by simp [hs, hx])]
/-- the rounds' memory. -/
structure TInv (w : World) (x : List (BitVec 32)) (wr : World) : Prop where
 below : Below w.heap.size w wr
 cur : wr.heap[w.heap.size]? = some (.cells (x.map (fun y => U y)).toArray 250 (0, 0))
theorem TInv.drew {w : World} {x : List (BitVec 32)} {wr : World} (h : TInv w x wr) : TInv w x wr.drew := ⟨h.below.drew, h.cur⟩
theorem TInv.cell {w wr : World} {x0 x1 x2 x3 x4 x5 x6 x7 : BitVec 32} (h : TInv w [x0, x1, x2, x3, x4, x5, x6, x7] wr) : wr.cell? ⟨w.heap.size, 0, none⟩ = some (U x0) ∧ wr.cell? ⟨w.heap.size, 1, none⟩ = some (U x1) ∧ wr.cell? ⟨w.heap.size, 2, none⟩ = some (U x2) ∧ wr.cell? ⟨w.heap.size, 3, none⟩ = some (U x3) ∧ wr.cell? ⟨w.heap.size, 4, none⟩ = some (U x4) ∧ wr.cell? ⟨w.heap.size, 5, none⟩ = some (U x5) ∧ wr.cell? ⟨w.heap.size, 6, none⟩ = some (U x6) ∧ wr.cell? ⟨w.heap.size, 7, none⟩ = some (U x7) := by
 refine ⟨(cell_of_row _ _ 0 _ 250 (0, 0) h.cur).trans rfl, (cell_of_row _ _ 1 _ 250 (0, 0) h.cur).trans rfl, (cell_of_row _ _ 2 _ 250 (0, 0) h.cur).trans rfl, (cell_of_row _ _ 3 _ 250 (0, 0) h.cur).trans rfl, (cell_of_row _ _ 4 _ 250 (0, 0) h.cur).trans rfl, (cell_of_row _ _ 5 _ 250 (0, 0) h.cur).trans rfl, (cell_of_row _ _ 6 _ 250 (0, 0) h.cur).trans rfl, (cell_of_row _ _ 7 _ 250 (0, 0) h.cur).trans rfl⟩
theorem TInv.shift {w wr : World} {x0 x1 x2 x3 x4 x5 x6 x7 : BitVec 32} (h : TInv w [x0, x1, x2, x3, x4, x5, x6, x7] wr) : TInv w [x0, x0, x1, x2, x3, x4, x5, x6] (wr.setCells w.heap.size 1 [U x0, U x1, U x2, U x3, U x4, U x5, U x6]) := by
 refine ⟨setCells_below _ (Nat.le_refl _) _ _ h.below, ?_⟩
 simp only [World.setCells]
 have h0 : wr.heap[w.heap.size]? = some (.cells #[U x0, U x1, U x2, U x3, U x4, U x5, U x6, U x7] 250 (0, 0)) := h.cur
 exact (blk_set (cs := #[U x0, U x0, U x1, U x2, U x3, U x4, U x5, U x7]) (show _ = some (.cells #[U x0, U x0, U x1, U x2, U x3, U x4, U x5, U x7] 250 (0, 0)) from (blk_set (cs := #[U x0, U x0, U x1, U x2, U x3, U x4, U x6, U x7]) (show _ = some (.cells #[U x0, U x0, U x1, U x2, U x3, U x4, U x6, U x7] 250 (0, 0)) from (blk_set (cs := #[U x0, U x0, U x1, U x2, U x3, U x5, U x6, U x7]) (show _ = some (.cells #[U x0, U x0, U x1, U x2, U x3, U x5, U x6, U x7] 250 (0, 0)) from (blk_set (cs := #[U x0, U x0, U x1, U x2, U x4, U x5, U x6, U x7]) (show _ = some (.cells #[U x0, U x0, U x1, U x2, U x4, U x5, U x6, U x7] 250 (0, 0)) from (blk_set (cs := #[U x0, U x0, U x1, U x3, U x4, U x5, U x6, U x7]) (show _ = some (.cells #[U x0, U x0, U x1, U x3, U x4, U x5, U x6, U x7] 250 (0, 0)) from (blk_set (cs := #[U x0, U x0, U x2, U x3, U x4, U x5, U x6, U x7]) (show _ = some (.cells #[U x0, U x0, U x2, U x3, U x4, U x5, U x6, U x7] 250 (0, 0)) from (blk_set (cs := #[U x0, U x1, U x2, U x3, U x4, U x5, U x6, U x7]) h0 1 (U x0)).trans (by simp)) 2 (U x1)).trans (by simp)) 3 (U x2)).trans (by simp)) 4 (U x3)).trans (by simp)) 5 (U x4)).trans (by simp)) 6 (U x5)).trans (by simp)) 7 (U x6)).trans (by simp)
theorem TInv.put {w wr : World} {x0 x1 x2 x3 x4 x5 x6 x7 : BitVec 32} {t u : BitVec 32} (h : TInv w [x0, x1, x2, x3, x4, x5, x6, x7] wr) : TInv w [t, x1, x2, x3, u, x5, x6, x7] ((wr.setCell ⟨w.heap.size, 0, none⟩ (U t)).setCell ⟨w.heap.size, 4, none⟩ (U u)) := by
 have h0 : wr.heap[w.heap.size]? = some (.cells #[U x0, U x1, U x2, U x3, U x4, U x5, U x6, U x7] 250 (0, 0)) := h.cur
 exact ⟨(h.below.setCell (Nat.le_refl _) _).setCell (Nat.le_refl _) _, (blk_set (cs := #[U t, U x1, U x2, U x3, U x4, U x5, U x6, U x7]) (show _ = some (.cells #[U t, U x1, U x2, U x3, U x4, U x5, U x6, U x7] 250 (0, 0)) from (blk_set (cs := #[U x0, U x1, U x2, U x3, U x4, U x5, U x6, U x7]) h0 0 (U t)).trans (by simp)) 4 (U u)).trans (by simp)⟩
theorem TInv.fz {w wr : World} {x : List (BitVec 32)} (h : TInv w x wr) : ∀ o, wr.frozen? ⟨w.heap.size, o, none⟩ = false := fun o => by simp [World.frozen?, h.cur]
theorem act105 {a : Act} (hs : a.tmps.size = 105) : a = ⟨#[a.eval (.tmp 0), a.eval (.tmp 1), a.eval (.tmp 2), a.eval (.tmp 3), a.eval (.tmp 4), a.eval (.tmp 5), a.eval (.tmp 6), a.eval (.tmp 7), a.eval (.tmp 8), a.eval (.tmp 9), a.eval (.tmp 10), a.eval (.tmp 11), a.eval (.tmp 12), a.eval (.tmp 13), a.eval (.tmp 14), a.eval (.tmp 15), a.eval (.tmp 16), a.eval (.tmp 17), a.eval (.tmp 18), a.eval (.tmp 19), a.eval (.tmp 20), a.eval (.tmp 21), a.eval (.tmp 22), a.eval (.tmp 23), a.eval (.tmp 24), a.eval (.tmp 25), a.eval (.tmp 26), a.eval (.tmp 27), a.eval (.tmp 28), a.eval (.tmp 29), a.eval (.tmp 30), a.eval (.tmp 31), a.eval (.tmp 32), a.eval (.tmp 33), a.eval (.tmp 34), a.eval (.tmp 35), a.eval (.tmp 36), a.eval (.tmp 37), a.eval (.tmp 38), a.eval (.tmp 39), a.eval (.tmp 40), a.eval (.tmp 41), a.eval (.tmp 42), a.eval (.tmp 43), a.eval (.tmp 44), a.eval (.tmp 45), a.eval (.tmp 46), a.eval (.tmp 47), a.eval (.tmp 48), a.eval (.tmp 49), a.eval (.tmp 50), a.eval (.tmp 51), a.eval (.tmp 52), a.eval (.tmp 53), a.eval (.tmp 54), a.eval (.tmp 55), a.eval (.tmp 56), a.eval (.tmp 57), a.eval (.tmp 58), a.eval (.tmp 59), a.eval (.tmp 60), a.eval (.tmp 61), a.eval (.tmp 62), a.eval (.tmp 63), a.eval (.tmp 64), a.eval (.tmp 65), a.eval (.tmp 66), a.eval (.tmp 67), a.eval (.tmp 68), a.eval (.tmp 69), a.eval (.tmp 70), a.eval (.tmp 71), a.eval (.tmp 72), a.eval (.tmp 73), a.eval (.tmp 74), a.eval (.tmp 75), a.eval (.tmp 76), a.eval (.tmp 77), a.eval (.tmp 78), a.eval (.tmp 79), a.eval (.tmp 80), a.eval (.tmp 81), a.eval (.tmp 82), a.eval (.tmp 83), a.eval (.tmp 84), a.eval (.tmp 85), a.eval (.tmp 86), a.eval (.tmp 87), a.eval (.tmp 88), a.eval (.tmp 89), a.eval (.tmp 90), a.eval (.tmp 91), a.eval (.tmp 92), a.eval (.tmp 93), a.eval (.tmp 94), a.eval (.tmp 95), a.eval (.tmp 96), a.eval (.tmp 97), a.eval (.tmp 98), a.eval (.tmp 99), a.eval (.tmp 100), a.eval (.tmp 101), a.eval (.tmp 102), a.eval (.tmp 103), a.eval (.tmp 104)], a.defers⟩ := act_ext rfl (by rw [hs]; rfl) (fun s h => by
 rw [hs] at h
 match s, h with
 | 0, _ => rfl
 | 1, _ => rfl
 | 2, _ => rfl
 | 3, _ => rfl
 | 4, _ => rfl
 | 5, _ => rfl
 | 6, _ => rfl
 | 7, _ => rfl
 | 8, _ => rfl
 | 9, _ => rfl
 | 10, _ => rfl
 | 11, _ => rfl
 | 12, _ => rfl
 | 13, _ => rfl
 | 14, _ => rfl
 | 15, _ => rfl
 | 16, _ => rfl
 | 17, _ => rfl
 | 18, _ => rfl
 | 19, _ => rfl
 | 20, _ => rfl
 | 21, _ => rfl
 | 22, _ => rfl
 | 23, _ => rfl
 | 24, _ => rfl
 | 25, _ => rfl
 | 26, _ => rfl
 | 27, _ => rfl
 | 28, _ => rfl
 | 29, _ => rfl
 | 30, _ => rfl
 | 31, _ => rfl
 | 32, _ => rfl
 | 33, _ => rfl
 | 34, _ => rfl
 | 35, _ => rfl
 | 36, _ => rfl
 | 37, _ => rfl
 | 38, _ => rfl
 | 39, _ => rfl
 | 40, _ => rfl
 | 41, _ => rfl
 | 42, _ => rfl
 | 43, _ => rfl
 | 44, _ => rfl
 | 45, _ => rfl
 | 46, _ => rfl
 | 47, _ => rfl
 | 48, _ => rfl
 | 49, _ => rfl
 | 50, _ => rfl
 | 51, _ => rfl
 | 52, _ => rfl
 | 53, _ => rfl
 | 54, _ => rfl
 | 55, _ => rfl
 | 56, _ => rfl
 | 57, _ => rfl
 | 58, _ => rfl
 | 59, _ => rfl
 | 60, _ => rfl
 | 61, _ => rfl
 | 62, _ => rfl
 | 63, _ => rfl
 | 64, _ => rfl
 | 65, _ => rfl
 | 66, _ => rfl
 | 67, _ => rfl
 | 68, _ => rfl
 | 69, _ => rfl
 | 70, _ => rfl
 | 71, _ => rfl
 | 72, _ => rfl
 | 73, _ => rfl
 | 74, _ => rfl
 | 75, _ => rfl
 | 76, _ => rfl
 | 77, _ => rfl
 | 78, _ => rfl
 | 79, _ => rfl
 | 80, _ => rfl
 | 81, _ => rfl
 | 82, _ => rfl
 | 83, _ => rfl
 | 84, _ => rfl
 | 85, _ => rfl
 | 86, _ => rfl
 | 87, _ => rfl
 | 88, _ => rfl
 | 89, _ => rfl
 | 90, _ => rfl
 | 91, _ => rfl
 | 92, _ => rfl
 | 93, _ => rfl
 | 94, _ => rfl
 | 95, _ => rfl
 | 96, _ => rfl
 | 97, _ => rfl
 | 98, _ => rfl
 | 99, _ => rfl
 | 100, _ => rfl
 | 101, _ => rfl
 | 102, _ => rfl
 | 103, _ => rfl
 | 104, _ => rfl
 | k + 105, h => exact absurd h (by omega))
/-- what a block does to a hash. -/
def TakeRes (kl s : List (BitVec 32)) (hd : List Nat) (n : Int) (hb : Nat) (w : World) (e : Ending) (w' : World) : Prop := e = .returned (.tuple #[]) ∧ w'.heap[hb]? = some (.cells (hashC (blk kl s (fun k => hd.getD k 0)) hd n) 253 (0, 0)) ∧ Also (fun b => b ≠ hb) w w' ∧ Below hb w w'
set_option maxHeartbeats 3200000 in
theorem take_blk (kl s : List (BitVec 32)) (hd : List Nat) (n : Int) (hb : Nat) (w : World) (hs8 : s.length = 8) (hd64 : hd.length = 64) (hby : ∀ k, k < 64 → hd.getD k 0 < 256) (hh : w.heap[hb]? = some (.cells (hashC s hd n) 253 (0, 0))) (hkl : ∀ k, k < 64 → w.cell? ⟨4, k, none⟩ = some (U (kl.getD k 0))) :
  Calls Tryz.prog 176 #[.pointer (some ⟨hb, 0, none⟩), .pointer (some ⟨hb, 8, none⟩)] w (TakeRes kl s hd n hb w) := by
 have HH := Lib.hid hh
 have HKL := Lib.hid hkl
 have HBY := Lib.hid hby
 have hlt := World.block_lt_of_cell? w _ ((cell_of_row w hb 0 _ 253 (0, 0) hh).trans (hash_at (by omega)))
 have hlt : hb < w.heap.size := hlt
 obtain ⟨s0, s1, s2, s3, s4, s5, s6, s7, hse⟩ := eight hs8
 have hS := fun k (hk : k < 8) => (cell_of_row w hb k _ 253 (0, 0) HH.out).trans (hash_at (by rw [hs8]; exact hk))
 have e0 := hS 0 (by omega)
 have e1 := hS 1 (by omega)
 have e2 := hS 2 (by omega)
 have e3 := hS 3 (by omega)
 have e4 := hS 4 (by omega)
 have e5 := hS 5 (by omega)
 have e6 := hS 6 (by omega)
 have e7 := hS 7 (by omega)
 have HS8 := Lib.hid hs8
 rw [hse] at e0 e1 e2 e3 e4 e5 e6 e7
 simp only [List.getD_cons_zero, List.getD_cons_succ] at e0 e1 e2 e3 e4 e5 e6 e7
 have HSE := Lib.hid hse
 have HD := Lib.hid hd64
 clear hh hkl hby hs8 hd64 hse hS
 go_enter Tryz.func176, Tryz.ntmps176
 go_wp2_with fail
 refine (schedule_any hb 8 (fun k => hd.getD k 0) _ (fun k hk => ⟨(cell_of_heap (alloc_before hlt)).trans ((cell_of_row w hb (8 + k) _ 253 (0, 0) HH.out).trans (hash_byte HS8.out (by rw [HD.out]; exact hk))), HBY.out k hk⟩)).mono ?_
 rintro e w1 ⟨rfl, hb1⟩
 have hT0 : TInv w s w1 := ⟨((Below.refl _ _).alloc (Nat.le_refl _) _).trans (hb1.mono (by simp)), by rw [hb1.block _ (by simp), HSE.out]; exact alloc_at rfl⟩
 have HT0 := Lib.hid hT0
 have hws := schd_length (fun k => hd.getD k 0) 64
 generalize hwe : schd (fun k => hd.getD k 0) 64 = ws at hws ⊢
 have HWE := Lib.hid hwe
 have HWS := Lib.hid hws
 clear hT0 hb1 hwe hws e0 e1 e2 e3 e4 e5 e6 e7
 go_wp2_with fail
 go_loopw [17] (fun i wr => ∃ k : Nat, k ≤ 64 ∧ i = .int .i64 k ∧ TInv w (comp kl ws s k) wr) (fun i _ => 64 - (intOf i).toNat)
 case atStart => exact ⟨0, by omega, rfl, HT0.out⟩
 case round =>
  clear HT0
  obtain ⟨k, hk, rfl, hT⟩ := hrel
  have hk0 : (0 : Int) ≤ (k : Int) := Int.natCast_nonneg _
  by_cases hlt2 : k < 64
  ·have hlt' : (k : Int) < 64 := by omega
   have hcl := comp_length (kl := kl) (ws := ws) HS8.out k
   have hne : comp kl ws s (k + 1) = rnd (comp kl ws s k) (kl.getD k 0) (ws.getD k 0) := rfl
   generalize comp kl ws s k = X at hT hcl hne
   obtain ⟨x0, x1, x2, x3, x4, x5, x6, x7, rfl⟩ := eight hcl
   have HNE := Lib.hid hne
   have HT := Lib.hid hT
   have hck := Lib.hid ((hT.below.cell (World.block_lt_of_cell? w _ (HKL.out k hlt2))).trans (HKL.out k hlt2))
   clear hT hcl hne
   generalize kl.getD k 0 = kc at HNE hck
   go_upto_region 3 with (fail)
   rename_i Ko hKo Kf hKf
   refine reg176_3 (ws := ws) (kk := k) (by kernel_rfl) rfl HWS.out hlt2 rfl rfl rfl (fun A hd' hs hr hR => ?_)
   have y5 : A.eval (.tmp 5) = .int .i64 (k : Int) := hR 2 (by decide)
   have y6 : A.eval (.tmp 6) = U (ws.getD k 0) := hR 3 (by decide)
   generalize ws.getD k 0 = wk at HNE y6
   have y0 : A.eval (.tmp 0) = .pointer (some ⟨hb, 0, none⟩) := hr 0 (by kernel_rfl)
   have y1 : A.eval (.tmp 1) = .pointer (some ⟨hb, 8, none⟩) := hr 1 (by kernel_rfl)
   have y2 : A.eval (.tmp 2) = undef := hr 2 (by kernel_rfl)
   have y3 : A.eval (.tmp 3) = undef := hr 3 (by kernel_rfl)
   have y4 : A.eval (.tmp 4) = .pointer (some ⟨w.heap.size, 0, none⟩) := hr 4 (by kernel_rfl)
   have y5 : A.eval (.tmp 5) = .int .i64 (k : Int) := y5
   have y6 : A.eval (.tmp 6) = U wk := y6
   have y11 : A.eval (.tmp 11) = undef := hr 11 (by kernel_rfl)
   have y12 : A.eval (.tmp 12) = .pointer (some ⟨hb, 0, none⟩) := hr 12 (by kernel_rfl)
   have y13 : A.eval (.tmp 13) = .pointer (some ⟨hb, 0, none⟩) := hr 13 (by kernel_rfl)
   have y14 : A.eval (.tmp 14) = .agg #[U s0, U s1, U s2, U s3, U s4, U s5, U s6, U s7] := hr 14 (by kernel_rfl)
   have y15 : A.eval (.tmp 15) = .pointer (some ⟨hb, 8, none⟩) := hr 15 (by kernel_rfl)
   have y16 : A.eval (.tmp 16) = .agg (arr ws) := hr 16 (by kernel_rfl)
   have y17 : A.eval (.tmp 17) = .int .i64 (k : Int) := hr 17 (by kernel_rfl)
   have y18 : A.eval (.tmp 18) = .bool true := hr 18 (by kernel_rfl)
   have y90 : A.eval (.tmp 90) = undef := hr 90 (by kernel_rfl)
   have y91 : A.eval (.tmp 91) = undef := hr 91 (by kernel_rfl)
   have y92 : A.eval (.tmp 92) = undef := hr 92 (by kernel_rfl)
   have y93 : A.eval (.tmp 93) = undef := hr 93 (by kernel_rfl)
   have y94 : A.eval (.tmp 94) = undef := hr 94 (by kernel_rfl)
   have y95 : A.eval (.tmp 95) = undef := hr 95 (by kernel_rfl)
   have y96 : A.eval (.tmp 96) = undef := hr 96 (by kernel_rfl)
   have y97 : A.eval (.tmp 97) = undef := hr 97 (by kernel_rfl)
   have y98 : A.eval (.tmp 98) = undef := hr 98 (by kernel_rfl)
   have y99 : A.eval (.tmp 99) = undef := hr 99 (by kernel_rfl)
   have y100 : A.eval (.tmp 100) = undef := hr 100 (by kernel_rfl)
   have y101 : A.eval (.tmp 101) = undef := hr 101 (by kernel_rfl)
   have y102 : A.eval (.tmp 102) = undef := hr 102 (by kernel_rfl)
   have y103 : A.eval (.tmp 103) = undef := hr 103 (by kernel_rfl)
   have y104 : A.eval (.tmp 104) = undef := hr 104 (by kernel_rfl)
   rw [act105 hs, hd', y0, y1, y2, y3, y4, y5, y6, y11, y12, y13, y14, y15, y16, y17, y18, y90, y91, y92, y93, y94, y95, y96, y97, y98, y99, y100, y101, y102, y103, y104]
   generalize A.eval (.tmp 7) = x1_7
   generalize A.eval (.tmp 8) = x1_8
   generalize A.eval (.tmp 9) = x1_9
   generalize A.eval (.tmp 10) = x1_10
   generalize A.eval (.tmp 19) = x1_19
   generalize A.eval (.tmp 20) = x1_20
   generalize A.eval (.tmp 21) = x1_21
   generalize A.eval (.tmp 22) = x1_22
   generalize A.eval (.tmp 23) = x1_23
   generalize A.eval (.tmp 24) = x1_24
   generalize A.eval (.tmp 25) = x1_25
   generalize A.eval (.tmp 26) = x1_26
   generalize A.eval (.tmp 27) = x1_27
   generalize A.eval (.tmp 28) = x1_28
   generalize A.eval (.tmp 29) = x1_29
   generalize A.eval (.tmp 30) = x1_30
   generalize A.eval (.tmp 31) = x1_31
   generalize A.eval (.tmp 32) = x1_32
   generalize A.eval (.tmp 33) = x1_33
   generalize A.eval (.tmp 34) = x1_34
   generalize A.eval (.tmp 35) = x1_35
   generalize A.eval (.tmp 36) = x1_36
   generalize A.eval (.tmp 37) = x1_37
   generalize A.eval (.tmp 38) = x1_38
   generalize A.eval (.tmp 39) = x1_39
   generalize A.eval (.tmp 40) = x1_40
   generalize A.eval (.tmp 41) = x1_41
   generalize A.eval (.tmp 42) = x1_42
   generalize A.eval (.tmp 43) = x1_43
   generalize A.eval (.tmp 44) = x1_44
   generalize A.eval (.tmp 45) = x1_45
   generalize A.eval (.tmp 46) = x1_46
   generalize A.eval (.tmp 47) = x1_47
   generalize A.eval (.tmp 48) = x1_48
   generalize A.eval (.tmp 49) = x1_49
   generalize A.eval (.tmp 50) = x1_50
   generalize A.eval (.tmp 51) = x1_51
   generalize A.eval (.tmp 52) = x1_52
   generalize A.eval (.tmp 53) = x1_53
   generalize A.eval (.tmp 54) = x1_54
   generalize A.eval (.tmp 55) = x1_55
   generalize A.eval (.tmp 56) = x1_56
   generalize A.eval (.tmp 57) = x1_57
   generalize A.eval (.tmp 58) = x1_58
   generalize A.eval (.tmp 59) = x1_59
   generalize A.eval (.tmp 60) = x1_60
   generalize A.eval (.tmp 61) = x1_61
   generalize A.eval (.tmp 62) = x1_62
   generalize A.eval (.tmp 63) = x1_63
   generalize A.eval (.tmp 64) = x1_64
   generalize A.eval (.tmp 65) = x1_65
   generalize A.eval (.tmp 66) = x1_66
   generalize A.eval (.tmp 67) = x1_67
   generalize A.eval (.tmp 68) = x1_68
   generalize A.eval (.tmp 69) = x1_69
   generalize A.eval (.tmp 70) = x1_70
   generalize A.eval (.tmp 71) = x1_71
   generalize A.eval (.tmp 72) = x1_72
   generalize A.eval (.tmp 73) = x1_73
   generalize A.eval (.tmp 74) = x1_74
   generalize A.eval (.tmp 75) = x1_75
   generalize A.eval (.tmp 76) = x1_76
   generalize A.eval (.tmp 77) = x1_77
   generalize A.eval (.tmp 78) = x1_78
   generalize A.eval (.tmp 79) = x1_79
   generalize A.eval (.tmp 80) = x1_80
   generalize A.eval (.tmp 81) = x1_81
   generalize A.eval (.tmp 82) = x1_82
   generalize A.eval (.tmp 83) = x1_83
   generalize A.eval (.tmp 84) = x1_84
   generalize A.eval (.tmp 85) = x1_85
   generalize A.eval (.tmp 86) = x1_86
   generalize A.eval (.tmp 87) = x1_87
   generalize A.eval (.tmp 88) = x1_88
   generalize A.eval (.tmp 89) = x1_89
   clear hr hs hd' y0 y1 y2 y3 y4 y5 y6 y11 y12 y13 y14 y15 y16 y17 y18 y90 y91 y92 y93 y94 y95 y96 y97 y98 y99 y100 y101 y102 y103 y104
   clear hR
   refine hKf _ _ ?_
   clear hKf
   -- the first and the fifth
   go_upto_region 4 with (fail)
   rename_i Kf hKf
   have HT4 := Lib.hid (HT.out.drew)
   have hck4 := Lib.hid (show wr.drew.cell? ⟨4, k, none⟩ = some (U kc) from hck.out)
   clear HT hck
   obtain ⟨c0, c1, c2, c3, c4, c5, c6, c7⟩ := HT4.out.cell
   refine reg176_4 (c := w.heap.size) (x0 := x0) (x1 := x1) (x2 := x2) (x3 := x3) (x4 := x4) (x5 := x5) (x6 := x6) (x7 := x7) (by kernel_rfl) rfl c0 c1 c2 c3 c4 c5 c6 c7 rfl rfl (fun A hd' hs hr hR => ?_)
   have y7 : A.eval (.tmp 7) = U x0 := hR 4 (by decide)
   have y8 : A.eval (.tmp 8) = U x4 := hR 5 (by decide)
   have y0 : A.eval (.tmp 0) = .pointer (some ⟨hb, 0, none⟩) := hr 0 (by kernel_rfl)
   have y1 : A.eval (.tmp 1) = .pointer (some ⟨hb, 8, none⟩) := hr 1 (by kernel_rfl)
   have y2 : A.eval (.tmp 2) = undef := hr 2 (by kernel_rfl)
   have y3 : A.eval (.tmp 3) = undef := hr 3 (by kernel_rfl)
   have y4 : A.eval (.tmp 4) = .pointer (some ⟨w.heap.size, 0, none⟩) := hr 4 (by kernel_rfl)
   have y5 : A.eval (.tmp 5) = .int .i64 (k : Int) := hr 5 (by kernel_rfl)
   have y6 : A.eval (.tmp 6) = U wk := hr 6 (by kernel_rfl)
   have y7 : A.eval (.tmp 7) = U x0 := y7
   have y8 : A.eval (.tmp 8) = U x4 := y8
   have y11 : A.eval (.tmp 11) = undef := hr 11 (by kernel_rfl)
   have y12 : A.eval (.tmp 12) = .pointer (some ⟨hb, 0, none⟩) := hr 12 (by kernel_rfl)
   have y13 : A.eval (.tmp 13) = .pointer (some ⟨hb, 0, none⟩) := hr 13 (by kernel_rfl)
   have y14 : A.eval (.tmp 14) = .agg #[U s0, U s1, U s2, U s3, U s4, U s5, U s6, U s7] := hr 14 (by kernel_rfl)
   have y15 : A.eval (.tmp 15) = .pointer (some ⟨hb, 8, none⟩) := hr 15 (by kernel_rfl)
   have y16 : A.eval (.tmp 16) = .agg (arr ws) := hr 16 (by kernel_rfl)
   have y17 : A.eval (.tmp 17) = .int .i64 (k : Int) := hr 17 (by kernel_rfl)
   have y18 : A.eval (.tmp 18) = .bool true := hr 18 (by kernel_rfl)
   have y90 : A.eval (.tmp 90) = undef := hr 90 (by kernel_rfl)
   have y91 : A.eval (.tmp 91) = undef := hr 91 (by kernel_rfl)
   have y92 : A.eval (.tmp 92) = undef := hr 92 (by kernel_rfl)
   have y93 : A.eval (.tmp 93) = undef := hr 93 (by kernel_rfl)
   have y94 : A.eval (.tmp 94) = undef := hr 94 (by kernel_rfl)
   have y95 : A.eval (.tmp 95) = undef := hr 95 (by kernel_rfl)
   have y96 : A.eval (.tmp 96) = undef := hr 96 (by kernel_rfl)
   have y97 : A.eval (.tmp 97) = undef := hr 97 (by kernel_rfl)
   have y98 : A.eval (.tmp 98) = undef := hr 98 (by kernel_rfl)
   have y99 : A.eval (.tmp 99) = undef := hr 99 (by kernel_rfl)
   have y100 : A.eval (.tmp 100) = undef := hr 100 (by kernel_rfl)
   have y101 : A.eval (.tmp 101) = undef := hr 101 (by kernel_rfl)
   have y102 : A.eval (.tmp 102) = undef := hr 102 (by kernel_rfl)
   have y103 : A.eval (.tmp 103) = undef := hr 103 (by kernel_rfl)
   have y104 : A.eval (.tmp 104) = undef := hr 104 (by kernel_rfl)
   rw [act105 hs, hd', y0, y1, y2, y3, y4, y5, y6, y7, y8, y11, y12, y13, y14, y15, y16, y17, y18, y90, y91, y92, y93, y94, y95, y96, y97, y98, y99, y100, y101, y102, y103, y104]
   generalize A.eval (.tmp 9) = x2_9
   generalize A.eval (.tmp 10) = x2_10
   generalize A.eval (.tmp 19) = x2_19
   generalize A.eval (.tmp 20) = x2_20
   generalize A.eval (.tmp 21) = x2_21
   generalize A.eval (.tmp 22) = x2_22
   generalize A.eval (.tmp 23) = x2_23
   generalize A.eval (.tmp 24) = x2_24
   generalize A.eval (.tmp 25) = x2_25
   generalize A.eval (.tmp 26) = x2_26
   generalize A.eval (.tmp 27) = x2_27
   generalize A.eval (.tmp 28) = x2_28
   generalize A.eval (.tmp 29) = x2_29
   generalize A.eval (.tmp 30) = x2_30
   generalize A.eval (.tmp 31) = x2_31
   generalize A.eval (.tmp 32) = x2_32
   generalize A.eval (.tmp 33) = x2_33
   generalize A.eval (.tmp 34) = x2_34
   generalize A.eval (.tmp 35) = x2_35
   generalize A.eval (.tmp 36) = x2_36
   generalize A.eval (.tmp 37) = x2_37
   generalize A.eval (.tmp 38) = x2_38
   generalize A.eval (.tmp 39) = x2_39
   generalize A.eval (.tmp 40) = x2_40
   generalize A.eval (.tmp 41) = x2_41
   generalize A.eval (.tmp 42) = x2_42
   generalize A.eval (.tmp 43) = x2_43
   generalize A.eval (.tmp 44) = x2_44
   generalize A.eval (.tmp 45) = x2_45
   generalize A.eval (.tmp 46) = x2_46
   generalize A.eval (.tmp 47) = x2_47
   generalize A.eval (.tmp 48) = x2_48
   generalize A.eval (.tmp 49) = x2_49
   generalize A.eval (.tmp 50) = x2_50
   generalize A.eval (.tmp 51) = x2_51
   generalize A.eval (.tmp 52) = x2_52
   generalize A.eval (.tmp 53) = x2_53
   generalize A.eval (.tmp 54) = x2_54
   generalize A.eval (.tmp 55) = x2_55
   generalize A.eval (.tmp 56) = x2_56
   generalize A.eval (.tmp 57) = x2_57
   generalize A.eval (.tmp 58) = x2_58
   generalize A.eval (.tmp 59) = x2_59
   generalize A.eval (.tmp 60) = x2_60
   generalize A.eval (.tmp 61) = x2_61
   generalize A.eval (.tmp 62) = x2_62
   generalize A.eval (.tmp 63) = x2_63
   generalize A.eval (.tmp 64) = x2_64
   generalize A.eval (.tmp 65) = x2_65
   generalize A.eval (.tmp 66) = x2_66
   generalize A.eval (.tmp 67) = x2_67
   generalize A.eval (.tmp 68) = x2_68
   generalize A.eval (.tmp 69) = x2_69
   generalize A.eval (.tmp 70) = x2_70
   generalize A.eval (.tmp 71) = x2_71
   generalize A.eval (.tmp 72) = x2_72
   generalize A.eval (.tmp 73) = x2_73
   generalize A.eval (.tmp 74) = x2_74
   generalize A.eval (.tmp 75) = x2_75
   generalize A.eval (.tmp 76) = x2_76
   generalize A.eval (.tmp 77) = x2_77
   generalize A.eval (.tmp 78) = x2_78
   generalize A.eval (.tmp 79) = x2_79
   generalize A.eval (.tmp 80) = x2_80
   generalize A.eval (.tmp 81) = x2_81
   generalize A.eval (.tmp 82) = x2_82
   generalize A.eval (.tmp 83) = x2_83
   generalize A.eval (.tmp 84) = x2_84
   generalize A.eval (.tmp 85) = x2_85
   generalize A.eval (.tmp 86) = x2_86
   generalize A.eval (.tmp 87) = x2_87
   generalize A.eval (.tmp 88) = x2_88
   generalize A.eval (.tmp 89) = x2_89
   clear hr hs hd' y0 y1 y2 y3 y4 y5 y6 y7 y8 y11 y12 y13 y14 y15 y16 y17 y18 y90 y91 y92 y93 y94 y95 y96 y97 y98 y99 y100 y101 y102 y103 y104
   clear hR c0 c1 c2 c3 c4 c5 c6 c7
   generalize wr.drew = W4 at HT4 hck4 ⊢
   refine hKf _ _ ?_
   clear hKf
   go_upto_region 5 with (fail)
   rename_i Kf hKf
   have HT5 := Lib.hid (HT4.out.drew)
   have hck5 := Lib.hid (show W4.drew.cell? ⟨4, k, none⟩ = some (U kc) from hck4.out)
   obtain ⟨c0, c1, c2, c3, c4, c5, c6, c7⟩ := HT5.out.cell
   refine reg176_5 (c := w.heap.size) (x0 := x0) (x1 := x1) (x2 := x2) (x3 := x3) (x4 := x4) (x5 := x5) (x6 := x6) (x7 := x7) (kk := k) (kc := kc) (wk := wk) (e := x4) (by kernel_rfl) rfl c0 c1 c2 c3 c4 c5 c6 c7 hlt2 hck5.out rfl rfl rfl rfl rfl (fun A hd' hs hr hR => ?_)
   have y9 : A.eval (.tmp 9) = U (x7 + Sg1 x4 + ch x4 x5 x6 + kc + wk) := hR 28 (by decide)
   have y0 : A.eval (.tmp 0) = .pointer (some ⟨hb, 0, none⟩) := hr 0 (by kernel_rfl)
   have y1 : A.eval (.tmp 1) = .pointer (some ⟨hb, 8, none⟩) := hr 1 (by kernel_rfl)
   have y2 : A.eval (.tmp 2) = undef := hr 2 (by kernel_rfl)
   have y3 : A.eval (.tmp 3) = undef := hr 3 (by kernel_rfl)
   have y4 : A.eval (.tmp 4) = .pointer (some ⟨w.heap.size, 0, none⟩) := hr 4 (by kernel_rfl)
   have y5 : A.eval (.tmp 5) = .int .i64 (k : Int) := hr 5 (by kernel_rfl)
   have y6 : A.eval (.tmp 6) = U wk := hr 6 (by kernel_rfl)
   have y7 : A.eval (.tmp 7) = U x0 := hr 7 (by kernel_rfl)
   have y8 : A.eval (.tmp 8) = U x4 := hr 8 (by kernel_rfl)
   have y9 : A.eval (.tmp 9) = U (x7 + Sg1 x4 + ch x4 x5 x6 + kc + wk) := y9
   have y11 : A.eval (.tmp 11) = undef := hr 11 (by kernel_rfl)
   have y12 : A.eval (.tmp 12) = .pointer (some ⟨hb, 0, none⟩) := hr 12 (by kernel_rfl)
   have y13 : A.eval (.tmp 13) = .pointer (some ⟨hb, 0, none⟩) := hr 13 (by kernel_rfl)
   have y14 : A.eval (.tmp 14) = .agg #[U s0, U s1, U s2, U s3, U s4, U s5, U s6, U s7] := hr 14 (by kernel_rfl)
   have y15 : A.eval (.tmp 15) = .pointer (some ⟨hb, 8, none⟩) := hr 15 (by kernel_rfl)
   have y16 : A.eval (.tmp 16) = .agg (arr ws) := hr 16 (by kernel_rfl)
   have y17 : A.eval (.tmp 17) = .int .i64 (k : Int) := hr 17 (by kernel_rfl)
   have y18 : A.eval (.tmp 18) = .bool true := hr 18 (by kernel_rfl)
   have y90 : A.eval (.tmp 90) = undef := hr 90 (by kernel_rfl)
   have y91 : A.eval (.tmp 91) = undef := hr 91 (by kernel_rfl)
   have y92 : A.eval (.tmp 92) = undef := hr 92 (by kernel_rfl)
   have y93 : A.eval (.tmp 93) = undef := hr 93 (by kernel_rfl)
   have y94 : A.eval (.tmp 94) = undef := hr 94 (by kernel_rfl)
   have y95 : A.eval (.tmp 95) = undef := hr 95 (by kernel_rfl)
   have y96 : A.eval (.tmp 96) = undef := hr 96 (by kernel_rfl)
   have y97 : A.eval (.tmp 97) = undef := hr 97 (by kernel_rfl)
   have y98 : A.eval (.tmp 98) = undef := hr 98 (by kernel_rfl)
   have y99 : A.eval (.tmp 99) = undef := hr 99 (by kernel_rfl)
   have y100 : A.eval (.tmp 100) = undef := hr 100 (by kernel_rfl)
   have y101 : A.eval (.tmp 101) = undef := hr 101 (by kernel_rfl)
   have y102 : A.eval (.tmp 102) = undef := hr 102 (by kernel_rfl)
   have y103 : A.eval (.tmp 103) = undef := hr 103 (by kernel_rfl)
   have y104 : A.eval (.tmp 104) = undef := hr 104 (by kernel_rfl)
   rw [act105 hs, hd', y0, y1, y2, y3, y4, y5, y6, y7, y8, y9, y11, y12, y13, y14, y15, y16, y17, y18, y90, y91, y92, y93, y94, y95, y96, y97, y98, y99, y100, y101, y102, y103, y104]
   generalize A.eval (.tmp 10) = x3_10
   generalize A.eval (.tmp 19) = x3_19
   generalize A.eval (.tmp 20) = x3_20
   generalize A.eval (.tmp 21) = x3_21
   generalize A.eval (.tmp 22) = x3_22
   generalize A.eval (.tmp 23) = x3_23
   generalize A.eval (.tmp 24) = x3_24
   generalize A.eval (.tmp 25) = x3_25
   generalize A.eval (.tmp 26) = x3_26
   generalize A.eval (.tmp 27) = x3_27
   generalize A.eval (.tmp 28) = x3_28
   generalize A.eval (.tmp 29) = x3_29
   generalize A.eval (.tmp 30) = x3_30
   generalize A.eval (.tmp 31) = x3_31
   generalize A.eval (.tmp 32) = x3_32
   generalize A.eval (.tmp 33) = x3_33
   generalize A.eval (.tmp 34) = x3_34
   generalize A.eval (.tmp 35) = x3_35
   generalize A.eval (.tmp 36) = x3_36
   generalize A.eval (.tmp 37) = x3_37
   generalize A.eval (.tmp 38) = x3_38
   generalize A.eval (.tmp 39) = x3_39
   generalize A.eval (.tmp 40) = x3_40
   generalize A.eval (.tmp 41) = x3_41
   generalize A.eval (.tmp 42) = x3_42
   generalize A.eval (.tmp 43) = x3_43
   generalize A.eval (.tmp 44) = x3_44
   generalize A.eval (.tmp 45) = x3_45
   generalize A.eval (.tmp 46) = x3_46
   generalize A.eval (.tmp 47) = x3_47
   generalize A.eval (.tmp 48) = x3_48
   generalize A.eval (.tmp 49) = x3_49
   generalize A.eval (.tmp 50) = x3_50
   generalize A.eval (.tmp 51) = x3_51
   generalize A.eval (.tmp 52) = x3_52
   generalize A.eval (.tmp 53) = x3_53
   generalize A.eval (.tmp 54) = x3_54
   generalize A.eval (.tmp 55) = x3_55
   generalize A.eval (.tmp 56) = x3_56
   generalize A.eval (.tmp 57) = x3_57
   generalize A.eval (.tmp 58) = x3_58
   generalize A.eval (.tmp 59) = x3_59
   generalize A.eval (.tmp 60) = x3_60
   generalize A.eval (.tmp 61) = x3_61
   generalize A.eval (.tmp 62) = x3_62
   generalize A.eval (.tmp 63) = x3_63
   generalize A.eval (.tmp 64) = x3_64
   generalize A.eval (.tmp 65) = x3_65
   generalize A.eval (.tmp 66) = x3_66
   generalize A.eval (.tmp 67) = x3_67
   generalize A.eval (.tmp 68) = x3_68
   generalize A.eval (.tmp 69) = x3_69
   generalize A.eval (.tmp 70) = x3_70
   generalize A.eval (.tmp 71) = x3_71
   generalize A.eval (.tmp 72) = x3_72
   generalize A.eval (.tmp 73) = x3_73
   generalize A.eval (.tmp 74) = x3_74
   generalize A.eval (.tmp 75) = x3_75
   generalize A.eval (.tmp 76) = x3_76
   generalize A.eval (.tmp 77) = x3_77
   generalize A.eval (.tmp 78) = x3_78
   generalize A.eval (.tmp 79) = x3_79
   generalize A.eval (.tmp 80) = x3_80
   generalize A.eval (.tmp 81) = x3_81
   generalize A.eval (.tmp 82) = x3_82
   generalize A.eval (.tmp 83) = x3_83
   generalize A.eval (.tmp 84) = x3_84
   generalize A.eval (.tmp 85) = x3_85
   generalize A.eval (.tmp 86) = x3_86
   generalize A.eval (.tmp 87) = x3_87
   generalize A.eval (.tmp 88) = x3_88
   generalize A.eval (.tmp 89) = x3_89
   clear hr hs hd' y0 y1 y2 y3 y4 y5 y6 y7 y8 y9 y11 y12 y13 y14 y15 y16 y17 y18 y90 y91 y92 y93 y94 y95 y96 y97 y98 y99 y100 y101 y102 y103 y104
   clear hR c0 c1 c2 c3 c4 c5 c6 c7 HT4 hck4
   generalize W4.drew = W5 at HT5 hck5 ⊢
   refine hKf _ _ ?_
   clear hKf
   go_upto_region 6 with (fail)
   rename_i Kf hKf
   have HT6 := Lib.hid (HT5.out.drew)
   obtain ⟨c0, c1, c2, c3, c4, c5, c6, c7⟩ := HT6.out.cell
   refine reg176_6 (c := w.heap.size) (x0 := x0) (x1 := x1) (x2 := x2) (x3 := x3) (x4 := x4) (x5 := x5) (x6 := x6) (x7 := x7) (a1 := x0) (by kernel_rfl) rfl c0 c1 c2 c3 c4 c5 c6 c7 rfl rfl rfl (fun A hd' hs hr hR => ?_)
   have y10 : A.eval (.tmp 10) = U (Sg0 x0 + mj x0 x1 x2) := hR 24 (by decide)
   have y0 : A.eval (.tmp 0) = .pointer (some ⟨hb, 0, none⟩) := hr 0 (by kernel_rfl)
   have y1 : A.eval (.tmp 1) = .pointer (some ⟨hb, 8, none⟩) := hr 1 (by kernel_rfl)
   have y2 : A.eval (.tmp 2) = undef := hr 2 (by kernel_rfl)
   have y3 : A.eval (.tmp 3) = undef := hr 3 (by kernel_rfl)
   have y4 : A.eval (.tmp 4) = .pointer (some ⟨w.heap.size, 0, none⟩) := hr 4 (by kernel_rfl)
   have y5 : A.eval (.tmp 5) = .int .i64 (k : Int) := hr 5 (by kernel_rfl)
   have y6 : A.eval (.tmp 6) = U wk := hr 6 (by kernel_rfl)
   have y7 : A.eval (.tmp 7) = U x0 := hr 7 (by kernel_rfl)
   have y8 : A.eval (.tmp 8) = U x4 := hr 8 (by kernel_rfl)
   have y9 : A.eval (.tmp 9) = U (x7 + Sg1 x4 + ch x4 x5 x6 + kc + wk) := hr 9 (by kernel_rfl)
   have y10 : A.eval (.tmp 10) = U (Sg0 x0 + mj x0 x1 x2) := y10
   have y11 : A.eval (.tmp 11) = undef := hr 11 (by kernel_rfl)
   have y12 : A.eval (.tmp 12) = .pointer (some ⟨hb, 0, none⟩) := hr 12 (by kernel_rfl)
   have y13 : A.eval (.tmp 13) = .pointer (some ⟨hb, 0, none⟩) := hr 13 (by kernel_rfl)
   have y14 : A.eval (.tmp 14) = .agg #[U s0, U s1, U s2, U s3, U s4, U s5, U s6, U s7] := hr 14 (by kernel_rfl)
   have y15 : A.eval (.tmp 15) = .pointer (some ⟨hb, 8, none⟩) := hr 15 (by kernel_rfl)
   have y16 : A.eval (.tmp 16) = .agg (arr ws) := hr 16 (by kernel_rfl)
   have y17 : A.eval (.tmp 17) = .int .i64 (k : Int) := hr 17 (by kernel_rfl)
   have y18 : A.eval (.tmp 18) = .bool true := hr 18 (by kernel_rfl)
   have y90 : A.eval (.tmp 90) = undef := hr 90 (by kernel_rfl)
   have y91 : A.eval (.tmp 91) = undef := hr 91 (by kernel_rfl)
   have y92 : A.eval (.tmp 92) = undef := hr 92 (by kernel_rfl)
   have y93 : A.eval (.tmp 93) = undef := hr 93 (by kernel_rfl)
   have y94 : A.eval (.tmp 94) = undef := hr 94 (by kernel_rfl)
   have y95 : A.eval (.tmp 95) = undef := hr 95 (by kernel_rfl)
   have y96 : A.eval (.tmp 96) = undef := hr 96 (by kernel_rfl)
   have y97 : A.eval (.tmp 97) = undef := hr 97 (by kernel_rfl)
   have y98 : A.eval (.tmp 98) = undef := hr 98 (by kernel_rfl)
   have y99 : A.eval (.tmp 99) = undef := hr 99 (by kernel_rfl)
   have y100 : A.eval (.tmp 100) = undef := hr 100 (by kernel_rfl)
   have y101 : A.eval (.tmp 101) = undef := hr 101 (by kernel_rfl)
   have y102 : A.eval (.tmp 102) = undef := hr 102 (by kernel_rfl)
   have y103 : A.eval (.tmp 103) = undef := hr 103 (by kernel_rfl)
   have y104 : A.eval (.tmp 104) = undef := hr 104 (by kernel_rfl)
   rw [act105 hs, hd', y0, y1, y2, y3, y4, y5, y6, y7, y8, y9, y10, y11, y12, y13, y14, y15, y16, y17, y18, y90, y91, y92, y93, y94, y95, y96, y97, y98, y99, y100, y101, y102, y103, y104]
   generalize A.eval (.tmp 19) = x4_19
   generalize A.eval (.tmp 20) = x4_20
   generalize A.eval (.tmp 21) = x4_21
   generalize A.eval (.tmp 22) = x4_22
   generalize A.eval (.tmp 23) = x4_23
   generalize A.eval (.tmp 24) = x4_24
   generalize A.eval (.tmp 25) = x4_25
   generalize A.eval (.tmp 26) = x4_26
   generalize A.eval (.tmp 27) = x4_27
   generalize A.eval (.tmp 28) = x4_28
   generalize A.eval (.tmp 29) = x4_29
   generalize A.eval (.tmp 30) = x4_30
   generalize A.eval (.tmp 31) = x4_31
   generalize A.eval (.tmp 32) = x4_32
   generalize A.eval (.tmp 33) = x4_33
   generalize A.eval (.tmp 34) = x4_34
   generalize A.eval (.tmp 35) = x4_35
   generalize A.eval (.tmp 36) = x4_36
   generalize A.eval (.tmp 37) = x4_37
   generalize A.eval (.tmp 38) = x4_38
   generalize A.eval (.tmp 39) = x4_39
   generalize A.eval (.tmp 40) = x4_40
   generalize A.eval (.tmp 41) = x4_41
   generalize A.eval (.tmp 42) = x4_42
   generalize A.eval (.tmp 43) = x4_43
   generalize A.eval (.tmp 44) = x4_44
   generalize A.eval (.tmp 45) = x4_45
   generalize A.eval (.tmp 46) = x4_46
   generalize A.eval (.tmp 47) = x4_47
   generalize A.eval (.tmp 48) = x4_48
   generalize A.eval (.tmp 49) = x4_49
   generalize A.eval (.tmp 50) = x4_50
   generalize A.eval (.tmp 51) = x4_51
   generalize A.eval (.tmp 52) = x4_52
   generalize A.eval (.tmp 53) = x4_53
   generalize A.eval (.tmp 54) = x4_54
   generalize A.eval (.tmp 55) = x4_55
   generalize A.eval (.tmp 56) = x4_56
   generalize A.eval (.tmp 57) = x4_57
   generalize A.eval (.tmp 58) = x4_58
   generalize A.eval (.tmp 59) = x4_59
   generalize A.eval (.tmp 60) = x4_60
   generalize A.eval (.tmp 61) = x4_61
   generalize A.eval (.tmp 62) = x4_62
   generalize A.eval (.tmp 63) = x4_63
   generalize A.eval (.tmp 64) = x4_64
   generalize A.eval (.tmp 65) = x4_65
   generalize A.eval (.tmp 66) = x4_66
   generalize A.eval (.tmp 67) = x4_67
   generalize A.eval (.tmp 68) = x4_68
   generalize A.eval (.tmp 69) = x4_69
   generalize A.eval (.tmp 70) = x4_70
   generalize A.eval (.tmp 71) = x4_71
   generalize A.eval (.tmp 72) = x4_72
   generalize A.eval (.tmp 73) = x4_73
   generalize A.eval (.tmp 74) = x4_74
   generalize A.eval (.tmp 75) = x4_75
   generalize A.eval (.tmp 76) = x4_76
   generalize A.eval (.tmp 77) = x4_77
   generalize A.eval (.tmp 78) = x4_78
   generalize A.eval (.tmp 79) = x4_79
   generalize A.eval (.tmp 80) = x4_80
   generalize A.eval (.tmp 81) = x4_81
   generalize A.eval (.tmp 82) = x4_82
   generalize A.eval (.tmp 83) = x4_83
   generalize A.eval (.tmp 84) = x4_84
   generalize A.eval (.tmp 85) = x4_85
   generalize A.eval (.tmp 86) = x4_86
   generalize A.eval (.tmp 87) = x4_87
   generalize A.eval (.tmp 88) = x4_88
   generalize A.eval (.tmp 89) = x4_89
   clear hr hs hd' y0 y1 y2 y3 y4 y5 y6 y7 y8 y9 y10 y11 y12 y13 y14 y15 y16 y17 y18 y90 y91 y92 y93 y94 y95 y96 y97 y98 y99 y100 y101 y102 y103 y104
   clear hR c0 c1 c2 c3 c4 c5 c6 c7 HT5 hck5
   generalize W5.drew = W6 at HT6 ⊢
   refine hKf _ _ ?_
   clear hKf
   go_upto_region 7 with (fail)
   rename_i Kf hKf
   have HT7 := Lib.hid (HT6.out.drew)
   obtain ⟨c0, c1, c2, c3, c4, c5, c6, c7⟩ := HT7.out.cell
   refine reg176_7 (c := w.heap.size) (x0 := x0) (x1 := x1) (x2 := x2) (x3 := x3) (x4 := x4) (x5 := x5) (x6 := x6) (x7 := x7) (by kernel_rfl) rfl c0 c1 c2 c3 c4 c5 c6 c7 HT7.out.fz rfl rfl (fun A hd' hs hr hR => ?_)
   generalize hW7 : World.setCells _ _ _ _ = W7
   have HT8 := Lib.hid (show TInv w [x0, x0, x1, x2, x3, x4, x5, x6] W7 from by rw [← hW7]; exact HT7.out.shift)
   clear hW7
   have y0 : A.eval (.tmp 0) = .pointer (some ⟨hb, 0, none⟩) := hr 0 (by kernel_rfl)
   have y1 : A.eval (.tmp 1) = .pointer (some ⟨hb, 8, none⟩) := hr 1 (by kernel_rfl)
   have y2 : A.eval (.tmp 2) = undef := hr 2 (by kernel_rfl)
   have y3 : A.eval (.tmp 3) = undef := hr 3 (by kernel_rfl)
   have y4 : A.eval (.tmp 4) = .pointer (some ⟨w.heap.size, 0, none⟩) := hr 4 (by kernel_rfl)
   have y5 : A.eval (.tmp 5) = .int .i64 (k : Int) := hr 5 (by kernel_rfl)
   have y6 : A.eval (.tmp 6) = U wk := hr 6 (by kernel_rfl)
   have y7 : A.eval (.tmp 7) = U x0 := hr 7 (by kernel_rfl)
   have y8 : A.eval (.tmp 8) = U x4 := hr 8 (by kernel_rfl)
   have y9 : A.eval (.tmp 9) = U (x7 + Sg1 x4 + ch x4 x5 x6 + kc + wk) := hr 9 (by kernel_rfl)
   have y10 : A.eval (.tmp 10) = U (Sg0 x0 + mj x0 x1 x2) := hr 10 (by kernel_rfl)
   have y11 : A.eval (.tmp 11) = undef := hr 11 (by kernel_rfl)
   have y12 : A.eval (.tmp 12) = .pointer (some ⟨hb, 0, none⟩) := hr 12 (by kernel_rfl)
   have y13 : A.eval (.tmp 13) = .pointer (some ⟨hb, 0, none⟩) := hr 13 (by kernel_rfl)
   have y14 : A.eval (.tmp 14) = .agg #[U s0, U s1, U s2, U s3, U s4, U s5, U s6, U s7] := hr 14 (by kernel_rfl)
   have y15 : A.eval (.tmp 15) = .pointer (some ⟨hb, 8, none⟩) := hr 15 (by kernel_rfl)
   have y16 : A.eval (.tmp 16) = .agg (arr ws) := hr 16 (by kernel_rfl)
   have y17 : A.eval (.tmp 17) = .int .i64 (k : Int) := hr 17 (by kernel_rfl)
   have y18 : A.eval (.tmp 18) = .bool true := hr 18 (by kernel_rfl)
   have y90 : A.eval (.tmp 90) = undef := hr 90 (by kernel_rfl)
   have y91 : A.eval (.tmp 91) = undef := hr 91 (by kernel_rfl)
   have y92 : A.eval (.tmp 92) = undef := hr 92 (by kernel_rfl)
   have y93 : A.eval (.tmp 93) = undef := hr 93 (by kernel_rfl)
   have y94 : A.eval (.tmp 94) = undef := hr 94 (by kernel_rfl)
   have y95 : A.eval (.tmp 95) = undef := hr 95 (by kernel_rfl)
   have y96 : A.eval (.tmp 96) = undef := hr 96 (by kernel_rfl)
   have y97 : A.eval (.tmp 97) = undef := hr 97 (by kernel_rfl)
   have y98 : A.eval (.tmp 98) = undef := hr 98 (by kernel_rfl)
   have y99 : A.eval (.tmp 99) = undef := hr 99 (by kernel_rfl)
   have y100 : A.eval (.tmp 100) = undef := hr 100 (by kernel_rfl)
   have y101 : A.eval (.tmp 101) = undef := hr 101 (by kernel_rfl)
   have y102 : A.eval (.tmp 102) = undef := hr 102 (by kernel_rfl)
   have y103 : A.eval (.tmp 103) = undef := hr 103 (by kernel_rfl)
   have y104 : A.eval (.tmp 104) = undef := hr 104 (by kernel_rfl)
   rw [act105 hs, hd', y0, y1, y2, y3, y4, y5, y6, y7, y8, y9, y10, y11, y12, y13, y14, y15, y16, y17, y18, y90, y91, y92, y93, y94, y95, y96, y97, y98, y99, y100, y101, y102, y103, y104]
   generalize A.eval (.tmp 19) = x5_19
   generalize A.eval (.tmp 20) = x5_20
   generalize A.eval (.tmp 21) = x5_21
   generalize A.eval (.tmp 22) = x5_22
   generalize A.eval (.tmp 23) = x5_23
   generalize A.eval (.tmp 24) = x5_24
   generalize A.eval (.tmp 25) = x5_25
   generalize A.eval (.tmp 26) = x5_26
   generalize A.eval (.tmp 27) = x5_27
   generalize A.eval (.tmp 28) = x5_28
   generalize A.eval (.tmp 29) = x5_29
   generalize A.eval (.tmp 30) = x5_30
   generalize A.eval (.tmp 31) = x5_31
   generalize A.eval (.tmp 32) = x5_32
   generalize A.eval (.tmp 33) = x5_33
   generalize A.eval (.tmp 34) = x5_34
   generalize A.eval (.tmp 35) = x5_35
   generalize A.eval (.tmp 36) = x5_36
   generalize A.eval (.tmp 37) = x5_37
   generalize A.eval (.tmp 38) = x5_38
   generalize A.eval (.tmp 39) = x5_39
   generalize A.eval (.tmp 40) = x5_40
   generalize A.eval (.tmp 41) = x5_41
   generalize A.eval (.tmp 42) = x5_42
   generalize A.eval (.tmp 43) = x5_43
   generalize A.eval (.tmp 44) = x5_44
   generalize A.eval (.tmp 45) = x5_45
   generalize A.eval (.tmp 46) = x5_46
   generalize A.eval (.tmp 47) = x5_47
   generalize A.eval (.tmp 48) = x5_48
   generalize A.eval (.tmp 49) = x5_49
   generalize A.eval (.tmp 50) = x5_50
   generalize A.eval (.tmp 51) = x5_51
   generalize A.eval (.tmp 52) = x5_52
   generalize A.eval (.tmp 53) = x5_53
   generalize A.eval (.tmp 54) = x5_54
   generalize A.eval (.tmp 55) = x5_55
   generalize A.eval (.tmp 56) = x5_56
   generalize A.eval (.tmp 57) = x5_57
   generalize A.eval (.tmp 58) = x5_58
   generalize A.eval (.tmp 59) = x5_59
   generalize A.eval (.tmp 60) = x5_60
   generalize A.eval (.tmp 61) = x5_61
   generalize A.eval (.tmp 62) = x5_62
   generalize A.eval (.tmp 63) = x5_63
   generalize A.eval (.tmp 64) = x5_64
   generalize A.eval (.tmp 65) = x5_65
   generalize A.eval (.tmp 66) = x5_66
   generalize A.eval (.tmp 67) = x5_67
   generalize A.eval (.tmp 68) = x5_68
   generalize A.eval (.tmp 69) = x5_69
   generalize A.eval (.tmp 70) = x5_70
   generalize A.eval (.tmp 71) = x5_71
   generalize A.eval (.tmp 72) = x5_72
   generalize A.eval (.tmp 73) = x5_73
   generalize A.eval (.tmp 74) = x5_74
   generalize A.eval (.tmp 75) = x5_75
   generalize A.eval (.tmp 76) = x5_76
   generalize A.eval (.tmp 77) = x5_77
   generalize A.eval (.tmp 78) = x5_78
   generalize A.eval (.tmp 79) = x5_79
   generalize A.eval (.tmp 80) = x5_80
   generalize A.eval (.tmp 81) = x5_81
   generalize A.eval (.tmp 82) = x5_82
   generalize A.eval (.tmp 83) = x5_83
   generalize A.eval (.tmp 84) = x5_84
   generalize A.eval (.tmp 85) = x5_85
   generalize A.eval (.tmp 86) = x5_86
   generalize A.eval (.tmp 87) = x5_87
   generalize A.eval (.tmp 88) = x5_88
   generalize A.eval (.tmp 89) = x5_89
   clear hr hs hd' y0 y1 y2 y3 y4 y5 y6 y7 y8 y9 y10 y11 y12 y13 y14 y15 y16 y17 y18 y90 y91 y92 y93 y94 y95 y96 y97 y98 y99 y100 y101 y102 y103 y104
   clear hR c0 c1 c2 c3 c4 c5 c6 c7 HT6 HT7
   refine hKf _ _ ?_
   clear hKf
   go_upto_region 8 with (fail)
   obtain ⟨c0, c1, c2, c3, c4, c5, c6, c7⟩ := HT8.out.cell
   refine reg176_8 (c := w.heap.size) (y4 := x3) (t1 := x7 + Sg1 x4 + ch x4 x5 x6 + kc + wk) (u1 := Sg0 x0 + mj x0 x1 x2) (v0 := U x0) (by kernel_rfl) rfl c0 c4 HT8.out.fz rfl rfl rfl rfl (fun A hd' hs hr hR => ?_)
   generalize hW8 : World.setCell _ _ _ = W8
   have HT9 := Lib.hid (show TInv w (comp kl ws s (k + 1)) W8 from by rw [← hW8, HNE.out]; exact HT8.out.put)
   clear hW8
   have y0 : A.eval (.tmp 0) = .pointer (some ⟨hb, 0, none⟩) := hr 0 (by kernel_rfl)
   have y1 : A.eval (.tmp 1) = .pointer (some ⟨hb, 8, none⟩) := hr 1 (by kernel_rfl)
   have y2 : A.eval (.tmp 2) = undef := hr 2 (by kernel_rfl)
   have y3 : A.eval (.tmp 3) = undef := hr 3 (by kernel_rfl)
   have y4 : A.eval (.tmp 4) = .pointer (some ⟨w.heap.size, 0, none⟩) := hr 4 (by kernel_rfl)
   have y5 : A.eval (.tmp 5) = .int .i64 (k : Int) := hr 5 (by kernel_rfl)
   have y6 : A.eval (.tmp 6) = U wk := hr 6 (by kernel_rfl)
   have y7 : A.eval (.tmp 7) = U x0 := hr 7 (by kernel_rfl)
   have y8 : A.eval (.tmp 8) = U x4 := hr 8 (by kernel_rfl)
   have y9 : A.eval (.tmp 9) = U (x7 + Sg1 x4 + ch x4 x5 x6 + kc + wk) := hr 9 (by kernel_rfl)
   have y10 : A.eval (.tmp 10) = U (Sg0 x0 + mj x0 x1 x2) := hr 10 (by kernel_rfl)
   have y11 : A.eval (.tmp 11) = undef := hr 11 (by kernel_rfl)
   have y12 : A.eval (.tmp 12) = .pointer (some ⟨hb, 0, none⟩) := hr 12 (by kernel_rfl)
   have y13 : A.eval (.tmp 13) = .pointer (some ⟨hb, 0, none⟩) := hr 13 (by kernel_rfl)
   have y14 : A.eval (.tmp 14) = .agg #[U s0, U s1, U s2, U s3, U s4, U s5, U s6, U s7] := hr 14 (by kernel_rfl)
   have y15 : A.eval (.tmp 15) = .pointer (some ⟨hb, 8, none⟩) := hr 15 (by kernel_rfl)
   have y16 : A.eval (.tmp 16) = .agg (arr ws) := hr 16 (by kernel_rfl)
   have y17 : A.eval (.tmp 17) = .int .i64 (k : Int) := hr 17 (by kernel_rfl)
   have y18 : A.eval (.tmp 18) = .bool true := hr 18 (by kernel_rfl)
   have y90 : A.eval (.tmp 90) = undef := hr 90 (by kernel_rfl)
   have y91 : A.eval (.tmp 91) = undef := hr 91 (by kernel_rfl)
   have y92 : A.eval (.tmp 92) = undef := hr 92 (by kernel_rfl)
   have y93 : A.eval (.tmp 93) = undef := hr 93 (by kernel_rfl)
   have y94 : A.eval (.tmp 94) = undef := hr 94 (by kernel_rfl)
   have y95 : A.eval (.tmp 95) = undef := hr 95 (by kernel_rfl)
   have y96 : A.eval (.tmp 96) = undef := hr 96 (by kernel_rfl)
   have y97 : A.eval (.tmp 97) = undef := hr 97 (by kernel_rfl)
   have y98 : A.eval (.tmp 98) = undef := hr 98 (by kernel_rfl)
   have y99 : A.eval (.tmp 99) = undef := hr 99 (by kernel_rfl)
   have y100 : A.eval (.tmp 100) = undef := hr 100 (by kernel_rfl)
   have y101 : A.eval (.tmp 101) = undef := hr 101 (by kernel_rfl)
   have y102 : A.eval (.tmp 102) = undef := hr 102 (by kernel_rfl)
   have y103 : A.eval (.tmp 103) = undef := hr 103 (by kernel_rfl)
   have y104 : A.eval (.tmp 104) = undef := hr 104 (by kernel_rfl)
   rw [act105 hs, hd', y0, y1, y2, y3, y4, y5, y6, y7, y8, y9, y10, y11, y12, y13, y14, y15, y16, y17, y18, y90, y91, y92, y93, y94, y95, y96, y97, y98, y99, y100, y101, y102, y103, y104]
   generalize A.eval (.tmp 19) = x6_19
   generalize A.eval (.tmp 20) = x6_20
   generalize A.eval (.tmp 21) = x6_21
   generalize A.eval (.tmp 22) = x6_22
   generalize A.eval (.tmp 23) = x6_23
   generalize A.eval (.tmp 24) = x6_24
   generalize A.eval (.tmp 25) = x6_25
   generalize A.eval (.tmp 26) = x6_26
   generalize A.eval (.tmp 27) = x6_27
   generalize A.eval (.tmp 28) = x6_28
   generalize A.eval (.tmp 29) = x6_29
   generalize A.eval (.tmp 30) = x6_30
   generalize A.eval (.tmp 31) = x6_31
   generalize A.eval (.tmp 32) = x6_32
   generalize A.eval (.tmp 33) = x6_33
   generalize A.eval (.tmp 34) = x6_34
   generalize A.eval (.tmp 35) = x6_35
   generalize A.eval (.tmp 36) = x6_36
   generalize A.eval (.tmp 37) = x6_37
   generalize A.eval (.tmp 38) = x6_38
   generalize A.eval (.tmp 39) = x6_39
   generalize A.eval (.tmp 40) = x6_40
   generalize A.eval (.tmp 41) = x6_41
   generalize A.eval (.tmp 42) = x6_42
   generalize A.eval (.tmp 43) = x6_43
   generalize A.eval (.tmp 44) = x6_44
   generalize A.eval (.tmp 45) = x6_45
   generalize A.eval (.tmp 46) = x6_46
   generalize A.eval (.tmp 47) = x6_47
   generalize A.eval (.tmp 48) = x6_48
   generalize A.eval (.tmp 49) = x6_49
   generalize A.eval (.tmp 50) = x6_50
   generalize A.eval (.tmp 51) = x6_51
   generalize A.eval (.tmp 52) = x6_52
   generalize A.eval (.tmp 53) = x6_53
   generalize A.eval (.tmp 54) = x6_54
   generalize A.eval (.tmp 55) = x6_55
   generalize A.eval (.tmp 56) = x6_56
   generalize A.eval (.tmp 57) = x6_57
   generalize A.eval (.tmp 58) = x6_58
   generalize A.eval (.tmp 59) = x6_59
   generalize A.eval (.tmp 60) = x6_60
   generalize A.eval (.tmp 61) = x6_61
   generalize A.eval (.tmp 62) = x6_62
   generalize A.eval (.tmp 63) = x6_63
   generalize A.eval (.tmp 64) = x6_64
   generalize A.eval (.tmp 65) = x6_65
   generalize A.eval (.tmp 66) = x6_66
   generalize A.eval (.tmp 67) = x6_67
   generalize A.eval (.tmp 68) = x6_68
   generalize A.eval (.tmp 69) = x6_69
   generalize A.eval (.tmp 70) = x6_70
   generalize A.eval (.tmp 71) = x6_71
   generalize A.eval (.tmp 72) = x6_72
   generalize A.eval (.tmp 73) = x6_73
   generalize A.eval (.tmp 74) = x6_74
   generalize A.eval (.tmp 75) = x6_75
   generalize A.eval (.tmp 76) = x6_76
   generalize A.eval (.tmp 77) = x6_77
   generalize A.eval (.tmp 78) = x6_78
   generalize A.eval (.tmp 79) = x6_79
   generalize A.eval (.tmp 80) = x6_80
   generalize A.eval (.tmp 81) = x6_81
   generalize A.eval (.tmp 82) = x6_82
   generalize A.eval (.tmp 83) = x6_83
   generalize A.eval (.tmp 84) = x6_84
   generalize A.eval (.tmp 85) = x6_85
   generalize A.eval (.tmp 86) = x6_86
   generalize A.eval (.tmp 87) = x6_87
   generalize A.eval (.tmp 88) = x6_88
   generalize A.eval (.tmp 89) = x6_89
   clear hr hs hd' y0 y1 y2 y3 y4 y5 y6 y7 y8 y9 y10 y11 y12 y13 y14 y15 y16 y17 y18 y90 y91 y92 y93 y94 y95 y96 y97 y98 y99 y100 y101 y102 y103 y104
   clear hR c0 c1 c2 c3 c4 c5 c6 c7 HT8
   refine hKo _ _ ?_
   clear hKo
   go_wp2
   go_roundw
   case rel => exact ⟨k + 1, by omega, (by first | rfl | go_num), HT9.out⟩
   case measure => simp [intOf]; omega
  ·have hlt' : ¬ (k : Int) < 64 := by omega
   obtain rfl : k = 64 := by omega
   have hbk : blk kl s (fun k => hd.getD k 0) = List.zipWith (· + ·) s (comp kl ws s 64) := by unfold blk; rw [HWE.out]
   have HBK := Lib.hid hbk
   have hcl := comp_length (kl := kl) (ws := ws) HS8.out 64
   generalize comp kl ws s 64 = X at hT hcl hbk HBK
   have HCL := Lib.hid hcl
   have hx0 : wr.heap[hb]? = some (.cells (hashC (updN s X 0) hd n) 253 (0, 0)) := (hT.below.block hb hlt).trans HH.out
   have hI0 : TInv w X wr ∧ wr.heap[hb]? = some (.cells (hashC (updN s X 0) hd n) 253 (0, 0)) := ⟨hT, hx0⟩
   have HT := Lib.hid hT
   clear hT hcl hbk hx0
   go_wp2_with fail
   go_loopw [90] (fun i w2 => ∃ k : Nat, k ≤ 8 ∧ i = .int .i64 k ∧ w2.heap[w.heap.size]? = some (.cells (X.map (fun y => U y)).toArray 250 (0, 0)) ∧ w2.heap[hb]? = some (.cells (hashC (updN s X k) hd n) 253 (0, 0)) ∧ Also (fun b => b ≠ hb) w w2 ∧ Below hb w w2) (fun i _ => 8 - (intOf i).toNat)
   case atStart => exact ⟨0, by omega, rfl, HT.out.cur, hI0.2, ⟨HT.out.below.size, fun b _ h => HT.out.below.block b h⟩, HT.out.below.mono (by omega)⟩
   case round =>
    clear HT hI0
    obtain ⟨k, hk, rfl, hx, hh2, hal, hbl⟩ := hrel
    have hk0 : (0 : Int) ≤ (k : Int) := Int.natCast_nonneg _
    have HX := Lib.hid hx
    have HH2 := Lib.hid hh2
    have HAL := Lib.hid hal
    have HBL := Lib.hid hbl
    clear hx hh2 hal hbl
    by_cases hlt2 : k < 8
    ·have hlt' : (k : Int) < 8 := by omega
     go_upto_region 13 with (fail)
     rename_i Kf hKf
     have hul := updN_length HS8.out HCL.out hk
     refine reg176_13 (hb := hb) (c := w.heap.size) (kk := k) (sk := s.getD k 0) (xk := X.getD k 0) (by kernel_rfl) rfl hlt2 ((cell_of_row _ hb k _ 253 (0, 0) HH2.out).trans ((hash_at (by omega)).trans (by rw [updN_get HS8.out HCL.out hlt2]))) ((cell_of_row _ w.heap.size k _ 250 (0, 0) HX.out).trans (by have := HCL.out; simp [List.getD, List.getElem?_eq_getElem (show k < X.length by omega)])) (by
      have h : wr.drew.heap[hb]? = some (.cells (hashC (updN s X k) hd n) 253 (0, 0)) := HH2.out
      simp [World.frozen?, h]) rfl rfl rfl rfl (fun A hd' hs hr hR => ?_)
     generalize hW8 : World.setCell _ _ _ = W8
     have HX8 := Lib.hid (show W8.heap[w.heap.size]? = some (.cells (X.map (fun y => U y)).toArray 250 (0, 0)) from by rw [← hW8]; exact (Below.heap_setCell _ _ _ _ (by simp only; omega)).trans HX.out)
     have HH8 := Lib.hid (show W8.heap[hb]? = some (.cells (hashC (updN s X (k + 1)) hd n) 253 (0, 0)) from by
      rw [← hW8, ← updN_set HS8.out HCL.out hlt2, ← hash_set (by omega)]
      have h : wr.drew.heap[hb]? = some (.cells (hashC (updN s X k) hd n) 253 (0, 0)) := HH2.out
      exact blk_set h _ _)
     have HAL8 := Lib.hid (show Also (fun b => b ≠ hb) w W8 from by
      rw [← hW8]
      exact ⟨by rw [setCell_size]; exact HAL.out.size, fun b h1 h2 => (Below.heap_setCell _ _ _ b h1).trans (HAL.out.block b h1 h2)⟩)
     have HBL8 := Lib.hid (show Below hb w W8 from by rw [← hW8]; exact HBL.out.drew.setCell (Nat.le_refl _) _)
     clear hW8
     have y0 : A.eval (.tmp 0) = .pointer (some ⟨hb, 0, none⟩) := hr 0 (by kernel_rfl)
     have y1 : A.eval (.tmp 1) = .pointer (some ⟨hb, 8, none⟩) := hr 1 (by kernel_rfl)
     have y2 : A.eval (.tmp 2) = undef := hr 2 (by kernel_rfl)
     have y3 : A.eval (.tmp 3) = undef := hr 3 (by kernel_rfl)
     have y4 : A.eval (.tmp 4) = .pointer (some ⟨w.heap.size, 0, none⟩) := hr 4 (by kernel_rfl)
     have y5 : A.eval (.tmp 5) = u5 := hr 5 (by kernel_rfl)
     have y6 : A.eval (.tmp 6) = u6 := hr 6 (by kernel_rfl)
     have y7 : A.eval (.tmp 7) = u7 := hr 7 (by kernel_rfl)
     have y8 : A.eval (.tmp 8) = u8 := hr 8 (by kernel_rfl)
     have y9 : A.eval (.tmp 9) = u9 := hr 9 (by kernel_rfl)
     have y10 : A.eval (.tmp 10) = u10 := hr 10 (by kernel_rfl)
     have y11 : A.eval (.tmp 11) = .int .i64 (k : Int) := hr 11 (by kernel_rfl)
     have y12 : A.eval (.tmp 12) = .pointer (some ⟨hb, 0, none⟩) := hr 12 (by kernel_rfl)
     have y13 : A.eval (.tmp 13) = .pointer (some ⟨hb, 0, none⟩) := hr 13 (by kernel_rfl)
     have y14 : A.eval (.tmp 14) = .agg #[U s0, U s1, U s2, U s3, U s4, U s5, U s6, U s7] := hr 14 (by kernel_rfl)
     have y15 : A.eval (.tmp 15) = .pointer (some ⟨hb, 8, none⟩) := hr 15 (by kernel_rfl)
     have y16 : A.eval (.tmp 16) = .agg (arr ws) := hr 16 (by kernel_rfl)
     have y17 : A.eval (.tmp 17) = .int .i64 64 := hr 17 (by kernel_rfl)
     have y18 : A.eval (.tmp 18) = .bool false := hr 18 (by kernel_rfl)
     have y19 : A.eval (.tmp 19) = u19 := hr 19 (by kernel_rfl)
     have y20 : A.eval (.tmp 20) = u20 := hr 20 (by kernel_rfl)
     have y21 : A.eval (.tmp 21) = u21 := hr 21 (by kernel_rfl)
     have y22 : A.eval (.tmp 22) = u22 := hr 22 (by kernel_rfl)
     have y23 : A.eval (.tmp 23) = u23 := hr 23 (by kernel_rfl)
     have y24 : A.eval (.tmp 24) = u24 := hr 24 (by kernel_rfl)
     have y25 : A.eval (.tmp 25) = u25 := hr 25 (by kernel_rfl)
     have y26 : A.eval (.tmp 26) = u26 := hr 26 (by kernel_rfl)
     have y27 : A.eval (.tmp 27) = u27 := hr 27 (by kernel_rfl)
     have y28 : A.eval (.tmp 28) = u28 := hr 28 (by kernel_rfl)
     have y29 : A.eval (.tmp 29) = u29 := hr 29 (by kernel_rfl)
     have y30 : A.eval (.tmp 30) = u30 := hr 30 (by kernel_rfl)
     have y31 : A.eval (.tmp 31) = u31 := hr 31 (by kernel_rfl)
     have y32 : A.eval (.tmp 32) = u32 := hr 32 (by kernel_rfl)
     have y33 : A.eval (.tmp 33) = u33 := hr 33 (by kernel_rfl)
     have y34 : A.eval (.tmp 34) = u34 := hr 34 (by kernel_rfl)
     have y35 : A.eval (.tmp 35) = u35 := hr 35 (by kernel_rfl)
     have y36 : A.eval (.tmp 36) = u36 := hr 36 (by kernel_rfl)
     have y37 : A.eval (.tmp 37) = u37 := hr 37 (by kernel_rfl)
     have y38 : A.eval (.tmp 38) = u38 := hr 38 (by kernel_rfl)
     have y39 : A.eval (.tmp 39) = u39 := hr 39 (by kernel_rfl)
     have y40 : A.eval (.tmp 40) = u40 := hr 40 (by kernel_rfl)
     have y41 : A.eval (.tmp 41) = u41 := hr 41 (by kernel_rfl)
     have y42 : A.eval (.tmp 42) = u42 := hr 42 (by kernel_rfl)
     have y43 : A.eval (.tmp 43) = u43 := hr 43 (by kernel_rfl)
     have y44 : A.eval (.tmp 44) = u44 := hr 44 (by kernel_rfl)
     have y45 : A.eval (.tmp 45) = u45 := hr 45 (by kernel_rfl)
     have y46 : A.eval (.tmp 46) = u46 := hr 46 (by kernel_rfl)
     have y47 : A.eval (.tmp 47) = u47 := hr 47 (by kernel_rfl)
     have y48 : A.eval (.tmp 48) = u48 := hr 48 (by kernel_rfl)
     have y49 : A.eval (.tmp 49) = u49 := hr 49 (by kernel_rfl)
     have y50 : A.eval (.tmp 50) = u50 := hr 50 (by kernel_rfl)
     have y51 : A.eval (.tmp 51) = u51 := hr 51 (by kernel_rfl)
     have y52 : A.eval (.tmp 52) = u52 := hr 52 (by kernel_rfl)
     have y53 : A.eval (.tmp 53) = u53 := hr 53 (by kernel_rfl)
     have y54 : A.eval (.tmp 54) = u54 := hr 54 (by kernel_rfl)
     have y55 : A.eval (.tmp 55) = u55 := hr 55 (by kernel_rfl)
     have y56 : A.eval (.tmp 56) = u56 := hr 56 (by kernel_rfl)
     have y57 : A.eval (.tmp 57) = u57 := hr 57 (by kernel_rfl)
     have y58 : A.eval (.tmp 58) = u58 := hr 58 (by kernel_rfl)
     have y59 : A.eval (.tmp 59) = u59 := hr 59 (by kernel_rfl)
     have y60 : A.eval (.tmp 60) = u60 := hr 60 (by kernel_rfl)
     have y61 : A.eval (.tmp 61) = u61 := hr 61 (by kernel_rfl)
     have y62 : A.eval (.tmp 62) = u62 := hr 62 (by kernel_rfl)
     have y63 : A.eval (.tmp 63) = u63 := hr 63 (by kernel_rfl)
     have y64 : A.eval (.tmp 64) = u64 := hr 64 (by kernel_rfl)
     have y65 : A.eval (.tmp 65) = u65 := hr 65 (by kernel_rfl)
     have y66 : A.eval (.tmp 66) = u66 := hr 66 (by kernel_rfl)
     have y67 : A.eval (.tmp 67) = u67 := hr 67 (by kernel_rfl)
     have y68 : A.eval (.tmp 68) = u68 := hr 68 (by kernel_rfl)
     have y69 : A.eval (.tmp 69) = u69 := hr 69 (by kernel_rfl)
     have y70 : A.eval (.tmp 70) = u70 := hr 70 (by kernel_rfl)
     have y71 : A.eval (.tmp 71) = u71 := hr 71 (by kernel_rfl)
     have y72 : A.eval (.tmp 72) = u72 := hr 72 (by kernel_rfl)
     have y73 : A.eval (.tmp 73) = u73 := hr 73 (by kernel_rfl)
     have y74 : A.eval (.tmp 74) = u74 := hr 74 (by kernel_rfl)
     have y75 : A.eval (.tmp 75) = u75 := hr 75 (by kernel_rfl)
     have y76 : A.eval (.tmp 76) = u76 := hr 76 (by kernel_rfl)
     have y77 : A.eval (.tmp 77) = u77 := hr 77 (by kernel_rfl)
     have y78 : A.eval (.tmp 78) = u78 := hr 78 (by kernel_rfl)
     have y79 : A.eval (.tmp 79) = u79 := hr 79 (by kernel_rfl)
     have y80 : A.eval (.tmp 80) = u80 := hr 80 (by kernel_rfl)
     have y81 : A.eval (.tmp 81) = u81 := hr 81 (by kernel_rfl)
     have y82 : A.eval (.tmp 82) = u82 := hr 82 (by kernel_rfl)
     have y83 : A.eval (.tmp 83) = u83 := hr 83 (by kernel_rfl)
     have y84 : A.eval (.tmp 84) = u84 := hr 84 (by kernel_rfl)
     have y85 : A.eval (.tmp 85) = u85 := hr 85 (by kernel_rfl)
     have y86 : A.eval (.tmp 86) = u86 := hr 86 (by kernel_rfl)
     have y87 : A.eval (.tmp 87) = u87 := hr 87 (by kernel_rfl)
     have y88 : A.eval (.tmp 88) = u88 := hr 88 (by kernel_rfl)
     have y89 : A.eval (.tmp 89) = u89 := hr 89 (by kernel_rfl)
     have y90 : A.eval (.tmp 90) = .int .i64 (k : Int) := hr 90 (by kernel_rfl)
     have y91 : A.eval (.tmp 91) = .bool true := hr 91 (by kernel_rfl)
     have y92 : A.eval (.tmp 92) = .int .i64 (k : Int) := hr 92 (by kernel_rfl)
     rw [act105 hs, hd', y0, y1, y2, y3, y4, y5, y6, y7, y8, y9, y10, y11, y12, y13, y14, y15, y16, y17, y18, y19, y20, y21, y22, y23, y24, y25, y26, y27, y28, y29, y30, y31, y32, y33, y34, y35, y36, y37, y38, y39, y40, y41, y42, y43, y44, y45, y46, y47, y48, y49, y50, y51, y52, y53, y54, y55, y56, y57, y58, y59, y60, y61, y62, y63, y64, y65, y66, y67, y68, y69, y70, y71, y72, y73, y74, y75, y76, y77, y78, y79, y80, y81, y82, y83, y84, y85, y86, y87, y88, y89, y90, y91, y92]
     generalize A.eval (.tmp 93) = x7_93
     generalize A.eval (.tmp 94) = x7_94
     generalize A.eval (.tmp 95) = x7_95
     generalize A.eval (.tmp 96) = x7_96
     generalize A.eval (.tmp 97) = x7_97
     generalize A.eval (.tmp 98) = x7_98
     generalize A.eval (.tmp 99) = x7_99
     generalize A.eval (.tmp 100) = x7_100
     generalize A.eval (.tmp 101) = x7_101
     generalize A.eval (.tmp 102) = x7_102
     generalize A.eval (.tmp 103) = x7_103
     generalize A.eval (.tmp 104) = x7_104
     clear hr hs hd' y0 y1 y2 y3 y4 y5 y6 y7 y8 y9 y10 y11 y12 y13 y14 y15 y16 y17 y18 y19 y20 y21 y22 y23 y24 y25 y26 y27 y28 y29 y30 y31 y32 y33 y34 y35 y36 y37 y38 y39 y40 y41 y42 y43 y44 y45 y46 y47 y48 y49 y50 y51 y52 y53 y54 y55 y56 y57 y58 y59 y60 y61 y62 y63 y64 y65 y66 y67 y68 y69 y70 y71 y72 y73 y74 y75 y76 y77 y78 y79 y80 y81 y82 y83 y84 y85 y86 y87 y88 y89 y90 y91 y92
     clear hR HX HH2 HAL HBL
     refine hKf _ _ ?_
     clear hKf
     go_wp2
     go_roundw
     case rel => exact ⟨k + 1, by omega, (by first | rfl | go_num), HX8.out, HH8.out, HAL8.out, HBL8.out⟩
     case measure => simp [intOf]; omega
    ·have hlt' : ¬ (k : Int) < 8 := by omega
     obtain rfl : k = 8 := by omega
     go_wp2
     go_end0
     exact ⟨rfl, by rw [HBK.out, ← updN_all HS8.out HCL.out]; exact HH2.out, HAL.out, HBL.out⟩
end Go.Proofs.YtoimjnmhinfbkaaGreatDoor

namespace Go.Proofs.YtoimjnmhinfbkaaGreatDoor
open Go.RowKit
set_option maxRecDepth 100000
/-- a hash: the state, the bytes held, how many there were. -/
structure HS where
 s : List (BitVec 32)
 hd : List Nat
 n : Nat
def feed1 (kl : List (BitVec 32)) (h : HS) (b : Nat) : HS :=
 let hd := h.hd.set (h.n % 64) b
 ⟨if h.n % 64 = 63 then blk kl h.s (fun k => hd.getD k 0) else h.s, hd, h.n + 1⟩
def feed (kl : List (BitVec 32)) (h : HS) (l : List Nat) : HS := l.foldl (feed1 kl) h
theorem feed_app (kl : List (BitVec 32)) (h : HS) (l m : List Nat) : feed kl h (l ++ m) = feed kl (feed kl h l) m := List.foldl_append
/-- bytes put in a row. -/
def putL : List Nat → Nat → List Nat → List Nat
 | hd, _, [] => hd
 | hd, i, b :: l => putL (hd.set i b) (i + 1) l
theorem putL_length : ∀ (l : List Nat) (hd : List Nat) (i : Nat), (putL hd i l).length = hd.length
 | [], _, _ => rfl
 | _ :: l, hd, i => by rw [putL, putL_length l]; simp
/-- so many bytes that a block isn't overrun: they are put, and the block is taken where it is full. -/
theorem feed_chunk (kl : List (BitVec 32)) : ∀ (l : List Nat) (h : HS), h.n % 64 + l.length ≤ 64 → l ≠ [] →
  feed kl h l = ⟨if h.n % 64 + l.length = 64 then blk kl h.s (fun k => (putL h.hd (h.n % 64) l).getD k 0) else h.s, putL h.hd (h.n % 64) l, h.n + l.length⟩
 | [], _, _, hne => absurd rfl hne
 | [b], h, hl, _ => by
  simp only [feed, List.foldl, feed1, putL, List.length_cons, List.length_nil]
  congr 1
  by_cases e : h.n % 64 = 63
  ·rw [if_pos e, if_pos (by omega)]
  ·rw [if_neg e, if_neg (by omega)]
 | b :: c :: l, h, hl, _ => by
  have hl' : h.n % 64 + (l.length + 1 + 1) ≤ 64 := hl
  have h1 : (h.n + 1) % 64 = h.n % 64 + 1 := by omega
  have ih := feed_chunk kl (c :: l) (feed1 kl h b) (by simp only [feed1, h1, List.length_cons]; omega) (by simp)
  rw [show feed kl h (b :: c :: l) = feed kl (feed1 kl h b) (c :: l) from rfl, ih]
  have e63 : ¬ h.n % 64 = 63 := by omega
  simp only [feed1, h1, if_neg e63, putL, List.length_cons]
  congr 1
  ·by_cases e : h.n % 64 + 1 + (l.length + 1) = 64
   ·rw [if_pos e, if_pos (by omega)]
   ·rw [if_neg e, if_neg (by omega)]
  ·omega
theorem feed_n (kl : List (BitVec 32)) (l : List Nat) (h : HS) : (feed kl h l).n = h.n + l.length := by
 induction l generalizing h with
 | nil => rfl
 | cons b l ih => rw [show feed kl h (b :: l) = feed kl (feed1 kl h b) l from rfl, ih]; simp [feed1]; omega
theorem feed_lens {kl : List (BitVec 32)} {h : HS} (hs : h.s.length = 8) (hh : h.hd.length = 64) (l : List Nat) : (feed kl h l).s.length = 8 ∧ (feed kl h l).hd.length = 64 := by
 induction l generalizing h with
 | nil => exact ⟨hs, hh⟩
 | cons b l ih =>
  refine ih (h := feed1 kl h b) ?_ (by simp [feed1, hh])
  simp only [feed1]
  split
  ·unfold blk; simp [hs, comp_length hs]
  ·exact hs
theorem feed_bytes {kl : List (BitVec 32)} {h : HS} (hh : ∀ x ∈ h.hd, x < 256) {l : List Nat} (hl : ∀ x ∈ l, x < 256) : ∀ x ∈ (feed kl h l).hd, x < 256 := by
 induction l generalizing h with
 | nil => exact hh
 | cons b l ih =>
  refine ih (h := feed1 kl h b) ?_ (fun x hx => hl x (by simp [hx]))
  intro x hx
  rcases List.mem_or_eq_of_mem_set hx with h1 | h1
  ·exact hh x h1
  ·rw [h1]; exact hl b (by simp)
/-- a hash in memory. -/
def HAt (w : World) (hb : Nat) (h : HS) : Prop := w.heap[hb]? = some (.cells (hashC h.s h.hd (h.n : Int)) 253 (0, 0))
theorem hash_putb {s : List (BitVec 32)} {hd : List Nat} {n : Int} {k b : Nat} (hs : s.length = 8) (hk : k < hd.length) : (hashC s hd n).setIfInBounds (8 + k) (.int .u8 (b : Int)) = hashC s (hd.set k b) n := by
 unfold hashC
 rw [List.setIfInBounds_toArray]
 congr 1
 rw [List.append_assoc, List.append_assoc, List.set_append_right _ _ (by simp [hs])]
 congr 1
 rw [show 8 + k - (List.map (fun x => U x) s).length = k by simp [hs], List.set_append_left _ _ (by simpa using hk), List.map_set]
theorem hash_putn {s : List (BitVec 32)} {hd : List Nat} {n m : Int} (hs : s.length = 8) (hh : hd.length = 64) : (hashC s hd n).setIfInBounds 72 (.int .i64 m) = hashC s hd m := by
 unfold hashC
 rw [List.setIfInBounds_toArray]
 congr 1
 rw [List.set_append_right _ _ (by simp [hs, hh])]
 simp [hs, hh]
theorem hash_n {s : List (BitVec 32)} {hd : List Nat} {n : Int} (hs : s.length = 8) (hh : hd.length = 64) : (hashC s hd n)[72]? = some (.int .i64 n) := by
 unfold hashC
 simp [List.getElem?_append, hs, hh]
theorem hash_size {s : List (BitVec 32)} {hd : List Nat} {n : Int} (hs : s.length = 8) (hh : hd.length = 64) : (hashC s hd n).size = 73 := by unfold hashC; simp [hs, hh]
theorem hash_puts {hb : Nat} {s : List (BitVec 32)} {n : Int} (hs : s.length = 8) : ∀ (l : List Nat) (hd : List Nat) (i : Nat) (w : World), i + l.length ≤ hd.length → w.heap[hb]? = some (.cells (hashC s hd n) 253 (0, 0)) →
  (w.setCells hb (8 + i) (l.map fun (z : Nat) => Value.int .u8 (z : Int))).heap[hb]? = some (.cells (hashC s (putL hd i l) n) 253 (0, 0))
 | [], _, _, _, _, h => h
 | b :: l, hd, i, w, hl, h => by
  have hl' : i + (l.length + 1) ≤ hd.length := hl
  have := hash_puts hs l (hd.set i b) (i + 1) (w.setCell ⟨hb, 8 + i, none⟩ (.int .u8 (b : Int))) (by simp; omega) (by rw [← hash_putb hs (by omega)]; exact blk_set h _ _)
  exact this
end Go.Proofs.YtoimjnmhinfbkaaGreatDoor

namespace Go.Proofs.YtoimjnmhinfbkaaGreatDoor
open Go.RowKit
set_option maxRecDepth 100000
/-- the state, and: a slot whose writers are not listed yet is as it was. -/
structure FactsE (ops : Array Oper) (sl : Nat → Nat) (J : Array Bool → World → Prop) (R : Nat → Value → World → Prop) (a0 : Act) (L : Array Bool) (a : Act) (w : World) : Prop where
 base : Facts ops sl J R a0 L a w
 early : ∀ s, (∀ i, (ops[i]?).bind (·.dst) = some s → L.getD i false = false) → a.eval (.tmp s) = a0.eval (.tmp s)
/-- slot s is written by number j alone. -/
def onlyB (ops : Array Oper) (s j : Nat) : Bool := (List.range ops.size).all fun i => i == j || (ops[i]?).bind (·.dst) != some s
theorem early_of {ops : Array Oper} {s j : Nat} {L : Array Bool} (h : onlyB ops s j = true) (hL : L.getD j false = false) : ∀ i, (ops[i]?).bind (·.dst) = some s → L.getD i false = false := by
 intro i hi
 have hil : i < ops.size := by
  cases ho : ops[i]? with
  | none => rw [ho] at hi; cases hi
  | some o => exact (Array.getElem?_eq_some_iff.1 ho).1
 have h1 := List.all_eq_true.1 h i (by simpa using hil)
 simp only [Bool.or_eq_true, beq_iff_eq, bne_iff_ne] at h1
 rcases h1 with rfl | h1
 ·exact hL
 ·exact absurd hi h1
section
variable {P : Program} {md : Region.Mode} {ops : Array Oper} {Q : Exit → Act → World → Prop}
theorem any_madeE {sl : Nat → Nat} {J : Array Bool → World → Prop} {R : Nat → Value → World → Prop} (ht : topoB md ops = true) (hap : apartB md ops sl = true) (a0 : Act) (hsl : ∀ i d : Nat, (ops[i]?).bind (·.dst) = some d → d < a0.tmps.size)
  (hstep : ∀ i o, ops[i]? = some o → ∀ (L : Array Bool) a w, L.size = ops.size → L.getD i true = false → (∀ j, waits md ops i j = true → L.getD j false = true) → Downed md ops L → FactsE ops sl J R a0 L a w → wpOp P ops Q i (Made sl J R L i o a w) a w)
  (hdone : ∀ L a w, (∀ i, i < ops.size → L.getD i false = true) → FactsE ops sl J R a0 L a w → Q .normal a w) (w : World) (hJ : J (Array.replicate ops.size false) w) :
  wpAny P md ops Q ops.size (Array.replicate ops.size false) a0 w := by
 refine any_facts ht (FactsE ops sl J R a0) (fun i o ho L a w hs h1 hdep hd hst => ?_) hdone _ _ _ _ (by simp) (by rw [Array.toList_replicate, List.count_replicate_self]; exact Nat.le_refl _) (fun c i _ hc => by simp [Array.getD] at hc) ⟨⟨hJ, rfl, rfl, fun _ _ => rfl, fun i hi => by simp [Array.getD] at hi⟩, fun _ _ => rfl⟩
 have hil : i < ops.size := (Array.getElem?_eq_some_iff.1 ho).1
 refine wpOp_mono ?_ (hstep i o ho L a w hs h1 hdep hd hst)
 rintro a' w' ⟨v, rfl, hR, hR0, hJ', hk⟩
 obtain ⟨⟨-, g2, g3, g4, g5⟩, g6⟩ := hst
 have hod : (ops[i]?).bind (·.dst) = o.dst := by rw [ho]; rfl
 have hai := List.all_eq_true.1 hap i (by simpa using hil)
 rw [hod] at hai
 refine ⟨⟨hJ', ?_, ?_, fun s hs' => ?_, fun j hj => ?_⟩, fun s hs' => ?_⟩
 ·cases hd' : o.dst <;> exact g2
 ·rw [put_size]; exact g3
 ·have := List.all_eq_true.1 hs' i (by simpa using hil)
  rw [hod] at this
  cases hd' : o.dst with
  | none => exact g4 s hs'
  | some d =>
   rw [hd'] at this
   exact ev_ne (by simpa using this) (g4 s hs')
 ·by_cases hji : j = i
  ·subst hji
   cases hd' : o.dst with
   | none => exact hR0 hd'
   | some d =>
    rw [hd'] at hai
    simp only [Bool.and_eq_true, beq_iff_eq] at hai
    rw [hai.1]
    have he : (a.put (some d) v).eval (.tmp d) = v := ev_same (by rw [g3]; exact hsl j d (hod.trans hd'))
    rw [he]
    exact hR d hd'
  ·rw [getD_set_ne false (fun e => hji e.symm)] at hj
   have h5 := hk j hji hj _ (g5 j hj)
   cases hd' : o.dst with
   | none => exact h5
   | some d =>
    rw [hd'] at hai
    simp only [Bool.and_eq_true, beq_iff_eq] at hai
    have hjl : j < ops.size := by
     rw [← hs]
     rcases Nat.lt_or_ge j L.size with h | h
     ·exact h
     ·simp [Array.getD, Nat.not_lt.2 h] at hj
    have h6 := List.all_eq_true.1 hai.2 j (by simpa using hjl)
    simp only [Bool.or_eq_true, beq_iff_eq, bne_iff_ne] at h6
    rcases h6 with (h6 | h6) | h6
    ·exact absurd h6.symm hji
    ·have he : (a.put (some d) v).eval (.tmp (sl j)) = a.eval (.tmp (sl j)) := ev_ne (fun e => h6 e.symm) rfl
     rw [he]
     exact h5
    ·exfalso
     have h7 := hd j i h6 hj
     have hlt : i < L.size := by omega
     simp [Array.getD, hlt] at h1 h7
     rw [h1] at h7
     cases h7
 ·have hold : ∀ j, (ops[j]?).bind (·.dst) = some s → L.getD j false = false := fun j hj => by
   have := hs' j hj
   by_cases hji : j = i
   ·subst hji
    have hlt : j < L.size := by omega
    simp [Array.getD, hlt] at this
   ·rwa [getD_set_ne false (fun e => hji e.symm)] at this
  cases hd' : o.dst with
  | none => exact g6 s hold
  | some d =>
   have hne : d ≠ s := fun e => by
    have h1 := hs' i (by rw [hod, hd', e])
    have hlt : i < L.size := by omega
    simp [Array.getD, hlt] at h1
   exact ev_ne hne (g6 s hold)
end
/-- the form in which a region's law is used. -/
theorem region_madeE {id : Nat} {ops : Array Oper} {n : Nat} {sl : Nat → Nat} {J : Array Bool → World → Prop} {R : Nat → Value → World → Prop} {Q : Exit → Act → World → Prop} {a0 : Act} {w : World} (hn : ops.size = n) (ht : topoB .any ops = true) (hap : apartB .any ops sl = true)
  (hm : ops.all (fun o => match o.dst with | some d => decide (d < a0.tmps.size) | none => true) = true)
  (hstep : ∀ i, i < n → ∀ (L : Array Bool) a w, L.size = n → L.getD i true = false → (∀ j, waits .any ops i j = true → L.getD j false = true) → Downed .any ops L → FactsE ops sl J R a0 L a w → ops[i]? = some (opAt ops i) → wpOp Tryz.prog ops Q i (Made sl J R L i (opAt ops i) a w) a w)
  (hJ : J (Array.replicate n false) w.drew)
  (hdone : ∀ L a w, (∀ i, i < n → L.getD i false = true) → FactsE ops sl J R a0 L a w → Q .normal a w) : (Code.region id ops true).wp Tryz.prog Q a0 w := by
 subst hn
 refine wp_region_any (by kernel_rfl) (any_madeE ht hap a0 (fun i d h => ?_) (fun i o ho L a w hs h1 hdep hd hst => ?_) hdone _ hJ)
 ·cases ho : ops[i]? with
  | none => rw [ho] at h; cases h
  | some o =>
   rw [ho] at h
   have h1 := (Array.all_eq_true'.1 hm) o (Array.mem_of_getElem? ho)
   simp only [Option.bind_some] at h
   rw [h] at h1
   simpa using h1
 ·have hil : i < ops.size := (Array.getElem?_eq_some_iff.1 ho).1
  have e : o = opAt ops i := by unfold opAt; rw [Array.getD_eq_getD_getElem?, ho]; rfl
  subst e
  exact hstep i hil L a w hs h1 hdep hd hst ho
end Go.Proofs.YtoimjnmhinfbkaaGreatDoor
