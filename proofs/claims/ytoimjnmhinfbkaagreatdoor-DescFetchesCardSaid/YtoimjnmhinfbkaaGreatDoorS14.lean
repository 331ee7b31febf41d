import Derived.Laws.AppendOwnNone
import Derived.Test.YtoimjnmhinfbkaaGreatDoorS13
namespace Go.Proofs.YtoimjnmhinfbkaaGreatDoor
open Go.RowKit
set_option maxRecDepth 100000
def a8 (l : List (BitVec 32)) : Array Value := (l.map (fun x => U x) ++ List.replicate (8 - l.length) (U 0)).toArray
theorem a8_at {l : List (BitVec 32)} {o : Nat} (h : o < l.length) : (a8 l)[o]? = some (U (l.getD o 0)) := by
 unfold a8
 simp [List.getElem?_append, h, List.getD]
theorem a8_free {l : List (BitVec 32)} {o : Nat} (h : l.length ≤ o) (h2 : o < 8) : (a8 l)[o]? = some (U 0) := by
 unfold a8
 rw [List.getElem?_toArray, List.getElem?_append_right (by simpa using h), List.getElem?_replicate]
 simp; omega
theorem a8_push {l : List (BitVec 32)} (x : BitVec 32) (h : l.length < 8) : (a8 l).setIfInBounds l.length (U x) = a8 (l ++ [x]) := by
 unfold a8
 rw [List.setIfInBounds_toArray]
 congr 1
 rw [List.set_append_right _ _ (by simp)]
 obtain ⟨n, hn⟩ : ∃ n, 8 - l.length = n + 1 := ⟨7 - l.length, by omega⟩
 have hn2 : 8 - (l ++ [x]).length = n := by simp; omega
 rw [hn, hn2]
 simp [List.replicate_succ]
theorem a8_set {l : List (BitVec 32)} {k : Nat} (h : l.length = 8) (x : BitVec 32) : (a8 l).setIfInBounds k (U x) = a8 (l.set k x) := by
 unfold a8
 rw [List.setIfInBounds_toArray]
 congr 1
 simp [h, List.map_set]
theorem hu147 : Tryz.prog.underlying 147 = some (.array 32 5) := by kernel_rfl
theorem hi147 : (Tryz.prog.info? 147).map (·.size) = some 32 := by kernel_rfl
theorem built186 : Tryz.prog.built 186 [] = some (arr []) := by kernel_rfl
theorem built185 : Tryz.prog.built 185 [] = some (a8 []) := by kernel_rfl
theorem built147 : Tryz.prog.built 147 [] = some (arrB []) := by kernel_rfl
theorem hi185 : (Tryz.prog.info? 185).map (·.size) = some 8 := by kernel_rfl
theorem a8_size {l : List (BitVec 32)} (h : l.length ≤ 8) : (a8 l).size = 8 := by unfold a8; simp; omega
theorem a8_ones (l : List (BitVec 32)) : (a8 l).all (·.oneCell') = true := by
 unfold a8
 refine all_ones _ fun v hv => ?_
 rcases List.mem_append.1 hv with h | h
 ·obtain ⟨x, -, rfl⟩ := List.mem_map.1 h; rfl
 ·rw [(List.mem_replicate.1 h).2]; rfl
/-- a row of words in a world: cells, not frozen. -/
theorem arr_cell {w : World} {b : Nat} {l : List (BitVec 32)} (h : w.heap[b]? = some (.cells (arr l) 186 (0, 0))) {k : Nat} (hk : k < l.length) : w.cell? ⟨b, k, none⟩ = some (U (l.getD k 0)) := (cell_of_row w b k _ 186 (0, 0) h).trans (arr_at hk)
theorem a8_cell {w : World} {b : Nat} {l : List (BitVec 32)} (h : w.heap[b]? = some (.cells (a8 l) 185 (0, 0))) {k : Nat} (hk : k < l.length) : w.cell? ⟨b, k, none⟩ = some (U (l.getD k 0)) := (cell_of_row w b k _ 185 (0, 0) h).trans (a8_at hk)
theorem froz {w : World} {b t : Nat} {c : Array Value} (h : w.heap[b]? = some (.cells c t (0, 0))) (k : Nat) : w.frozen? ⟨b, k, none⟩ = false := by simp [World.frozen?, h]
section
variable {ρ : Operand → Value} {w : World} {o : Oper} {x y : Operand}
theorem run_build0 (t : TypeId) {c : Array Value} (hb : Tryz.prog.built t [] = some c) (ho : o.op = .build t #[]) : (execOp ρ o).run Tryz.prog w = .ok (.value (.agg c)) w := by
 unfold execOp
 simp only [ho, Sem.run_bind, List.map_toArray, List.map_nil, Result.andThen_ok, run_build w t #[] c hb]
 rfl
theorem run_alloc186 {X : Nat} (hX : w.heap.size = X) (ho : o.op = .alloc 186) : (execOp ρ o).run Tryz.prog w = .ok (.value (.pointer (some ⟨X, 0, none⟩))) (w.alloc (.cells (arr []) 186)) := by
 subst hX; unfold execOp; rw [ho]; go_simp; rfl
theorem run_alloc185 {X : Nat} (hX : w.heap.size = X) (ho : o.op = .alloc 185) : (execOp ρ o).run Tryz.prog w = .ok (.value (.pointer (some ⟨X, 0, none⟩))) (w.alloc (.cells (a8 []) 185)) := by
 subst hX; unfold execOp; rw [ho]; go_simp; rfl
theorem run_alloc147 {X : Nat} (hX : w.heap.size = X) (ho : o.op = .alloc 147) : (execOp ρ o).run Tryz.prog w = .ok (.value (.pointer (some ⟨X, 0, none⟩))) (w.alloc (.cells (arrB []) 147)) := by
 subst hX; unfold execOp; rw [ho]; go_simp; rfl
theorem run_storeW {X t n : Nat} {c : Array Value} (hn : c.size = n) (hi : (Tryz.prog.info? t).map (·.size) = some n) (h11 : c.all (·.oneCell') = true) (hX : w.heap.size = X) (ho : o.op = .store t x y) (h1 : ρ x = .pointer (some ⟨X, 0, none⟩)) (h2 : ρ y = .agg c) : (execOp ρ o).run Tryz.prog (w.alloc (.cells c t)) = .ok .skip ((w.alloc (.cells c t)).setCells X 0 c.toList) := by
 unfold execOp
 simp only [ho, h1, h2, Sem.run_bind, run_storeAt_mid (P := Tryz.prog) (w.alloc (.cells c t)) X 0 t c (there_of_heap (alloc_at hX.symm) rfl) (by rw [hn]; exact hi) h11, Result.andThen_ok]
 rfl
end
theorem cell_below {w w' : World} {p : Addr} {v : Value} (hb : Below w.heap.size w w') (hc : w.cell? p = some v) : w'.cell? p = some v := (hb.cell (World.block_lt_of_cell? w _ hc)).trans hc
theorem wpList_append_own_opt {P : Program} {w : World} {ops : Array Oper} {rest : List Oper} {o : Oper} {a : Act} {Q : Exit → Act → World → Prop} (hgd : o.guard = none) (s x : Operand) (t : TypeId)
  (ho : o.op = .call { callee := .builtin .append, args := #[s, x], argTypes := #[t, t] })
  (base : Nat) (e : TypeId) (i : TypeInfo) (z : Value) (size bytes : Nat) (ht : P.underlying t = some (.slice e)) (hi : P.info? e = some i) (hz : i.zero = some z)
  (hsize : i.size = size) (hby : i.bytes = bytes) (hzs : z.cells.size = size) (hsz : 0 < size)
  (v : Value) (n : Nat) (xs : List Value) (hs : a.eval s = v) (hown : w.ownsRow base e size v n xs)
  (A : Option Addr) (m c : Nat) (news : List Value) (hx : a.eval x = .slice A m c) (hnil : A = none → m = 0 ∧ c = 0) (hl : news.length = m * size) (hnews : ∀ ad, A = some ad → ∀ j u, news[j]? = some u → w.cell? (ad.add j) = some u) (h1 : ∀ u ∈ news, u.oneCell' = true)
  (h63 : n + m ≤ maxLen) (hbytes : (n + m) * bytes ≤ 140737488355328) (hbase : base ≤ w.heap.size)
  (h : ∀ v' w', w'.ownsRow base e size v' (n + m) (xs ++ news) → (w' = w ∨ w.grownBy w' v.ownBlock) → wpList P ops Q rest (a.put o.dst v') w') : wpList P ops Q (o :: rest) a w := by
 cases A with
 | none =>
  obtain ⟨rfl, rfl⟩ := hnil rfl
  have hn : news = [] := List.eq_nil_of_length_eq_zero (by rw [hl, Nat.zero_mul])
  subst hn
  exact wpList_append_own_none hgd s x t ho base e i size ht hi v n xs hs hown hx (h v w (by rw [List.append_nil]; exact hown) (.inl rfl))
 | some ad => exact wpList_append_own w hgd s x t ho base e i z size bytes ht hi hz hsize hby hzs hsz v n xs hs hown ad m c news hx hl (hnews ad rfl) h1 h63 hbytes hbase fun v' w' h2 h3 _ => h v' w' h2 (.inr h3)
/-- a new block, written over by itself. -/
structure NewB (X t : Nat) (c : Array Value) (w w' : World) : Prop where
 at' : w'.heap[X]? = some (.cells c t (0, 0))
 old : ∀ b, b < X → w'.heap[b]? = w.heap[b]?
 size : w'.heap.size = X + 1
 below : Below X w w'
theorem newB {X t : Nat} {c : Array Value} {w : World} (hX : w.heap.size = X) : NewB X t c w ((w.alloc (.cells c t)).setCells X 0 c.toList) where
 at' := setCells_whole (alloc_at hX.symm) rfl
 old := fun b hb => (setCells_block _ _ _ _ _ (by omega)).trans (alloc_before (by omega))
 size := by rw [setCells_size, alloc_size1, hX]
 below := setCells_below _ (Nat.le_refl _) _ _ (by subst hX; exact (Below.refl _ _).alloc (Nat.le_refl _) _)
noncomputable def ops86_2 : Array Oper := (Tryz.f86.body.bind (inCode 2)).getD #[]
def sl86_2 : Nat → Nat
 | 0 => 32
 | 1 => 4
 | 2 => 1000001
 | _ => 0
def R86_2 (X : Nat) : Nat → Value → World → Prop
 | 0, v, _ => v = .agg (a8 [])
 | 1, v, _ => v = .pointer (some ⟨X, 0, none⟩)
 | 2, v, _ => True
 | _, _, _ => True
def J86_2 (W0 : World) (X : Nat) (L : Array Bool) (w : World) : Prop := (L.getD 1 false = false → w = W0) ∧ (L.getD 1 false = true → L.getD 2 false = false → w = W0.alloc (.cells (a8 []) 185)) ∧ (L.getD 2 false = true → w = (W0.alloc (.cells (a8 []) 185)).setCells X 0 (a8 []).toList)
theorem J86_2_any {W0 : World} {X : Nat} {L : Array Bool} {w : World} (i : Nat) (hi : i ≠ 1 ∧ i ≠ 2) (h : J86_2 W0 X L w) : J86_2 W0 X (L.setIfInBounds i true) w := by
 obtain ⟨h0, h1, h2⟩ := h
 exact ⟨fun h => h0 (unset h), fun h g => h1 (set_ne (by omega) h) (unset g), fun h => h2 (set_ne (by omega) h)⟩
set_option maxHeartbeats 3200000 in
theorem reg86_2 {ops : Array Oper} (ho : ops = ops86_2) {Q : Exit → Act → World → Prop} {a0 : Act} {w0 W0 : World} (hW : w0 = W0) {X : Nat} (hX : W0.heap.size = X)  (hsz : a0.tmps.size = 287)
  (HK : ∀ a, a.defers = a0.defers → a.tmps.size = 287 → (∀ s, freeB ops86_2 s = true → a.eval (.tmp s) = a0.eval (.tmp s)) → (∀ i, i < 3 → R86_2 X i (a.eval (.tmp (sl86_2 i))) ((W0.alloc (.cells (a8 []) 185)).setCells X 0 (a8 []).toList)) → Q .normal a ((W0.alloc (.cells (a8 []) 185)).setCells X 0 (a8 []).toList)) : (Code.region 2 ops false).wp Tryz.prog Q a0 w0 := by
 subst ho
 refine region_made_seq (n := 3) (sl := sl86_2) (J := J86_2 W0 X) (R := R86_2 X) (by kernel_rfl) (by kernel_rfl) (by kernel_rfl) (by rw [hsz]; kernel_rfl) ?_ (by rw [hW]; exact ⟨fun _ => rfl, fun h => by simp [Array.getD] at h, fun h => by simp [Array.getD] at h⟩) (fun L a w hall hf => ?_)
 rotate_left
 ·have hw1 : w = (W0.alloc (.cells (a8 []) 185)).setCells X 0 (a8 []).toList := hf.world.2.2 (hall 2 (by decide))
  subst w
  exact HK a hf.defers (hf.size.trans hsz) hf.rest (fun i hi => hf.got i (hall i hi))
 intro i hi L a w hs h1 hdep hd hst ho
 clear HK
 match i, hi, h1, hdep, ho with
 | 0, _, h1, hdep, ho =>
   have JJ := J86_2_any 0 (by decide) hst.world
   have hr : (execOp a.eval (opAt ops86_2 0)).run Tryz.prog w = .ok (.value (.agg (a8 []))) w := run_build0 185 built185 (show (opAt ops86_2 0).op = .build 185 #[] from (by kernel_rfl))
   exact op_value ho (by kernel_rfl) hr (made_val (d := 32) (by kernel_rfl) rfl JJ (fun _ _ _ _ h => h))
 | 1, _, h1, hdep, ho =>
   have hw : w = W0 := hst.world.1 (unl h1)
   obtain rfl : W0 = w := hw.symm
   have hr : (execOp a.eval (opAt ops86_2 1)).run Tryz.prog (W0) = .ok (.value (.pointer (some ⟨X, 0, none⟩))) (W0.alloc (.cells (a8 []) 185)) := run_alloc185 hX (show (opAt ops86_2 1).op = .alloc 185 from (by kernel_rfl))
   refine op_value ho (by kernel_rfl) hr (made_val (d := 4) (by kernel_rfl) rfl ⟨fun h => by (rw [set_same (by rw [hs]; decide)] at h; cases h), fun _ _ => rfl, fun h => by (rw [getD_set_ne false (by decide)] at h; rw [unlisted hs hd h1 (show waits .any ops86_2 2 1 = true from (by kernel_rfl))] at h; cases h)⟩ (fun j _ _ u h => ?_))
   match j, h with
   | 0, h => exact (show _ = _ from h)
   | 1, h => exact (show _ = _ from h)
   | 2, h => exact (show True from h)
   | _ + 3, _ => exact trivial
 | 2, _, h1, hdep, ho =>
   have hw : w = W0.alloc (.cells (a8 []) 185) := hst.world.2.1 (hdep 1 (by kernel_rfl)) (unl h1)
   subst w
   have g1 : a.eval (.tmp 4) = .pointer (some ⟨X, 0, none⟩) := hst.got 1 (hdep 1 (by kernel_rfl))
   have g0 : a.eval (.tmp 32) = .agg (a8 []) := hst.got 0 (hdep 0 (by kernel_rfl))
   have hr : (execOp a.eval (opAt ops86_2 2)).run Tryz.prog (W0.alloc (.cells (a8 []) 185)) = .ok .skip ((W0.alloc (.cells (a8 []) 185)).setCells X 0 (a8 []).toList) := run_storeW (a8_size (by simp)) hi185 (a8_ones _) hX (show (opAt ops86_2 2).op = .store 185 (.tmp 4) (.tmp 32) from (by kernel_rfl)) g1 g0
   refine op_skip ho (by kernel_rfl) hr (made_skip (by kernel_rfl) trivial ⟨fun h => by (rw [getD_set_ne false (by decide)] at h; rw [hdep 1 (by kernel_rfl)] at h; cases h), fun _ h => by (rw [set_same (by rw [hs]; decide)] at h; cases h), fun _ => rfl⟩ (fun j _ _ u h => ?_))
   match j, h with
   | 0, h => exact (show _ = _ from h)
   | 1, h => exact (show _ = _ from h)
   | 2, h => exact (show True from h)
   | _ + 3, _ => exact trivial
 | k + 3, hi, _, _, _ => exact absurd hi (by omega)
set_option maxHeartbeats 3200000 in
theorem turn86_2 {x0 x1 x2 x3 x4 x5 x6 x7 x8 x9 x10 x11 x12 x13 x14 x15 x16 x17 x18 x19 x20 x21 x22 x23 x24 x25 x26 x27 x28 x29 x30 x31 x32 x33 x34 x35 x36 x37 x38 x39 x40 x41 x42 x43 x44 x45 x46 x47 x48 x49 x50 x51 x52 x53 x54 x55 x56 x57 x58 x59 x60 x61 x62 x63 x64 x65 x66 x67 x68 x69 x70 x71 x72 x73 x74 x75 x76 x77 x78 x79 x80 x81 x82 x83 x84 x85 x86 x87 x88 x89 x90 x91 x92 x93 x94 x95 x96 x97 x98 x99 x100 x101 x102 x103 x104 x105 x106 x107 x108 x109 x110 x111 x112 x113 x114 x115 x116 x117 x118 x119 x120 x121 x122 x123 x124 x125 x126 x127 x128 x129 x130 x131 x132 x133 x134 x135 x136 x137 x138 x139 x140 x141 x142 x143 x144 x145 x146 x147 x148 x149 x150 x151 x152 x153 x154 x155 x156 x157 x158 x159 x160 x161 x162 x163 x164 x165 x166 x167 x168 x169 x170 x171 x172 x173 x174 x175 x176 x177 x178 x179 x180 x181 x182 x183 x184 x185 x186 x187 x188 x189 x190 x191 x192 x193 x194 x195 x196 x197 x198 x199 x200 x201 x202 x203 x204 x205 x206 x207 x208 x209 x210 x211 x212 x213 x214 x215 x216 x217 x218 x219 x220 x221 x222 x223 x224 x225 x226 x227 x228 x229 x230 x231 x232 x233 x234 x235 x236 x237 x238 x239 x240 x241 x242 x243 x244 x245 x246 x247 x248 x249 x250 x251 x252 x253 x254 x255 x256 x257 x258 x259 x260 x261 x262 x263 x264 x265 x266 x267 x268 x269 x270 x271 x272 x273 x274 x275 x276 x277 x278 x279 x280 x281 x282 x283 x284 x285 x286 z4 z32 : Value} {D : _} {a : Act} (hl : Left 287 ops86_2 a (Act.mk #[x0, x1, x2, x3, x4, x5, x6, x7, x8, x9, x10, x11, x12, x13, x14, x15, x16, x17, x18, x19, x20, x21, x22, x23, x24, x25, x26, x27, x28, x29, x30, x31, x32, x33, x34, x35, x36, x37, x38, x39, x40, x41, x42, x43, x44, x45, x46, x47, x48, x49, x50, x51, x52, x53, x54, x55, x56, x57, x58, x59, x60, x61, x62, x63, x64, x65, x66, x67, x68, x69, x70, x71, x72, x73, x74, x75, x76, x77, x78, x79, x80, x81, x82, x83, x84, x85, x86, x87, x88, x89, x90, x91, x92, x93, x94, x95, x96, x97, x98, x99, x100, x101, x102, x103, x104, x105, x106, x107, x108, x109, x110, x111, x112, x113, x114, x115, x116, x117, x118, x119, x120, x121, x122, x123, x124, x125, x126, x127, x128, x129, x130, x131, x132, x133, x134, x135, x136, x137, x138, x139, x140, x141, x142, x143, x144, x145, x146, x147, x148, x149, x150, x151, x152, x153, x154, x155, x156, x157, x158, x159, x160, x161, x162, x163, x164, x165, x166, x167, x168, x169, x170, x171, x172, x173, x174, x175, x176, x177, x178, x179, x180, x181, x182, x183, x184, x185, x186, x187, x188, x189, x190, x191, x192, x193, x194, x195, x196, x197, x198, x199, x200, x201, x202, x203, x204, x205, x206, x207, x208, x209, x210, x211, x212, x213, x214, x215, x216, x217, x218, x219, x220, x221, x222, x223, x224, x225, x226, x227, x228, x229, x230, x231, x232, x233, x234, x235, x236, x237, x238, x239, x240, x241, x242, x243, x244, x245, x246, x247, x248, x249, x250, x251, x252, x253, x254, x255, x256, x257, x258, x259, x260, x261, x262, x263, x264, x265, x266, x267, x268, x269, x270, x271, x272, x273, x274, x275, x276, x277, x278, x279, x280, x281, x282, x283, x284, x285, x286] D)) (h4 : a.eval (.tmp 4) = z4) (h32 : a.eval (.tmp 32) = z32) : a = ⟨#[x0, x1, x2, x3, z4, x5, x6, x7, x8, x9, x10, x11, x12, x13, x14, x15, x16, x17, x18, x19, x20, x21, x22, x23, x24, x25, x26, x27, x28, x29, x30, x31, z32, x33, x34, x35, x36, x37, x38, x39, x40, x41, x42, x43, x44, x45, x46, x47, x48, x49, x50, x51, x52, x53, x54, x55, x56, x57, x58, x59, x60, x61, x62, x63, x64, x65, x66, x67, x68, x69, x70, x71, x72, x73, x74, x75, x76, x77, x78, x79, x80, x81, x82, x83, x84, x85, x86, x87, x88, x89, x90, x91, x92, x93, x94, x95, x96, x97, x98, x99, x100, x101, x102, x103, x104, x105, x106, x107, x108, x109, x110, x111, x112, x113, x114, x115, x116, x117, x118, x119, x120, x121, x122, x123, x124, x125, x126, x127, x128, x129, x130, x131, x132, x133, x134, x135, x136, x137, x138, x139, x140, x141, x142, x143, x144, x145, x146, x147, x148, x149, x150, x151, x152, x153, x154, x155, x156, x157, x158, x159, x160, x161, x162, x163, x164, x165, x166, x167, x168, x169, x170, x171, x172, x173, x174, x175, x176, x177, x178, x179, x180, x181, x182, x183, x184, x185, x186, x187, x188, x189, x190, x191, x192, x193, x194, x195, x196, x197, x198, x199, x200, x201, x202, x203, x204, x205, x206, x207, x208, x209, x210, x211, x212, x213, x214, x215, x216, x217, x218, x219, x220, x221, x222, x223, x224, x225, x226, x227, x228, x229, x230, x231, x232, x233, x234, x235, x236, x237, x238, x239, x240, x241, x242, x243, x244, x245, x246, x247, x248, x249, x250, x251, x252, x253, x254, x255, x256, x257, x258, x259, x260, x261, x262, x263, x264, x265, x266, x267, x268, x269, x270, x271, x272, x273, x274, x275, x276, x277, x278, x279, x280, x281, x282, x283, x284, x285, x286], D⟩ := by
 subst h4
 subst h32
 exact (turn_gen [4, 32] (by kernel_rfl) (by kernel_rfl) hl.1 hl.2.1 hl.2.2).trans (by kernel_rfl)
noncomputable def ops86_3 : Array Oper := (Tryz.f86.body.bind (inCode 3)).getD #[]
def sl86_3 : Nat → Nat
 | 0 => 33
 | 1 => 5
 | 2 => 1000001
 | _ => 0
def R86_3 (X : Nat) : Nat → Value → World → Prop
 | 0, v, _ => v = .agg (arr [])
 | 1, v, _ => v = .pointer (some ⟨X, 0, none⟩)
 | 2, v, _ => True
 | _, _, _ => True
def J86_3 (W0 : World) (X : Nat) (L : Array Bool) (w : World) : Prop := (L.getD 1 false = false → w = W0) ∧ (L.getD 1 false = true → L.getD 2 false = false → w = W0.alloc (.cells (arr []) 186)) ∧ (L.getD 2 false = true → w = (W0.alloc (.cells (arr []) 186)).setCells X 0 (arr []).toList)
theorem J86_3_any {W0 : World} {X : Nat} {L : Array Bool} {w : World} (i : Nat) (hi : i ≠ 1 ∧ i ≠ 2) (h : J86_3 W0 X L w) : J86_3 W0 X (L.setIfInBounds i true) w := by
 obtain ⟨h0, h1, h2⟩ := h
 exact ⟨fun h => h0 (unset h), fun h g => h1 (set_ne (by omega) h) (unset g), fun h => h2 (set_ne (by omega) h)⟩
set_option maxHeartbeats 3200000 in
theorem reg86_3 {ops : Array Oper} (ho : ops = ops86_3) {Q : Exit → Act → World → Prop} {a0 : Act} {w0 W0 : World} (hW : w0 = W0) {X : Nat} (hX : W0.heap.size = X)  (hsz : a0.tmps.size = 287)
  (HK : ∀ a, a.defers = a0.defers → a.tmps.size = 287 → (∀ s, freeB ops86_3 s = true → a.eval (.tmp s) = a0.eval (.tmp s)) → (∀ i, i < 3 → R86_3 X i (a.eval (.tmp (sl86_3 i))) ((W0.alloc (.cells (arr []) 186)).setCells X 0 (arr []).toList)) → Q .normal a ((W0.alloc (.cells (arr []) 186)).setCells X 0 (arr []).toList)) : (Code.region 3 ops false).wp Tryz.prog Q a0 w0 := by
 subst ho
 refine region_made_seq (n := 3) (sl := sl86_3) (J := J86_3 W0 X) (R := R86_3 X) (by kernel_rfl) (by kernel_rfl) (by kernel_rfl) (by rw [hsz]; kernel_rfl) ?_ (by rw [hW]; exact ⟨fun _ => rfl, fun h => by simp [Array.getD] at h, fun h => by simp [Array.getD] at h⟩) (fun L a w hall hf => ?_)
 rotate_left
 ·have hw1 : w = (W0.alloc (.cells (arr []) 186)).setCells X 0 (arr []).toList := hf.world.2.2 (hall 2 (by decide))
  subst w
  exact HK a hf.defers (hf.size.trans hsz) hf.rest (fun i hi => hf.got i (hall i hi))
 intro i hi L a w hs h1 hdep hd hst ho
 clear HK
 match i, hi, h1, hdep, ho with
 | 0, _, h1, hdep, ho =>
   have JJ := J86_3_any 0 (by decide) hst.world
   have hr : (execOp a.eval (opAt ops86_3 0)).run Tryz.prog w = .ok (.value (.agg (arr []))) w := run_build0 186 built186 (show (opAt ops86_3 0).op = .build 186 #[] from (by kernel_rfl))
   exact op_value ho (by kernel_rfl) hr (made_val (d := 33) (by kernel_rfl) rfl JJ (fun _ _ _ _ h => h))
 | 1, _, h1, hdep, ho =>
   have hw : w = W0 := hst.world.1 (unl h1)
   obtain rfl : W0 = w := hw.symm
   have hr : (execOp a.eval (opAt ops86_3 1)).run Tryz.prog (W0) = .ok (.value (.pointer (some ⟨X, 0, none⟩))) (W0.alloc (.cells (arr []) 186)) := run_alloc186 hX (show (opAt ops86_3 1).op = .alloc 186 from (by kernel_rfl))
   refine op_value ho (by kernel_rfl) hr (made_val (d := 5) (by kernel_rfl) rfl ⟨fun h => by (rw [set_same (by rw [hs]; decide)] at h; cases h), fun _ _ => rfl, fun h => by (rw [getD_set_ne false (by decide)] at h; rw [unlisted hs hd h1 (show waits .any ops86_3 2 1 = true from (by kernel_rfl))] at h; cases h)⟩ (fun j _ _ u h => ?_))
   match j, h with
   | 0, h => exact (show _ = _ from h)
   | 1, h => exact (show _ = _ from h)
   | 2, h => exact (show True from h)
   | _ + 3, _ => exact trivial
 | 2, _, h1, hdep, ho =>
   have hw : w = W0.alloc (.cells (arr []) 186) := hst.world.2.1 (hdep 1 (by kernel_rfl)) (unl h1)
   subst w
   have g1 : a.eval (.tmp 5) = .pointer (some ⟨X, 0, none⟩) := hst.got 1 (hdep 1 (by kernel_rfl))
   have g0 : a.eval (.tmp 33) = .agg (arr []) := hst.got 0 (hdep 0 (by kernel_rfl))
   have hr : (execOp a.eval (opAt ops86_3 2)).run Tryz.prog (W0.alloc (.cells (arr []) 186)) = .ok .skip ((W0.alloc (.cells (arr []) 186)).setCells X 0 (arr []).toList) := run_storeW (arr_size _ (by simp)) hi186 (arr_ones _) hX (show (opAt ops86_3 2).op = .store 186 (.tmp 5) (.tmp 33) from (by kernel_rfl)) g1 g0
   refine op_skip ho (by kernel_rfl) hr (made_skip (by kernel_rfl) trivial ⟨fun h => by (rw [getD_set_ne false (by decide)] at h; rw [hdep 1 (by kernel_rfl)] at h; cases h), fun _ h => by (rw [set_same (by rw [hs]; decide)] at h; cases h), fun _ => rfl⟩ (fun j _ _ u h => ?_))
   match j, h with
   | 0, h => exact (show _ = _ from h)
   | 1, h => exact (show _ = _ from h)
   | 2, h => exact (show True from h)
   | _ + 3, _ => exact trivial
 | k + 3, hi, _, _, _ => exact absurd hi (by omega)
set_option maxHeartbeats 3200000 in
theorem turn86_3 {x0 x1 x2 x3 x4 x5 x6 x7 x8 x9 x10 x11 x12 x13 x14 x15 x16 x17 x18 x19 x20 x21 x22 x23 x24 x25 x26 x27 x28 x29 x30 x31 x32 x33 x34 x35 x36 x37 x38 x39 x40 x41 x42 x43 x44 x45 x46 x47 x48 x49 x50 x51 x52 x53 x54 x55 x56 x57 x58 x59 x60 x61 x62 x63 x64 x65 x66 x67 x68 x69 x70 x71 x72 x73 x74 x75 x76 x77 x78 x79 x80 x81 x82 x83 x84 x85 x86 x87 x88 x89 x90 x91 x92 x93 x94 x95 x96 x97 x98 x99 x100 x101 x102 x103 x104 x105 x106 x107 x108 x109 x110 x111 x112 x113 x114 x115 x116 x117 x118 x119 x120 x121 x122 x123 x124 x125 x126 x127 x128 x129 x130 x131 x132 x133 x134 x135 x136 x137 x138 x139 x140 x141 x142 x143 x144 x145 x146 x147 x148 x149 x150 x151 x152 x153 x154 x155 x156 x157 x158 x159 x160 x161 x162 x163 x164 x165 x166 x167 x168 x169 x170 x171 x172 x173 x174 x175 x176 x177 x178 x179 x180 x181 x182 x183 x184 x185 x186 x187 x188 x189 x190 x191 x192 x193 x194 x195 x196 x197 x198 x199 x200 x201 x202 x203 x204 x205 x206 x207 x208 x209 x210 x211 x212 x213 x214 x215 x216 x217 x218 x219 x220 x221 x222 x223 x224 x225 x226 x227 x228 x229 x230 x231 x232 x233 x234 x235 x236 x237 x238 x239 x240 x241 x242 x243 x244 x245 x246 x247 x248 x249 x250 x251 x252 x253 x254 x255 x256 x257 x258 x259 x260 x261 x262 x263 x264 x265 x266 x267 x268 x269 x270 x271 x272 x273 x274 x275 x276 x277 x278 x279 x280 x281 x282 x283 x284 x285 x286 z5 z33 : Value} {D : _} {a : Act} (hl : Left 287 ops86_3 a (Act.mk #[x0, x1, x2, x3, x4, x5, x6, x7, x8, x9, x10, x11, x12, x13, x14, x15, x16, x17, x18, x19, x20, x21, x22, x23, x24, x25, x26, x27, x28, x29, x30, x31, x32, x33, x34, x35, x36, x37, x38, x39, x40, x41, x42, x43, x44, x45, x46, x47, x48, x49, x50, x51, x52, x53, x54, x55, x56, x57, x58, x59, x60, x61, x62, x63, x64, x65, x66, x67, x68, x69, x70, x71, x72, x73, x74, x75, x76, x77, x78, x79, x80, x81, x82, x83, x84, x85, x86, x87, x88, x89, x90, x91, x92, x93, x94, x95, x96, x97, x98, x99, x100, x101, x102, x103, x104, x105, x106, x107, x108, x109, x110, x111, x112, x113, x114, x115, x116, x117, x118, x119, x120, x121, x122, x123, x124, x125, x126, x127, x128, x129, x130, x131, x132, x133, x134, x135, x136, x137, x138, x139, x140, x141, x142, x143, x144, x145, x146, x147, x148, x149, x150, x151, x152, x153, x154, x155, x156, x157, x158, x159, x160, x161, x162, x163, x164, x165, x166, x167, x168, x169, x170, x171, x172, x173, x174, x175, x176, x177, x178, x179, x180, x181, x182, x183, x184, x185, x186, x187, x188, x189, x190, x191, x192, x193, x194, x195, x196, x197, x198, x199, x200, x201, x202, x203, x204, x205, x206, x207, x208, x209, x210, x211, x212, x213, x214, x215, x216, x217, x218, x219, x220, x221, x222, x223, x224, x225, x226, x227, x228, x229, x230, x231, x232, x233, x234, x235, x236, x237, x238, x239, x240, x241, x242, x243, x244, x245, x246, x247, x248, x249, x250, x251, x252, x253, x254, x255, x256, x257, x258, x259, x260, x261, x262, x263, x264, x265, x266, x267, x268, x269, x270, x271, x272, x273, x274, x275, x276, x277, x278, x279, x280, x281, x282, x283, x284, x285, x286] D)) (h5 : a.eval (.tmp 5) = z5) (h33 : a.eval (.tmp 33) = z33) : a = ⟨#[x0, x1, x2, x3, x4, z5, x6, x7, x8, x9, x10, x11, x12, x13, x14, x15, x16, x17, x18, x19, x20, x21, x22, x23, x24, x25, x26, x27, x28, x29, x30, x31, x32, z33, x34, x35, x36, x37, x38, x39, x40, x41, x42, x43, x44, x45, x46, x47, x48, x49, x50, x51, x52, x53, x54, x55, x56, x57, x58, x59, x60, x61, x62, x63, x64, x65, x66, x67, x68, x69, x70, x71, x72, x73, x74, x75, x76, x77, x78, x79, x80, x81, x82, x83, x84, x85, x86, x87, x88, x89, x90, x91, x92, x93, x94, x95, x96, x97, x98, x99, x100, x101, x102, x103, x104, x105, x106, x107, x108, x109, x110, x111, x112, x113, x114, x115, x116, x117, x118, x119, x120, x121, x122, x123, x124, x125, x126, x127, x128, x129, x130, x131, x132, x133, x134, x135, x136, x137, x138, x139, x140, x141, x142, x143, x144, x145, x146, x147, x148, x149, x150, x151, x152, x153, x154, x155, x156, x157, x158, x159, x160, x161, x162, x163, x164, x165, x166, x167, x168, x169, x170, x171, x172, x173, x174, x175, x176, x177, x178, x179, x180, x181, x182, x183, x184, x185, x186, x187, x188, x189, x190, x191, x192, x193, x194, x195, x196, x197, x198, x199, x200, x201, x202, x203, x204, x205, x206, x207, x208, x209, x210, x211, x212, x213, x214, x215, x216, x217, x218, x219, x220, x221, x222, x223, x224, x225, x226, x227, x228, x229, x230, x231, x232, x233, x234, x235, x236, x237, x238, x239, x240, x241, x242, x243, x244, x245, x246, x247, x248, x249, x250, x251, x252, x253, x254, x255, x256, x257, x258, x259, x260, x261, x262, x263, x264, x265, x266, x267, x268, x269, x270, x271, x272, x273, x274, x275, x276, x277, x278, x279, x280, x281, x282, x283, x284, x285, x286], D⟩ := by
 subst h5
 subst h33
 exact (turn_gen [5, 33] (by kernel_rfl) (by kernel_rfl) hl.1 hl.2.1 hl.2.2).trans (by kernel_rfl)
noncomputable def ops86_22 : Array Oper := (Tryz.f86.body.bind (inCode 22)).getD #[]
def sl86_22 : Nat → Nat
 | 0 => 90
 | 1 => 11
 | 2 => 1000001
 | _ => 0
def R86_22 (X : Nat) : Nat → Value → World → Prop
 | 0, v, _ => v = .agg (arr [])
 | 1, v, _ => v = .pointer (some ⟨X, 0, none⟩)
 | 2, v, _ => True
 | _, _, _ => True
def J86_22 (W0 : World) (X : Nat) (L : Array Bool) (w : World) : Prop := (L.getD 1 false = false → w = W0) ∧ (L.getD 1 false = true → L.getD 2 false = false → w = W0.alloc (.cells (arr []) 186)) ∧ (L.getD 2 false = true → w = (W0.alloc (.cells (arr []) 186)).setCells X 0 (arr []).toList)
theorem J86_22_any {W0 : World} {X : Nat} {L : Array Bool} {w : World} (i : Nat) (hi : i ≠ 1 ∧ i ≠ 2) (h : J86_22 W0 X L w) : J86_22 W0 X (L.setIfInBounds i true) w := by
 obtain ⟨h0, h1, h2⟩ := h
 exact ⟨fun h => h0 (unset h), fun h g => h1 (set_ne (by omega) h) (unset g), fun h => h2 (set_ne (by omega) h)⟩
set_option maxHeartbeats 3200000 in
theorem reg86_22 {ops : Array Oper} (ho : ops = ops86_22) {Q : Exit → Act → World → Prop} {a0 : Act} {w0 W0 : World} (hW : w0 = W0) {X : Nat} (hX : W0.heap.size = X)  (hsz : a0.tmps.size = 287)
  (HK : ∀ a, a.defers = a0.defers → a.tmps.size = 287 → (∀ s, freeB ops86_22 s = true → a.eval (.tmp s) = a0.eval (.tmp s)) → (∀ i, i < 3 → R86_22 X i (a.eval (.tmp (sl86_22 i))) ((W0.alloc (.cells (arr []) 186)).setCells X 0 (arr []).toList)) → Q .normal a ((W0.alloc (.cells (arr []) 186)).setCells X 0 (arr []).toList)) : (Code.region 22 ops false).wp Tryz.prog Q a0 w0 := by
 subst ho
 refine region_made_seq (n := 3) (sl := sl86_22) (J := J86_22 W0 X) (R := R86_22 X) (by kernel_rfl) (by kernel_rfl) (by kernel_rfl) (by rw [hsz]; kernel_rfl) ?_ (by rw [hW]; exact ⟨fun _ => rfl, fun h => by simp [Array.getD] at h, fun h => by simp [Array.getD] at h⟩) (fun L a w hall hf => ?_)
 rotate_left
 ·have hw1 : w = (W0.alloc (.cells (arr []) 186)).setCells X 0 (arr []).toList := hf.world.2.2 (hall 2 (by decide))
  subst w
  exact HK a hf.defers (hf.size.trans hsz) hf.rest (fun i hi => hf.got i (hall i hi))
 intro i hi L a w hs h1 hdep hd hst ho
 clear HK
 match i, hi, h1, hdep, ho with
 | 0, _, h1, hdep, ho =>
   have JJ := J86_22_any 0 (by decide) hst.world
   have hr : (execOp a.eval (opAt ops86_22 0)).run Tryz.prog w = .ok (.value (.agg (arr []))) w := run_build0 186 built186 (show (opAt ops86_22 0).op = .build 186 #[] from (by kernel_rfl))
   exact op_value ho (by kernel_rfl) hr (made_val (d := 90) (by kernel_rfl) rfl JJ (fun _ _ _ _ h => h))
 | 1, _, h1, hdep, ho =>
   have hw : w = W0 := hst.world.1 (unl h1)
   obtain rfl : W0 = w := hw.symm
   have hr : (execOp a.eval (opAt ops86_22 1)).run Tryz.prog (W0) = .ok (.value (.pointer (some ⟨X, 0, none⟩))) (W0.alloc (.cells (arr []) 186)) := run_alloc186 hX (show (opAt ops86_22 1).op = .alloc 186 from (by kernel_rfl))
   refine op_value ho (by kernel_rfl) hr (made_val (d := 11) (by kernel_rfl) rfl ⟨fun h => by (rw [set_same (by rw [hs]; decide)] at h; cases h), fun _ _ => rfl, fun h => by (rw [getD_set_ne false (by decide)] at h; rw [unlisted hs hd h1 (show waits .any ops86_22 2 1 = true from (by kernel_rfl))] at h; cases h)⟩ (fun j _ _ u h => ?_))
   match j, h with
   | 0, h => exact (show _ = _ from h)
   | 1, h => exact (show _ = _ from h)
   | 2, h => exact (show True from h)
   | _ + 3, _ => exact trivial
 | 2, _, h1, hdep, ho =>
   have hw : w = W0.alloc (.cells (arr []) 186) := hst.world.2.1 (hdep 1 (by kernel_rfl)) (unl h1)
   subst w
   have g1 : a.eval (.tmp 11) = .pointer (some ⟨X, 0, none⟩) := hst.got 1 (hdep 1 (by kernel_rfl))
   have g0 : a.eval (.tmp 90) = .agg (arr []) := hst.got 0 (hdep 0 (by kernel_rfl))
   have hr : (execOp a.eval (opAt ops86_22 2)).run Tryz.prog (W0.alloc (.cells (arr []) 186)) = .ok .skip ((W0.alloc (.cells (arr []) 186)).setCells X 0 (arr []).toList) := run_storeW (arr_size _ (by simp)) hi186 (arr_ones _) hX (show (opAt ops86_22 2).op = .store 186 (.tmp 11) (.tmp 90) from (by kernel_rfl)) g1 g0
   refine op_skip ho (by kernel_rfl) hr (made_skip (by kernel_rfl) trivial ⟨fun h => by (rw [getD_set_ne false (by decide)] at h; rw [hdep 1 (by kernel_rfl)] at h; cases h), fun _ h => by (rw [set_same (by rw [hs]; decide)] at h; cases h), fun _ => rfl⟩ (fun j _ _ u h => ?_))
   match j, h with
   | 0, h => exact (show _ = _ from h)
   | 1, h => exact (show _ = _ from h)
   | 2, h => exact (show True from h)
   | _ + 3, _ => exact trivial
 | k + 3, hi, _, _, _ => exact absurd hi (by omega)
set_option maxHeartbeats 3200000 in
theorem turn86_22 {x0 x1 x2 x3 x4 x5 x6 x7 x8 x9 x10 x11 x12 x13 x14 x15 x16 x17 x18 x19 x20 x21 x22 x23 x24 x25 x26 x27 x28 x29 x30 x31 x32 x33 x34 x35 x36 x37 x38 x39 x40 x41 x42 x43 x44 x45 x46 x47 x48 x49 x50 x51 x52 x53 x54 x55 x56 x57 x58 x59 x60 x61 x62 x63 x64 x65 x66 x67 x68 x69 x70 x71 x72 x73 x74 x75 x76 x77 x78 x79 x80 x81 x82 x83 x84 x85 x86 x87 x88 x89 x90 x91 x92 x93 x94 x95 x96 x97 x98 x99 x100 x101 x102 x103 x104 x105 x106 x107 x108 x109 x110 x111 x112 x113 x114 x115 x116 x117 x118 x119 x120 x121 x122 x123 x124 x125 x126 x127 x128 x129 x130 x131 x132 x133 x134 x135 x136 x137 x138 x139 x140 x141 x142 x143 x144 x145 x146 x147 x148 x149 x150 x151 x152 x153 x154 x155 x156 x157 x158 x159 x160 x161 x162 x163 x164 x165 x166 x167 x168 x169 x170 x171 x172 x173 x174 x175 x176 x177 x178 x179 x180 x181 x182 x183 x184 x185 x186 x187 x188 x189 x190 x191 x192 x193 x194 x195 x196 x197 x198 x199 x200 x201 x202 x203 x204 x205 x206 x207 x208 x209 x210 x211 x212 x213 x214 x215 x216 x217 x218 x219 x220 x221 x222 x223 x224 x225 x226 x227 x228 x229 x230 x231 x232 x233 x234 x235 x236 x237 x238 x239 x240 x241 x242 x243 x244 x245 x246 x247 x248 x249 x250 x251 x252 x253 x254 x255 x256 x257 x258 x259 x260 x261 x262 x263 x264 x265 x266 x267 x268 x269 x270 x271 x272 x273 x274 x275 x276 x277 x278 x279 x280 x281 x282 x283 x284 x285 x286 z11 z90 : Value} {D : _} {a : Act} (hl : Left 287 ops86_22 a (Act.mk #[x0, x1, x2, x3, x4, x5, x6, x7, x8, x9, x10, x11, x12, x13, x14, x15, x16, x17, x18, x19, x20, x21, x22, x23, x24, x25, x26, x27, x28, x29, x30, x31, x32, x33, x34, x35, x36, x37, x38, x39, x40, x41, x42, x43, x44, x45, x46, x47, x48, x49, x50, x51, x52, x53, x54, x55, x56, x57, x58, x59, x60, x61, x62, x63, x64, x65, x66, x67, x68, x69, x70, x71, x72, x73, x74, x75, x76, x77, x78, x79, x80, x81, x82, x83, x84, x85, x86, x87, x88, x89, x90, x91, x92, x93, x94, x95, x96, x97, x98, x99, x100, x101, x102, x103, x104, x105, x106, x107, x108, x109, x110, x111, x112, x113, x114, x115, x116, x117, x118, x119, x120, x121, x122, x123, x124, x125, x126, x127, x128, x129, x130, x131, x132, x133, x134, x135, x136, x137, x138, x139, x140, x141, x142, x143, x144, x145, x146, x147, x148, x149, x150, x151, x152, x153, x154, x155, x156, x157, x158, x159, x160, x161, x162, x163, x164, x165, x166, x167, x168, x169, x170, x171, x172, x173, x174, x175, x176, x177, x178, x179, x180, x181, x182, x183, x184, x185, x186, x187, x188, x189, x190, x191, x192, x193, x194, x195, x196, x197, x198, x199, x200, x201, x202, x203, x204, x205, x206, x207, x208, x209, x210, x211, x212, x213, x214, x215, x216, x217, x218, x219, x220, x221, x222, x223, x224, x225, x226, x227, x228, x229, x230, x231, x232, x233, x234, x235, x236, x237, x238, x239, x240, x241, x242, x243, x244, x245, x246, x247, x248, x249, x250, x251, x252, x253, x254, x255, x256, x257, x258, x259, x260, x261, x262, x263, x264, x265, x266, x267, x268, x269, x270, x271, x272, x273, x274, x275, x276, x277, x278, x279, x280, x281, x282, x283, x284, x285, x286] D)) (h11 : a.eval (.tmp 11) = z11) (h90 : a.eval (.tmp 90) = z90) : a = ⟨#[x0, x1, x2, x3, x4, x5, x6, x7, x8, x9, x10, z11, x12, x13, x14, x15, x16, x17, x18, x19, x20, x21, x22, x23, x24, x25, x26, x27, x28, x29, x30, x31, x32, x33, x34, x35, x36, x37, x38, x39, x40, x41, x42, x43, x44, x45, x46, x47, x48, x49, x50, x51, x52, x53, x54, x55, x56, x57, x58, x59, x60, x61, x62, x63, x64, x65, x66, x67, x68, x69, x70, x71, x72, x73, x74, x75, x76, x77, x78, x79, x80, x81, x82, x83, x84, x85, x86, x87, x88, x89, z90, x91, x92, x93, x94, x95, x96, x97, x98, x99, x100, x101, x102, x103, x104, x105, x106, x107, x108, x109, x110, x111, x112, x113, x114, x115, x116, x117, x118, x119, x120, x121, x122, x123, x124, x125, x126, x127, x128, x129, x130, x131, x132, x133, x134, x135, x136, x137, x138, x139, x140, x141, x142, x143, x144, x145, x146, x147, x148, x149, x150, x151, x152, x153, x154, x155, x156, x157, x158, x159, x160, x161, x162, x163, x164, x165, x166, x167, x168, x169, x170, x171, x172, x173, x174, x175, x176, x177, x178, x179, x180, x181, x182, x183, x184, x185, x186, x187, x188, x189, x190, x191, x192, x193, x194, x195, x196, x197, x198, x199, x200, x201, x202, x203, x204, x205, x206, x207, x208, x209, x210, x211, x212, x213, x214, x215, x216, x217, x218, x219, x220, x221, x222, x223, x224, x225, x226, x227, x228, x229, x230, x231, x232, x233, x234, x235, x236, x237, x238, x239, x240, x241, x242, x243, x244, x245, x246, x247, x248, x249, x250, x251, x252, x253, x254, x255, x256, x257, x258, x259, x260, x261, x262, x263, x264, x265, x266, x267, x268, x269, x270, x271, x272, x273, x274, x275, x276, x277, x278, x279, x280, x281, x282, x283, x284, x285, x286], D⟩ := by
 subst h11
 subst h90
 exact (turn_gen [11, 90] (by kernel_rfl) (by kernel_rfl) hl.1 hl.2.1 hl.2.2).trans (by kernel_rfl)
noncomputable def ops86_46 : Array Oper := (Tryz.f86.body.bind (inCode 46)).getD #[]
def sl86_46 : Nat → Nat
 | 0 => 268
 | 1 => 29
 | 2 => 1000001
 | _ => 0
def R86_46 (X : Nat) : Nat → Value → World → Prop
 | 0, v, _ => v = .agg (arrB [])
 | 1, v, _ => v = .pointer (some ⟨X, 0, none⟩)
 | 2, v, _ => True
 | _, _, _ => True
def J86_46 (W0 : World) (X : Nat) (L : Array Bool) (w : World) : Prop := (L.getD 1 false = false → w = W0) ∧ (L.getD 1 false = true → L.getD 2 false = false → w = W0.alloc (.cells (arrB []) 147)) ∧ (L.getD 2 false = true → w = (W0.alloc (.cells (arrB []) 147)).setCells X 0 (arrB []).toList)
theorem J86_46_any {W0 : World} {X : Nat} {L : Array Bool} {w : World} (i : Nat) (hi : i ≠ 1 ∧ i ≠ 2) (h : J86_46 W0 X L w) : J86_46 W0 X (L.setIfInBounds i true) w := by
 obtain ⟨h0, h1, h2⟩ := h
 exact ⟨fun h => h0 (unset h), fun h g => h1 (set_ne (by omega) h) (unset g), fun h => h2 (set_ne (by omega) h)⟩
set_option maxHeartbeats 3200000 in
theorem reg86_46 {ops : Array Oper} (ho : ops = ops86_46) {Q : Exit → Act → World → Prop} {a0 : Act} {w0 W0 : World} (hW : w0 = W0) {X : Nat} (hX : W0.heap.size = X)  (hsz : a0.tmps.size = 287)
  (HK : ∀ a, a.defers = a0.defers → a.tmps.size = 287 → (∀ s, freeB ops86_46 s = true → a.eval (.tmp s) = a0.eval (.tmp s)) → (∀ i, i < 3 → R86_46 X i (a.eval (.tmp (sl86_46 i))) ((W0.alloc (.cells (arrB []) 147)).setCells X 0 (arrB []).toList)) → Q .normal a ((W0.alloc (.cells (arrB []) 147)).setCells X 0 (arrB []).toList)) : (Code.region 46 ops false).wp Tryz.prog Q a0 w0 := by
 subst ho
 refine region_made_seq (n := 3) (sl := sl86_46) (J := J86_46 W0 X) (R := R86_46 X) (by kernel_rfl) (by kernel_rfl) (by kernel_rfl) (by rw [hsz]; kernel_rfl) ?_ (by rw [hW]; exact ⟨fun _ => rfl, fun h => by simp [Array.getD] at h, fun h => by simp [Array.getD] at h⟩) (fun L a w hall hf => ?_)
 rotate_left
 ·have hw1 : w = (W0.alloc (.cells (arrB []) 147)).setCells X 0 (arrB []).toList := hf.world.2.2 (hall 2 (by decide))
  subst w
  exact HK a hf.defers (hf.size.trans hsz) hf.rest (fun i hi => hf.got i (hall i hi))
 intro i hi L a w hs h1 hdep hd hst ho
 clear HK
 match i, hi, h1, hdep, ho with
 | 0, _, h1, hdep, ho =>
   have JJ := J86_46_any 0 (by decide) hst.world
   have hr : (execOp a.eval (opAt ops86_46 0)).run Tryz.prog w = .ok (.value (.agg (arrB []))) w := run_build0 147 built147 (show (opAt ops86_46 0).op = .build 147 #[] from (by kernel_rfl))
   exact op_value ho (by kernel_rfl) hr (made_val (d := 268) (by kernel_rfl) rfl JJ (fun _ _ _ _ h => h))
 | 1, _, h1, hdep, ho =>
   have hw : w = W0 := hst.world.1 (unl h1)
   obtain rfl : W0 = w := hw.symm
   have hr : (execOp a.eval (opAt ops86_46 1)).run Tryz.prog (W0) = .ok (.value (.pointer (some ⟨X, 0, none⟩))) (W0.alloc (.cells (arrB []) 147)) := run_alloc147 hX (show (opAt ops86_46 1).op = .alloc 147 from (by kernel_rfl))
   refine op_value ho (by kernel_rfl) hr (made_val (d := 29) (by kernel_rfl) rfl ⟨fun h => by (rw [set_same (by rw [hs]; decide)] at h; cases h), fun _ _ => rfl, fun h => by (rw [getD_set_ne false (by decide)] at h; rw [unlisted hs hd h1 (show waits .any ops86_46 2 1 = true from (by kernel_rfl))] at h; cases h)⟩ (fun j _ _ u h => ?_))
   match j, h with
   | 0, h => exact (show _ = _ from h)
   | 1, h => exact (show _ = _ from h)
   | 2, h => exact (show True from h)
   | _ + 3, _ => exact trivial
 | 2, _, h1, hdep, ho =>
   have hw : w = W0.alloc (.cells (arrB []) 147) := hst.world.2.1 (hdep 1 (by kernel_rfl)) (unl h1)
   subst w
   have g1 : a.eval (.tmp 29) = .pointer (some ⟨X, 0, none⟩) := hst.got 1 (hdep 1 (by kernel_rfl))
   have g0 : a.eval (.tmp 268) = .agg (arrB []) := hst.got 0 (hdep 0 (by kernel_rfl))
   have hr : (execOp a.eval (opAt ops86_46 2)).run Tryz.prog (W0.alloc (.cells (arrB []) 147)) = .ok .skip ((W0.alloc (.cells (arrB []) 147)).setCells X 0 (arrB []).toList) := run_storeW (arrB_size (by simp)) hi147 (arrB_ones _) hX (show (opAt ops86_46 2).op = .store 147 (.tmp 29) (.tmp 268) from (by kernel_rfl)) g1 g0
   refine op_skip ho (by kernel_rfl) hr (made_skip (by kernel_rfl) trivial ⟨fun h => by (rw [getD_set_ne false (by decide)] at h; rw [hdep 1 (by kernel_rfl)] at h; cases h), fun _ h => by (rw [set_same (by rw [hs]; decide)] at h; cases h), fun _ => rfl⟩ (fun j _ _ u h => ?_))
   match j, h with
   | 0, h => exact (show _ = _ from h)
   | 1, h => exact (show _ = _ from h)
   | 2, h => exact (show True from h)
   | _ + 3, _ => exact trivial
 | k + 3, hi, _, _, _ => exact absurd hi (by omega)
set_option maxHeartbeats 3200000 in
theorem turn86_46 {x0 x1 x2 x3 x4 x5 x6 x7 x8 x9 x10 x11 x12 x13 x14 x15 x16 x17 x18 x19 x20 x21 x22 x23 x24 x25 x26 x27 x28 x29 x30 x31 x32 x33 x34 x35 x36 x37 x38 x39 x40 x41 x42 x43 x44 x45 x46 x47 x48 x49 x50 x51 x52 x53 x54 x55 x56 x57 x58 x59 x60 x61 x62 x63 x64 x65 x66 x67 x68 x69 x70 x71 x72 x73 x74 x75 x76 x77 x78 x79 x80 x81 x82 x83 x84 x85 x86 x87 x88 x89 x90 x91 x92 x93 x94 x95 x96 x97 x98 x99 x100 x101 x102 x103 x104 x105 x106 x107 x108 x109 x110 x111 x112 x113 x114 x115 x116 x117 x118 x119 x120 x121 x122 x123 x124 x125 x126 x127 x128 x129 x130 x131 x132 x133 x134 x135 x136 x137 x138 x139 x140 x141 x142 x143 x144 x145 x146 x147 x148 x149 x150 x151 x152 x153 x154 x155 x156 x157 x158 x159 x160 x161 x162 x163 x164 x165 x166 x167 x168 x169 x170 x171 x172 x173 x174 x175 x176 x177 x178 x179 x180 x181 x182 x183 x184 x185 x186 x187 x188 x189 x190 x191 x192 x193 x194 x195 x196 x197 x198 x199 x200 x201 x202 x203 x204 x205 x206 x207 x208 x209 x210 x211 x212 x213 x214 x215 x216 x217 x218 x219 x220 x221 x222 x223 x224 x225 x226 x227 x228 x229 x230 x231 x232 x233 x234 x235 x236 x237 x238 x239 x240 x241 x242 x243 x244 x245 x246 x247 x248 x249 x250 x251 x252 x253 x254 x255 x256 x257 x258 x259 x260 x261 x262 x263 x264 x265 x266 x267 x268 x269 x270 x271 x272 x273 x274 x275 x276 x277 x278 x279 x280 x281 x282 x283 x284 x285 x286 z29 z268 : Value} {D : _} {a : Act} (hl : Left 287 ops86_46 a (Act.mk #[x0, x1, x2, x3, x4, x5, x6, x7, x8, x9, x10, x11, x12, x13, x14, x15, x16, x17, x18, x19, x20, x21, x22, x23, x24, x25, x26, x27, x28, x29, x30, x31, x32, x33, x34, x35, x36, x37, x38, x39, x40, x41, x42, x43, x44, x45, x46, x47, x48, x49, x50, x51, x52, x53, x54, x55, x56, x57, x58, x59, x60, x61, x62, x63, x64, x65, x66, x67, x68, x69, x70, x71, x72, x73, x74, x75, x76, x77, x78, x79, x80, x81, x82, x83, x84, x85, x86, x87, x88, x89, x90, x91, x92, x93, x94, x95, x96, x97, x98, x99, x100, x101, x102, x103, x104, x105, x106, x107, x108, x109, x110, x111, x112, x113, x114, x115, x116, x117, x118, x119, x120, x121, x122, x123, x124, x125, x126, x127, x128, x129, x130, x131, x132, x133, x134, x135, x136, x137, x138, x139, x140, x141, x142, x143, x144, x145, x146, x147, x148, x149, x150, x151, x152, x153, x154, x155, x156, x157, x158, x159, x160, x161, x162, x163, x164, x165, x166, x167, x168, x169, x170, x171, x172, x173, x174, x175, x176, x177, x178, x179, x180, x181, x182, x183, x184, x185, x186, x187, x188, x189, x190, x191, x192, x193, x194, x195, x196, x197, x198, x199, x200, x201, x202, x203, x204, x205, x206, x207, x208, x209, x210, x211, x212, x213, x214, x215, x216, x217, x218, x219, x220, x221, x222, x223, x224, x225, x226, x227, x228, x229, x230, x231, x232, x233, x234, x235, x236, x237, x238, x239, x240, x241, x242, x243, x244, x245, x246, x247, x248, x249, x250, x251, x252, x253, x254, x255, x256, x257, x258, x259, x260, x261, x262, x263, x264, x265, x266, x267, x268, x269, x270, x271, x272, x273, x274, x275, x276, x277, x278, x279, x280, x281, x282, x283, x284, x285, x286] D)) (h29 : a.eval (.tmp 29) = z29) (h268 : a.eval (.tmp 268) = z268) : a = ⟨#[x0, x1, x2, x3, x4, x5, x6, x7, x8, x9, x10, x11, x12, x13, x14, x15, x16, x17, x18, x19, x20, x21, x22, x23, x24, x25, x26, x27, x28, z29, x30, x31, x32, x33, x34, x35, x36, x37, x38, x39, x40, x41, x42, x43, x44, x45, x46, x47, x48, x49, x50, x51, x52, x53, x54, x55, x56, x57, x58, x59, x60, x61, x62, x63, x64, x65, x66, x67, x68, x69, x70, x71, x72, x73, x74, x75, x76, x77, x78, x79, x80, x81, x82, x83, x84, x85, x86, x87, x88, x89, x90, x91, x92, x93, x94, x95, x96, x97, x98, x99, x100, x101, x102, x103, x104, x105, x106, x107, x108, x109, x110, x111, x112, x113, x114, x115, x116, x117, x118, x119, x120, x121, x122, x123, x124, x125, x126, x127, x128, x129, x130, x131, x132, x133, x134, x135, x136, x137, x138, x139, x140, x141, x142, x143, x144, x145, x146, x147, x148, x149, x150, x151, x152, x153, x154, x155, x156, x157, x158, x159, x160, x161, x162, x163, x164, x165, x166, x167, x168, x169, x170, x171, x172, x173, x174, x175, x176, x177, x178, x179, x180, x181, x182, x183, x184, x185, x186, x187, x188, x189, x190, x191, x192, x193, x194, x195, x196, x197, x198, x199, x200, x201, x202, x203, x204, x205, x206, x207, x208, x209, x210, x211, x212, x213, x214, x215, x216, x217, x218, x219, x220, x221, x222, x223, x224, x225, x226, x227, x228, x229, x230, x231, x232, x233, x234, x235, x236, x237, x238, x239, x240, x241, x242, x243, x244, x245, x246, x247, x248, x249, x250, x251, x252, x253, x254, x255, x256, x257, x258, x259, x260, x261, x262, x263, x264, x265, x266, x267, z268, x269, x270, x271, x272, x273, x274, x275, x276, x277, x278, x279, x280, x281, x282, x283, x284, x285, x286], D⟩ := by
 subst h29
 subst h268
 exact (turn_gen [29, 268] (by kernel_rfl) (by kernel_rfl) hl.1 hl.2.1 hl.2.2).trans (by kernel_rfl)
end Go.Proofs.YtoimjnmhinfbkaaGreatDoor
