import Derived.Deep.AppendLies
import Derived.Test.YtoimjnmhinfbkaaGreatDoorS08
namespace Go.Proofs.YtoimjnmhinfbkaaGreatDoor
open Go.RowKit
set_option maxRecDepth 100000
theorem unset {L : Array Bool} {i j : Nat} (h : (L.setIfInBounds i true).getD j false = false) : L.getD j false = false := by
  by_cases hij : i = j
  · subst hij
    rcases Nat.lt_or_ge i L.size with h1 | h1
    · simp [Array.getD, h1] at h
    · simp [Array.getD, Nat.not_lt.2 h1]
  · rwa [getD_set_ne false hij] at h
theorem set_same {L : Array Bool} {i : Nat} (h : i < L.size) : (L.setIfInBounds i true).getD i false = true := by simp [Array.getD, h]
theorem unl {L : Array Bool} {i : Nat} (h : L.getD i true = false) : L.getD i false = false := by
  rcases Nat.lt_or_ge i L.size with h1 | h1
  · simp [Array.getD, h1] at h ⊢; exact h
  · simp [Array.getD, Nat.not_lt.2 h1]
theorem unlisted {md : Region.Mode} {ops : Array Oper} {L : Array Bool} {c i n : Nat} (_hs : L.size = n) (hd : Downed md ops L) (h1 : L.getD i true = false) (hw : waits md ops c i = true) : L.getD c false = false := by
  cases h : L.getD c false with
  | false => rfl
  | true =>
    have h2 := hd c i hw h
    rw [unl h1] at h2
    cases h2
section
variable {w : World} {base e size n : Nat} {v : Value} {xs : List Value}
theorem own_block (h : w.ownsRow base e size v n xs) {g : Nat} (hv : v.ownBlock = some g) : ∃ cur c : Array Value, w.heap[g]? = some (.cells cur e (0, 0)) := by
  obtain ⟨-, ⟨rfl, -⟩ | ⟨g', cap, cur, rfl, -, hg, -⟩⟩ := h
  · simp [Value.ownBlock] at hv
  · obtain rfl : g' = g := by simpa [Value.ownBlock] using hv
    exact ⟨cur, cur, hg⟩
theorem own_ne_own {base' e' size' n' : Nat} {v' : Value} {xs' : List Value} {g : Nat} (h : w.ownsRow base e size v n xs) (h' : w.ownsRow base' e' size' v' n' xs') (hv : v'.ownBlock = some g) (hne : e ≠ e') : v.ownBlock ≠ v'.ownBlock := by
  obtain ⟨cur, _, hc⟩ := own_block h' hv
  rw [hv]
  exact own_ne_blk h hc (.inl hne)
theorem set_own (h : w.ownsRow base e size v n xs) {b : Nat} (hne : v.ownBlock ≠ some b) {o : Nat} {u : Value} : (w.setCell ⟨b, o, none⟩ u).ownsRow base e size v n xs :=
  h.far fun k hk => Below.heap_setCell _ _ _ k (fun e => hne (by rw [hk]; exact congrArg some e))
theorem own_base (h : w.ownsRow base e size v n xs) {base' : Nat} (hb : base' ≤ base) : w.ownsRow base' e size v n xs :=
  ⟨h.1, h.2.imp id fun ⟨g, cap, cur, h1, h2, h3⟩ => ⟨g, cap, cur, h1, Nat.le_trans hb h2, h3⟩⟩
end
theorem cell_ext {w w' : World} {b o : Nat} {v : Value} (h : w.cell? ⟨b, o, none⟩ = some v) (hx : Ext w w') : w'.cell? ⟨b, o, none⟩ = some v :=
  (cell_of_heap (hx.2 b (World.block_lt_of_cell? w _ h))).trans h
theorem cell_set {w : World} {b o o' : Nat} {u v : Value} (h : w.cell? ⟨b, o, none⟩ = some v) (hne : o ≠ o') : (w.setCell ⟨b, o', none⟩ u).cell? ⟨b, o, none⟩ = some v := by
  rw [← h]
  simp [go_sem, hne]
theorem op_append {P : Program} {ops : Array Oper} {Q : Exit → Act → World → Prop} {i : Nat} {o : Oper} {K : Act → World → Prop} {a : Act} {w : World} (ho : ops[i]? = some o) (hg : o.guard = none) (h : o.wp P a w K Q) : wpOp P ops Q i K a w := by
  unfold wpOp
  have hw : Region.wanted o (yielded ops a.tmps) = true := by unfold Region.wanted; rw [hg]
  simp only [ho, hw, if_true]
  exact .inl h
theorem run_cell25 {ρ : Operand → Value} {w : World} {o : Oper} {x y : Operand} {q k t : Nat} {c : Array Value} {A : Option Addr} {n ca : Nat} (ho : o.op = .store 25 x y) (h : ρ x = .pointer (some ⟨q, k, none⟩)) (hy : ρ y = .slice A n ca) (hb : w.heap[q]? = some (.cells c t (0, 0))) (hc : k < c.size) :
    (execOp ρ o).run Tryz.prog w = .ok .skip (w.setCell ⟨q, k, none⟩ (.slice A n ca)) := by
  have hf : ∀ o, w.frozen? ⟨q, o, none⟩ = false := fun o => by simp [World.frozen?, hb]
  have e : w.cell? ⟨q, k, none⟩ = some c[k] := (cell_of_row w q k _ t (0, 0) hb).trans (Array.getElem?_eq_getElem hc)
  clear hb
  unfold execOp; rw [ho]; simp only [h, hy]
  go_simp
theorem run_cell24 {ρ : Operand → Value} {w : World} {o : Oper} {x y : Operand} {q k t : Nat} {c : Array Value} {A : Option Addr} {n ca : Nat} (ho : o.op = .store 24 x y) (h : ρ x = .pointer (some ⟨q, k, none⟩)) (hy : ρ y = .slice A n ca) (hb : w.heap[q]? = some (.cells c t (0, 0))) (hc : k < c.size) :
    (execOp ρ o).run Tryz.prog w = .ok .skip (w.setCell ⟨q, k, none⟩ (.slice A n ca)) := by
  have hf : ∀ o, w.frozen? ⟨q, o, none⟩ = false := fun o => by simp [World.frozen?, hb]
  have e : w.cell? ⟨q, k, none⟩ = some c[k] := (cell_of_row w q k _ t (0, 0) hb).trans (Array.getElem?_eq_getElem hc)
  clear hb
  unfold execOp; rw [ho]; simp only [h, hy]
  go_simp
theorem run_cell41 {ρ : Operand → Value} {w : World} {o : Oper} {x y : Operand} {q k t : Nat} {c : Array Value} {A : Option Addr} {n ca : Nat} (ho : o.op = .store 41 x y) (h : ρ x = .pointer (some ⟨q, k, none⟩)) (hy : ρ y = .slice A n ca) (hb : w.heap[q]? = some (.cells c t (0, 0))) (hc : k < c.size) :
    (execOp ρ o).run Tryz.prog w = .ok .skip (w.setCell ⟨q, k, none⟩ (.slice A n ca)) := by
  have hf : ∀ o, w.frozen? ⟨q, o, none⟩ = false := fun o => by simp [World.frozen?, hb]
  have e : w.cell? ⟨q, k, none⟩ = some c[k] := (cell_of_row w q k _ t (0, 0) hb).trans (Array.getElem?_eq_getElem hc)
  clear hb
  unfold execOp; rw [ho]; simp only [h, hy]
  go_simp
noncomputable def ops78_3 : Array Oper := (Tryz.f78.body.bind (inCode 3)).getD #[]
def sl78_3 : Nat → Nat
  | 0 => 16
  | 1 => 17
  | 2 => 18
  | 3 => 19
  | 4 => 20
  | 5 => 21
  | 6 => 22
  | 7 => 23
  | 8 => 24
  | 9 => 25
  | 10 => 26
  | 11 => 27
  | 12 => 19
  | 13 => 28
  | 14 => 26
  | _ => 0
def R78_3 (B S0 b gN gU cN cU : Nat) (NS XS : List Value) (p : Nat) (xa : ByteArray) (xo : ByteArray) (xv : ByteArray) : Nat → Value → World → Prop
  | 0, v, w => v = .pointer (some ⟨b, 4, none⟩)
  | 1, v, w => v = .slice (some ⟨gN, 0, none⟩) 2 cN
  | 2, v, w => ∃ g c, v = .slice (some ⟨g, 0, none⟩) 1 c ∧ S0 ≤ g ∧ w.ownsRow S0 9 1 (.slice (some ⟨g, 0, none⟩) 1 c) 1 [.string ⟨#[118, 97, 114, 105, 97, 110, 116]⟩]
  | 3, v, w => ∃ g c, v = .slice (some ⟨g, 0, none⟩) 3 c ∧ (g = gN ∨ S0 ≤ g) ∧ w.ownsRow B 9 1 (.slice (some ⟨g, 0, none⟩) 3 c) 3 (NS ++ [.string ⟨#[118, 97, 114, 105, 97, 110, 116]⟩])
  | 4, v, w => v = .pointer (some ⟨b, 3, none⟩)
  | 5, v, w => v = .slice (some ⟨gU, 0, none⟩) 2 cU
  | 6, v, w => v = .pointer (some ⟨p, 2, none⟩)
  | 7, v, w => v = .string xv
  | 8, v, w => v = .agg #[.int .i64 3, .bool false, .string xv, .slice none 0 0, .slice none 0 0]
  | 9, v, w => ∃ g c, v = .slice (some ⟨g, 0, none⟩) 1 c ∧ S0 ≤ g ∧ w.ownsRow S0 27 5 (.slice (some ⟨g, 0, none⟩) 1 c) 1 [.int .i64 3, .bool false, .string xv, .slice none 0 0, .slice none 0 0]
  | 10, v, w => ∃ g c, v = .slice (some ⟨g, 0, none⟩) 3 c ∧ (g = gU ∨ S0 ≤ g) ∧ w.ownsRow B 27 5 (.slice (some ⟨g, 0, none⟩) 3 c) 3 (XS ++ [.int .i64 3, .bool false, .string xv, .slice none 0 0, .slice none 0 0])
  | 11, v, w => v = .pointer (some ⟨b, 4, none⟩)
  | 12, v, w => w.cell? ⟨b, 4, none⟩ = some v
  | 13, v, w => v = .pointer (some ⟨b, 3, none⟩)
  | 14, v, w => w.cell? ⟨b, 3, none⟩ = some v
  | _, _, _ => True
theorem R78_3_ext {B S0 b gN gU cN cU : Nat} {NS XS : List Value} {p : Nat} {xa : ByteArray} {xo : ByteArray} {xv : ByteArray} {w w' : World} (hx : Ext w w') : ∀ j u, R78_3 B S0 b gN gU cN cU NS XS p xa xo xv j u w → R78_3 B S0 b gN gU cN cU NS XS p xa xo xv j u w'
  | 0, _, h => h
  | 1, _, h => h
  | 2, _, h => let ⟨g, c, e, h1, h2⟩ := h; ⟨g, c, e, h1, own_ext h2 hx⟩
  | 3, _, h => let ⟨g, c, e, h1, h2⟩ := h; ⟨g, c, e, h1, own_ext h2 hx⟩
  | 4, _, h => h
  | 5, _, h => h
  | 6, _, h => h
  | 7, _, h => h
  | 8, _, h => h
  | 9, _, h => let ⟨g, c, e, h1, h2⟩ := h; ⟨g, c, e, h1, own_ext h2 hx⟩
  | 10, _, h => let ⟨g, c, e, h1, h2⟩ := h; ⟨g, c, e, h1, own_ext h2 hx⟩
  | 11, _, h => h
  | 12, _, h => cell_ext h hx
  | 13, _, h => h
  | 14, _, h => cell_ext h hx
  | _ + 15, _, _ => trivial
def J78_3 (B : Nat) (w0 : World) (B S0 b gN gU cN cU : Nat) (NS XS : List Value) (L : Array Bool) (w : World) : Prop := Below B w0 w ∧ (∀ k, k < S0 → k ≠ b → k ≠ gN → k ≠ gU → w.heap[k]? = w0.heap[k]?) ∧ ∃ u nv, w.heap[b]? = some (.cells #[.int .i64 5, .bool false, .string ⟨#[]⟩, u, nv] 27 (0, 0)) ∧ (L.getD 12 false = false → nv = .slice (some ⟨gN, 0, none⟩) 2 cN) ∧ (L.getD 14 false = false → u = .slice (some ⟨gU, 0, none⟩) 2 cU) ∧ (L.getD 3 false = false → w.ownsRow B 9 1 (.slice (some ⟨gN, 0, none⟩) 2 cN) 2 NS) ∧ (L.getD 10 false = false → w.ownsRow B 27 5 (.slice (some ⟨gU, 0, none⟩) 2 cU) 2 XS)
theorem J78_3_any {B : Nat} {w0 : World} {S0 b gN gU cN cU : Nat} {NS XS : List Value} {L : Array Bool} (i : Nat) {w : World} (h : J78_3 B w0 B S0 b gN gU cN cU NS XS L w) : J78_3 B w0 B S0 b gN gU cN cU NS XS (L.setIfInBounds i true) w := by
  obtain ⟨h1, h2, u, nv, h3, h4, h5, h6, h7⟩ := h
  exact ⟨h1, h2, u, nv, h3, fun h => h4 (unset h), fun h => h5 (unset h), fun h => h6 (unset h), fun h => h7 (unset h)⟩
theorem J78_3_le {B : Nat} {w0 : World} {S0 b gN gU cN cU : Nat} {NS XS : List Value} {L : Array Bool} {w : World} (hS : w0.heap.size = S0) (h : J78_3 B w0 B S0 b gN gU cN cU NS XS L w) : S0 ≤ w.heap.size := hS ▸ h.1.size
theorem J78_3_ext {B : Nat} {w0 : World} {S0 b gN gU cN cU : Nat} {NS XS : List Value} {L : Array Bool} (i : Nat) {w w' : World} (hS : w0.heap.size = S0) (h : J78_3 B w0 B S0 b gN gU cN cU NS XS L w) (hx : Ext w w') (hb : Below B w w') : J78_3 B w0 B S0 b gN gU cN cU NS XS (L.setIfInBounds i true) w' := by
  have hle := J78_3_le hS h
  obtain ⟨h1, h2, u, nv, h3, h4, h5, h6, h7⟩ := h
  exact ⟨h1.trans hb, fun k hk a b c => (hx.2 k (by omega)).trans (h2 k hk a b c), u, nv, blk_ext h3 hx, fun h => h4 (unset h), fun h => h5 (unset h), fun h => own_ext (h6 (unset h)) hx, fun h => own_ext (h7 (unset h)) hx⟩
set_option maxHeartbeats 1600000 in
theorem reg78_3 {ops : Array Oper} (ho : ops = ops78_3) {Q : Exit → Act → World → Prop} {a0 : Act} {w0 : World} {B S0 b gN gU cN cU : Nat} {NS XS : List Value} {p : Nat} {xa : ByteArray} {xo : ByteArray} {xv : ByteArray} (hS : w0.heap.size = S0) (hBS : B ≤ S0) (hb : B ≤ b) (hbS : b < S0) (hbU : b ≠ gU) (hbox : w0.heap[b]? = some (.cells #[.int .i64 5, .bool false, .string ⟨#[]⟩, .slice (some ⟨gU, 0, none⟩) 2 cU, .slice (some ⟨gN, 0, none⟩) 2 cN] 27 (0, 0))) (hN : w0.ownsRow B 9 1 (.slice (some ⟨gN, 0, none⟩) 2 cN) 2 NS) (hU : w0.ownsRow B 27 5 (.slice (some ⟨gU, 0, none⟩) 2 cU) 2 XS) (hpS : p < S0) (hpb : p ≠ b) (hpN : p ≠ gN) (hpU : p ≠ gU) (hp : w0.heap[p]? = some (.cells #[.string xa, .string xo, .string xv] 60 (0, 0))) (hs3 : a0.eval (.tmp 3) = .pointer (some ⟨b, 0, none⟩)) (hs1 : a0.eval (.tmp 1) = .pointer (some ⟨p, 0, none⟩)) (hsz : a0.tmps.size = 30)
    (HK : ∀ L a w, J78_3 B w0 B S0 b gN gU cN cU NS XS L w → a.defers = a0.defers → a.tmps.size = 30 → (∀ s, freeB ops78_3 s = true → a.eval (.tmp s) = a0.eval (.tmp s)) → (∀ i, i < 15 → R78_3 B S0 b gN gU cN cU NS XS p xa xo xv i (a.eval (.tmp (sl78_3 i))) w) → Q .normal a w) : (Code.region 3 ops true).wp Tryz.prog Q a0 w0 := by
  subst ho
  refine region_made (n := 15) (sl := sl78_3) (J := J78_3 B w0 B S0 b gN gU cN cU NS XS) (R := R78_3 B S0 b gN gU cN cU NS XS p xa xo xv) (by kernel_rfl) (by kernel_rfl) (by kernel_rfl) (by rw [hsz]; kernel_rfl) ?_ ⟨(Below.refl _ _).drew, fun _ _ _ _ _ => rfl, _, _, hbox, fun _ => rfl, fun _ => rfl, fun _ => hN, fun _ => hU⟩ (fun L a w hall hf => HK L a w hf.world hf.defers (hf.size.trans hsz) hf.rest (fun i hi => hf.got i (hall i hi)))
  intro i hi L a w hs h1 hdep hd hst ho
  clear HK
  match i, hi, h1, hdep, ho with
  | 0, _, h1, hdep, ho =>
      have s3 := (hst.rest 3 (by kernel_rfl)).trans hs3
      have hr : (execOp a.eval (opAt ops78_3 0)).run Tryz.prog w = .ok (.value (.pointer (some ⟨b, 4, none⟩))) w := by
        clear hst hdep hd h1 hs ho
        generalize a.eval = ρ at s3 ⊢
        unfold execOp; rw [show (opAt ops78_3 0).op = .fieldAddr 27 (.tmp 3) 4 from by kernel_rfl]; try simp only [s3]
        go_simp
      exact op_value ho (by kernel_rfl) hr (made_val (d := 16) (by kernel_rfl) rfl (J78_3_any _ hst.world) (fun _ _ _ _ h => h))
  | 1, _, h1, hdep, ho =>
      obtain ⟨u, nv, hbx, hnv, hu, hoN, hoU⟩ := hst.world.2.2
      obtain rfl := hnv (unlisted hs hd h1 (show waits .any ops78_3 12 1 = true from (by kernel_rfl)))
      have cb := fun o => cell_of_row w b o _ 27 (0, 0) hbx
      clear hbx hu hoN hoU
      have g0 : a.eval (.tmp 16) = .pointer (some ⟨b, 4, none⟩) := hst.got 0 (hdep 0 (by kernel_rfl))
      have hr : (execOp a.eval (opAt ops78_3 1)).run Tryz.prog w = .ok (.value (.slice (some ⟨gN, 0, none⟩) 2 cN)) w := by
        clear hst hdep hd h1 hs ho
        generalize a.eval = ρ at g0 ⊢
        unfold execOp; rw [show (opAt ops78_3 1).op = .load 25 (.tmp 16) from by kernel_rfl]; try simp only [g0]
        go_simp
      exact op_value ho (by kernel_rfl) hr (made_val (d := 17) (by kernel_rfl) rfl (J78_3_any _ hst.world) (fun _ _ _ _ h => h))
  | 2, _, h1, hdep, ho =>
      have hr : (execOp a.eval (opAt ops78_3 2)).run Tryz.prog w = .ok (.value (.slice (some ⟨w.heap.size, 0, none⟩) 1 1)) (w.alloc (.cells #[.string ⟨#[118, 97, 114, 105, 97, 110, 116]⟩] 9)) := by
        clear hst hdep hd h1 hs ho
        have hk : ∀ v, a.eval (.const v) = v := fun _ => rfl; generalize a.eval = ρ at hk ⊢
        unfold execOp; rw [show (opAt ops78_3 2).op = .buildSlice 25 1 #[(0, .const (.string ⟨#[118, 97, 114, 105, 97, 110, 116]⟩))] from by kernel_rfl]; try simp only [hk]
        go_simp
      exact op_value ho (by kernel_rfl) hr (made_val (d := 18) (by kernel_rfl) (⟨_, _, rfl, J78_3_le hS hst.world, own_new [.string ⟨#[118, 97, 114, 105, 97, 110, 116]⟩] rfl (J78_3_le hS hst.world) (by decide)⟩) (J78_3_ext _ hS hst.world (Ext.alloc _ _) ((Below.refl _ _).alloc (Nat.le_trans hBS (J78_3_le hS hst.world)) _)) (fun j _ _ u h => R78_3_ext (Ext.alloc _ _) j u h))
  | 3, _, h1, hdep, ho =>
      obtain ⟨u, nv, hbx, hnv, hu, hoN, hoU⟩ := hst.world.2.2
      have hNw := hoN (unl h1)
      obtain ⟨gs, cs, e2, hgs, hos⟩ := hst.got 2 (hdep 2 (by kernel_rfl))
      have e1 : a.eval (.tmp 17) = .slice (some ⟨gN, 0, none⟩) 2 cN := hst.got 1 (hdep 1 (by kernel_rfl))
      obtain ⟨i9, hi9, hz9, hzz9, hzb9⟩ := info_parts info9
      have hgN : gN < S0 := by have := (World.ownsRow.lt hN gN rfl).2; omega
      have hBN : B ≤ gN := (World.ownsRow.lt hN gN rfl).1
      have hbN : b ≠ gN := fun e => own_ne_blk hNw hbx (.inl (by decide)) (by rw [e]; rfl)
      obtain ⟨curN, cN', hblkN⟩ := own_block hNw rfl
      have hle := J78_3_le hS hst.world
      refine op_append ho (by kernel_rfl) (wp_append_lies w (.tmp 17) (.tmp 18) 25 (show (opAt ops78_3 3).op = _ from (by kernel_rfl)) B 9 i9 (.string ⟨#[]⟩) 1 16 Tryz.underlying25 hi9 hz9 hzz9 hzb9 rfl (by decide) _ 2 NS e1 hNw ⟨gs, 0, none⟩ 1 cs [.string ⟨#[118, 97, 114, 105, 97, 110, 116]⟩] e2 rfl (hos.cells rfl) (by intro u hu; simp only [List.mem_cons, List.not_mem_nil, or_false] at hu; subst hu; rfl) (by decide) (by decide) (by decide) (by omega) _ rfl ?_)
      intro g cap w' ho' hgr hgg hlt
      have hgg2 : g = gN ∨ S0 ≤ g := by rcases hgg with h | h; exact .inl (by simpa [Value.ownBlock] using h.symm); exact .inr (by omega)
      refine made_val (d := 19) (by kernel_rfl) ⟨g, cap, rfl, hgg2, ho'⟩ ⟨hst.world.1.trans ⟨hgr.os, hgr.tape, hgr.output, hgr.size, fun k hk => hgr.block k (by omega) (by simp only [Value.ownBlock]; intro e; injection e; omega)⟩, fun k hk a b c => (hgr.block k (by omega) (by simp only [Value.ownBlock]; intro e; injection e; omega)).trans (hst.world.2.1 k hk a b c), u, nv, (hgr.block b (by omega) (by simp only [Value.ownBlock]; intro e; injection e; omega)).trans hbx, fun h => hnv (unset h), fun h => hu (unset h), fun h => ?_, fun h => (hoU (unset h)).kept hgr (.inr (own_ne_own (hoU (unset h)) hNw rfl (by decide)))⟩ ?_
      · rw [set_same (by rw [hs]; decide)] at h; cases h
      intro j hj hL u h
      match j, hj, hL, h with
      | 0, _, _, h => exact (show _ = _ from h)
      | 1, _, _, h => exact (show _ = _ from h)
      | 2, _, _, h => exact (let ⟨g, c, e, h1, h2⟩ := h; ⟨g, c, e, h1, h2.kept hgr (.inr (fun e => by simp [Value.ownBlock] at e; omega))⟩)
      | 3, hj, _, _ => exact absurd rfl hj
      | 4, _, _, h => exact (show _ = _ from h)
      | 5, _, _, h => exact (show _ = _ from h)
      | 6, _, _, h => exact (show _ = _ from h)
      | 7, _, _, h => exact (show _ = _ from h)
      | 8, _, _, h => exact (show _ = _ from h)
      | 9, _, _, h => exact (let ⟨g, c, e, h1, h2⟩ := h; ⟨g, c, e, h1, h2.kept hgr (.inr (own_ne_own h2 hNw rfl (by decide)))⟩)
      | 10, _, _, h => exact (let ⟨g, c, e, h1, h2⟩ := h; ⟨g, c, e, h1, h2.kept hgr (.inr (own_ne_own h2 hNw rfl (by decide)))⟩)
      | 11, _, _, h => exact (show _ = _ from h)
      | 12, hj, hL, _ => exact absurd hL (by rw [(unlisted hs hd h1 (show waits .any ops78_3 12 3 = true from (by kernel_rfl)))]; decide)
      | 13, _, _, h => exact (show _ = _ from h)
      | 14, hj, hL, _ => exact absurd hL (by rw [(unlisted hs hd h1 (show waits .any ops78_3 14 3 = true from (by kernel_rfl)))]; decide)
      | _ + 15, _, _, _ => exact trivial
  | 4, _, h1, hdep, ho =>
      have s3 := (hst.rest 3 (by kernel_rfl)).trans hs3
      have hr : (execOp a.eval (opAt ops78_3 4)).run Tryz.prog w = .ok (.value (.pointer (some ⟨b, 3, none⟩))) w := by
        clear hst hdep hd h1 hs ho
        generalize a.eval = ρ at s3 ⊢
        unfold execOp; rw [show (opAt ops78_3 4).op = .fieldAddr 27 (.tmp 3) 3 from by kernel_rfl]; try simp only [s3]
        go_simp
      exact op_value ho (by kernel_rfl) hr (made_val (d := 20) (by kernel_rfl) rfl (J78_3_any _ hst.world) (fun _ _ _ _ h => h))
  | 5, _, h1, hdep, ho =>
      obtain ⟨u, nv, hbx, hnv, hu, hoN, hoU⟩ := hst.world.2.2
      obtain rfl := hu (unlisted hs hd h1 (show waits .any ops78_3 14 5 = true from (by kernel_rfl)))
      have cb := fun o => cell_of_row w b o _ 27 (0, 0) hbx
      clear hbx hnv hoN hoU
      have g4 : a.eval (.tmp 20) = .pointer (some ⟨b, 3, none⟩) := hst.got 4 (hdep 4 (by kernel_rfl))
      have hr : (execOp a.eval (opAt ops78_3 5)).run Tryz.prog w = .ok (.value (.slice (some ⟨gU, 0, none⟩) 2 cU)) w := by
        clear hst hdep hd h1 hs ho
        generalize a.eval = ρ at g4 ⊢
        unfold execOp; rw [show (opAt ops78_3 5).op = .load 24 (.tmp 20) from by kernel_rfl]; try simp only [g4]
        go_simp
      exact op_value ho (by kernel_rfl) hr (made_val (d := 21) (by kernel_rfl) rfl (J78_3_any _ hst.world) (fun _ _ _ _ h => h))
  | 6, _, h1, hdep, ho =>
      have s1 := (hst.rest 1 (by kernel_rfl)).trans hs1
      have hr : (execOp a.eval (opAt ops78_3 6)).run Tryz.prog w = .ok (.value (.pointer (some ⟨p, 2, none⟩))) w := by
        clear hst hdep hd h1 hs ho
        generalize a.eval = ρ at s1 ⊢
        unfold execOp; rw [show (opAt ops78_3 6).op = .fieldAddr 60 (.tmp 1) 2 from by kernel_rfl]; try simp only [s1]
        go_simp
      exact op_value ho (by kernel_rfl) hr (made_val (d := 22) (by kernel_rfl) rfl (J78_3_any _ hst.world) (fun _ _ _ _ h => h))
  | 7, _, h1, hdep, ho =>
      have hpw := (hst.world.2.1 p hpS hpb hpN hpU).trans hp
      have cp := fun o => cell_of_row w p o _ 60 (0, 0) hpw
      clear hpw
      have g6 : a.eval (.tmp 22) = .pointer (some ⟨p, 2, none⟩) := hst.got 6 (hdep 6 (by kernel_rfl))
      have hr : (execOp a.eval (opAt ops78_3 7)).run Tryz.prog w = .ok (.value (.string xv)) w := by
        clear hst hdep hd h1 hs ho
        generalize a.eval = ρ at g6 ⊢
        unfold execOp; rw [show (opAt ops78_3 7).op = .load 9 (.tmp 22) from by kernel_rfl]; try simp only [g6]
        go_simp
      exact op_value ho (by kernel_rfl) hr (made_val (d := 23) (by kernel_rfl) rfl (J78_3_any _ hst.world) (fun _ _ _ _ h => h))
  | 8, _, h1, hdep, ho =>
      have g7 : a.eval (.tmp 23) = .string xv := hst.got 7 (hdep 7 (by kernel_rfl))
      have hr : (execOp a.eval (opAt ops78_3 8)).run Tryz.prog w = .ok (.enter 77 #[.string xv]) w := by
        clear hst hdep hd h1 hs ho
        have hk : ∀ f, a.eval (.func f) = .func (.func f) #[] #[] := fun _ => rfl; generalize a.eval = ρ at g7 hk ⊢
        unfold execOp; rw [show (opAt ops78_3 8).op = .call { callee := .value (.func 77), args := #[.tmp 23], argTypes := #[9] } from by kernel_rfl]; try simp only [g7, hk]
        go_simp
      refine op_call ho (by kernel_rfl) hr ((text_of xv w).mono ?_)
      rintro e w'' ⟨rfl, hb'⟩
      exact ⟨_, rfl, made_val (d := 24) (by kernel_rfl) rfl (J78_3_ext _ hS hst.world (Ext.of_below hb') (hb'.mono (Nat.le_trans hBS (J78_3_le hS hst.world)))) (fun j _ _ u h => R78_3_ext (Ext.of_below hb') j u h)⟩
  | 9, _, h1, hdep, ho =>
      have ge : a.eval (.tmp 24) = .agg #[.int .i64 3, .bool false, .string xv, .slice none 0 0, .slice none 0 0] := hst.got 8 (hdep 8 (by kernel_rfl))
      have hr : (execOp a.eval (opAt ops78_3 9)).run Tryz.prog w = .ok (.value (.slice (some ⟨w.heap.size, 0, none⟩) 1 1)) (w.alloc (.cells #[.int .i64 3, .bool false, .string xv, .slice none 0 0, .slice none 0 0] 27)) := by
        clear hst hdep hd h1 hs ho
        generalize a.eval = ρ at ge ⊢
        unfold execOp; rw [show (opAt ops78_3 9).op = .buildSlice 24 1 #[(0, .tmp 24)] from by kernel_rfl]; try simp only [ge]
        go_simp
      exact op_value ho (by kernel_rfl) hr (made_val (d := 25) (by kernel_rfl) ⟨_, _, rfl, J78_3_le hS hst.world, own_new [.int .i64 3, .bool false, .string xv, .slice none 0 0, .slice none 0 0] rfl (J78_3_le hS hst.world) (by decide)⟩ (J78_3_ext _ hS hst.world (Ext.alloc _ _) ((Below.refl _ _).alloc (Nat.le_trans hBS (J78_3_le hS hst.world)) _)) (fun j _ _ u h => R78_3_ext (Ext.alloc _ _) j u h))
  | 10, _, h1, hdep, ho =>
      obtain ⟨u, nv, hbx, hnv, hu, hoN, hoU⟩ := hst.world.2.2
      have hUw := hoU (unl h1)
      obtain ⟨gs, cs, e2, hgs, hos⟩ := hst.got 9 (hdep 9 (by kernel_rfl))
      have e1 : a.eval (.tmp 21) = .slice (some ⟨gU, 0, none⟩) 2 cU := hst.got 5 (hdep 5 (by kernel_rfl))
      obtain ⟨i9, hi9, hz9, hzz9, hzb9⟩ := info_parts info27
      have hgU : gU < S0 := by have := (World.ownsRow.lt hU gU rfl).2; omega
      have hBU : B ≤ gU := (World.ownsRow.lt hU gU rfl).1
      obtain ⟨curU, cU', hblkU⟩ := own_block hUw rfl
      have hle := J78_3_le hS hst.world
      refine op_append ho (by kernel_rfl) (wp_append_lies w (.tmp 21) (.tmp 25) 24 (show (opAt ops78_3 10).op = _ from (by kernel_rfl)) B 27 i9 (.agg #[.int .i64 0, .bool false, .string ⟨#[]⟩, .slice none 0 0, .slice none 0 0]) 5 80 Tryz.underlying24 hi9 hz9 hzz9 hzb9 rfl (by decide) _ 2 XS e1 hUw ⟨gs, 0, none⟩ 1 cs [.int .i64 3, .bool false, .string xv, .slice none 0 0, .slice none 0 0] e2 rfl (hos.cells rfl) (by intro u hu; simp only [List.mem_cons, List.not_mem_nil, or_false] at hu; rcases hu with rfl | rfl | rfl | rfl | rfl <;> rfl) (by decide) (by decide) (by decide) (by omega) _ rfl ?_)
      intro g cap w' ho' hgr hgg hlt
      have hgg2 : g = gU ∨ S0 ≤ g := by rcases hgg with h | h; exact .inl (by simpa [Value.ownBlock] using h.symm); exact .inr (by omega)
      refine made_val (d := 26) (by kernel_rfl) ⟨g, cap, rfl, hgg2, ho'⟩ ⟨hst.world.1.trans ⟨hgr.os, hgr.tape, hgr.output, hgr.size, fun k hk => hgr.block k (by omega) (by simp only [Value.ownBlock]; intro e; injection e; omega)⟩, fun k hk a b c => (hgr.block k (by omega) (by simp only [Value.ownBlock]; intro e; injection e; omega)).trans (hst.world.2.1 k hk a b c), u, nv, (hgr.block b (by omega) (by simp only [Value.ownBlock]; intro e; injection e; omega)).trans hbx, fun h => hnv (unset h), fun h => hu (unset h), fun h => (hoN (unset h)).kept hgr (.inr (own_ne_own (hoN (unset h)) hUw rfl (by decide))), fun h => ?_⟩ ?_
      · rw [set_same (by rw [hs]; decide)] at h; cases h
      intro j hj hL u h
      match j, hj, hL, h with
      | 0, _, _, h => exact (show _ = _ from h)
      | 1, _, _, h => exact (show _ = _ from h)
      | 2, _, _, h => exact (let ⟨g, c, e, h1, h2⟩ := h; ⟨g, c, e, h1, h2.kept hgr (.inr (own_ne_own h2 hUw rfl (by decide)))⟩)
      | 3, _, _, h => exact (let ⟨g, c, e, h1, h2⟩ := h; ⟨g, c, e, h1, h2.kept hgr (.inr (own_ne_own h2 hUw rfl (by decide)))⟩)
      | 4, _, _, h => exact (show _ = _ from h)
      | 5, _, _, h => exact (show _ = _ from h)
      | 6, _, _, h => exact (show _ = _ from h)
      | 7, _, _, h => exact (show _ = _ from h)
      | 8, _, _, h => exact (show _ = _ from h)
      | 9, _, _, h => exact (let ⟨g, c, e, h1, h2⟩ := h; ⟨g, c, e, h1, h2.kept hgr (.inr (fun e => by simp [Value.ownBlock] at e; omega))⟩)
      | 10, hj, _, _ => exact absurd rfl hj
      | 11, _, _, h => exact (show _ = _ from h)
      | 12, hj, hL, _ => exact absurd hL (by rw [(unlisted hs hd h1 (show waits .any ops78_3 12 10 = true from (by kernel_rfl)))]; decide)
      | 13, _, _, h => exact (show _ = _ from h)
      | 14, hj, hL, _ => exact absurd hL (by rw [(unlisted hs hd h1 (show waits .any ops78_3 14 10 = true from (by kernel_rfl)))]; decide)
      | _ + 15, _, _, _ => exact trivial
  | 11, _, h1, hdep, ho =>
      have s3 := (hst.rest 3 (by kernel_rfl)).trans hs3
      have hr : (execOp a.eval (opAt ops78_3 11)).run Tryz.prog w = .ok (.value (.pointer (some ⟨b, 4, none⟩))) w := by
        clear hst hdep hd h1 hs ho
        generalize a.eval = ρ at s3 ⊢
        unfold execOp; rw [show (opAt ops78_3 11).op = .fieldAddr 27 (.tmp 3) 4 from by kernel_rfl]; try simp only [s3]
        go_simp
      exact op_value ho (by kernel_rfl) hr (made_val (d := 27) (by kernel_rfl) rfl (J78_3_any _ hst.world) (fun _ _ _ _ h => h))
  | 12, _, h1, hdep, ho =>
      obtain ⟨u, nv, hbx, hnv, hu, hoN, hoU⟩ := hst.world.2.2
      have hle := J78_3_le hS hst.world
      have e1 : a.eval (.tmp 27) = .pointer (some ⟨b, 4, none⟩) := hst.got 11 (hdep 11 (by kernel_rfl))
      obtain ⟨g, c, e2, hgg, hog⟩ := hst.got 3 (hdep 3 (by kernel_rfl))
      have e2' : a.eval (.tmp 19) = .slice (some ⟨g, 0, none⟩) 3 c := e2
      have hr := run_cell25 (x := .tmp 27) (y := .tmp 19) (show (opAt ops78_3 12).op = _ from (by kernel_rfl)) e1 e2' hbx (by simp)
      have hbN : b ≠ gN := fun e => own_ne_blk hN hbox (.inl (by decide)) (by rw [e]; rfl)
      refine op_skip ho (by kernel_rfl) hr (made_skip (by kernel_rfl) (show World.cell? _ _ = some (a.eval (.tmp 19)) from (by rw [e2']; exact (cell_of_row _ b 4 _ 27 (0, 0) (blk_set hbx 4 _)).trans rfl)) ⟨hst.world.1.setCell (by simpa using hb) _, fun k hk a b c => (Below.heap_setCell _ _ _ k a).trans (hst.world.2.1 k hk a b c), _, _, (blk_set hbx 4 _), fun h => ?_, fun h => hu (unset h), fun h => set_own (hoN (unset h)) (fun e => hbN (by simpa [Value.ownBlock] using e.symm)), fun h => set_own (hoU (unset h)) (fun e => hbU (by simpa [Value.ownBlock] using e.symm))⟩ ?_)
      · rw [set_same (by rw [hs]; decide)] at h; cases h
      intro j hj hL u h
      match j, hj, hL, h with
      | 0, _, _, h => exact (show _ = _ from h)
      | 1, _, _, h => exact (show _ = _ from h)
      | 2, _, _, h => exact (let ⟨g, c, e, h1, h2⟩ := h; ⟨g, c, e, h1, set_own h2 (own_ne_blk h2 hbx (.inl (by decide)))⟩)
      | 3, _, _, h => exact (let ⟨g, c, e, h1, h2⟩ := h; ⟨g, c, e, h1, set_own h2 (own_ne_blk h2 hbx (.inl (by decide)))⟩)
      | 4, _, _, h => exact (show _ = _ from h)
      | 5, _, _, h => exact (show _ = _ from h)
      | 6, _, _, h => exact (show _ = _ from h)
      | 7, _, _, h => exact (show _ = _ from h)
      | 8, _, _, h => exact (show _ = _ from h)
      | 9, _, _, h => exact (let ⟨g, c, e, h1, h2⟩ := h; ⟨g, c, e, h1, set_own h2 (fun e => by simp [Value.ownBlock] at e; omega)⟩)
      | 10, _, _, h => exact (let ⟨g, c, e, h1, h2⟩ := h; ⟨g, c, e, h1, set_own h2 (fun e => by simp [Value.ownBlock] at e; omega)⟩)
      | 11, _, _, h => exact (show _ = _ from h)
      | 12, hj, _, _ => exact absurd rfl hj
      | 13, _, _, h => exact (show _ = _ from h)
      | 14, hj, hL, _ => exact absurd hL (by rw [(unlisted hs hd h1 (show waits .any ops78_3 14 12 = true from (by kernel_rfl)))]; decide)
      | _ + 15, _, _, _ => exact trivial
  | 13, _, h1, hdep, ho =>
      have s3 := (hst.rest 3 (by kernel_rfl)).trans hs3
      have hr : (execOp a.eval (opAt ops78_3 13)).run Tryz.prog w = .ok (.value (.pointer (some ⟨b, 3, none⟩))) w := by
        clear hst hdep hd h1 hs ho
        generalize a.eval = ρ at s3 ⊢
        unfold execOp; rw [show (opAt ops78_3 13).op = .fieldAddr 27 (.tmp 3) 3 from by kernel_rfl]; try simp only [s3]
        go_simp
      exact op_value ho (by kernel_rfl) hr (made_val (d := 28) (by kernel_rfl) rfl (J78_3_any _ hst.world) (fun _ _ _ _ h => h))
  | 14, _, h1, hdep, ho =>
      obtain ⟨u, nv, hbx, hnv, hu, hoN, hoU⟩ := hst.world.2.2
      have hle := J78_3_le hS hst.world
      have e1 : a.eval (.tmp 28) = .pointer (some ⟨b, 3, none⟩) := hst.got 13 (hdep 13 (by kernel_rfl))
      obtain ⟨g, c, e2, hgg, hog⟩ := hst.got 10 (hdep 10 (by kernel_rfl))
      have e2' : a.eval (.tmp 26) = .slice (some ⟨g, 0, none⟩) 3 c := e2
      have hr := run_cell24 (x := .tmp 28) (y := .tmp 26) (show (opAt ops78_3 14).op = _ from (by kernel_rfl)) e1 e2' hbx (by simp)
      have hbN : b ≠ gN := fun e => own_ne_blk hN hbox (.inl (by decide)) (by rw [e]; rfl)
      refine op_skip ho (by kernel_rfl) hr (made_skip (by kernel_rfl) (show World.cell? _ _ = some (a.eval (.tmp 26)) from (by rw [e2']; exact (cell_of_row _ b 3 _ 27 (0, 0) (blk_set hbx 3 _)).trans rfl)) ⟨hst.world.1.setCell (by simpa using hb) _, fun k hk a b c => (Below.heap_setCell _ _ _ k a).trans (hst.world.2.1 k hk a b c), _, _, (blk_set hbx 3 _), fun h => hnv (unset h), fun h => ?_, fun h => set_own (hoN (unset h)) (fun e => hbN (by simpa [Value.ownBlock] using e.symm)), fun h => set_own (hoU (unset h)) (fun e => hbU (by simpa [Value.ownBlock] using e.symm))⟩ ?_)
      · rw [set_same (by rw [hs]; decide)] at h; cases h
      intro j hj hL u h
      match j, hj, hL, h with
      | 0, _, _, h => exact (show _ = _ from h)
      | 1, _, _, h => exact (show _ = _ from h)
      | 2, _, _, h => exact (let ⟨g, c, e, h1, h2⟩ := h; ⟨g, c, e, h1, set_own h2 (own_ne_blk h2 hbx (.inl (by decide)))⟩)
      | 3, _, _, h => exact (let ⟨g, c, e, h1, h2⟩ := h; ⟨g, c, e, h1, set_own h2 (own_ne_blk h2 hbx (.inl (by decide)))⟩)
      | 4, _, _, h => exact (show _ = _ from h)
      | 5, _, _, h => exact (show _ = _ from h)
      | 6, _, _, h => exact (show _ = _ from h)
      | 7, _, _, h => exact (show _ = _ from h)
      | 8, _, _, h => exact (show _ = _ from h)
      | 9, _, _, h => exact (let ⟨g, c, e, h1, h2⟩ := h; ⟨g, c, e, h1, set_own h2 (fun e => by simp [Value.ownBlock] at e; omega)⟩)
      | 10, _, _, h => exact (let ⟨g, c, e, h1, h2⟩ := h; ⟨g, c, e, h1, set_own h2 (fun e => by simp [Value.ownBlock] at e; omega)⟩)
      | 11, _, _, h => exact (show _ = _ from h)
      | 12, _, _, h => exact (cell_set h (by decide))
      | 13, _, _, h => exact (show _ = _ from h)
      | 14, hj, _, _ => exact absurd rfl hj
      | _ + 15, _, _, _ => exact trivial
  | k + 15, hi, _, _, _ => exact absurd hi (by omega)
set_option maxHeartbeats 1600000 in
theorem done78_3 {ops : Array Oper} (ho : ops = ops78_3) {Q : Exit → Act → World → Prop} {a0 : Act} {w0 : World} {B S0 b gN gU cN cU : Nat} {NS XS : List Value} {p : Nat} {xa : ByteArray} {xo : ByteArray} {xv : ByteArray} (hS : w0.heap.size = S0) (hBS : B ≤ S0) (hb : B ≤ b) (hbS : b < S0) (hbU : b ≠ gU) (hbox : w0.heap[b]? = some (.cells #[.int .i64 5, .bool false, .string ⟨#[]⟩, .slice (some ⟨gU, 0, none⟩) 2 cU, .slice (some ⟨gN, 0, none⟩) 2 cN] 27 (0, 0))) (hN : w0.ownsRow B 9 1 (.slice (some ⟨gN, 0, none⟩) 2 cN) 2 NS) (hU : w0.ownsRow B 27 5 (.slice (some ⟨gU, 0, none⟩) 2 cU) 2 XS) (hpS : p < S0) (hpb : p ≠ b) (hpN : p ≠ gN) (hpU : p ≠ gU) (hp : w0.heap[p]? = some (.cells #[.string xa, .string xo, .string xv] 60 (0, 0))) (hs3 : a0.eval (.tmp 3) = .pointer (some ⟨b, 0, none⟩)) (hs1 : a0.eval (.tmp 1) = .pointer (some ⟨p, 0, none⟩)) (hsz : a0.tmps.size = 30)
    (HK : ∀ (a : Act) (w : World) (g1 c1 : Nat) (g2 c2 : Nat), a.defers = a0.defers → a.tmps.size = 30 → (∀ s, freeB ops78_3 s = true → a.eval (.tmp s) = a0.eval (.tmp s)) → Below B w0 w → (∀ k, k < S0 → k ≠ b → k ≠ gN → k ≠ gU → w.heap[k]? = w0.heap[k]?) → w.heap[b]? = some (.cells #[.int .i64 5, .bool false, .string ⟨#[]⟩, .slice (some ⟨g2, 0, none⟩) 3 c2, .slice (some ⟨g1, 0, none⟩) 3 c1] 27 (0, 0)) → (g1 = gN ∨ S0 ≤ g1) → w.ownsRow B 9 1 (.slice (some ⟨g1, 0, none⟩) 3 c1) 3 (NS ++ [.string ⟨#[118, 97, 114, 105, 97, 110, 116]⟩]) → (g2 = gU ∨ S0 ≤ g2) → w.ownsRow B 27 5 (.slice (some ⟨g2, 0, none⟩) 3 c2) 3 (XS ++ [.int .i64 3, .bool false, .string xv, .slice none 0 0, .slice none 0 0]) → Q .normal a w) : (Code.region 3 ops true).wp Tryz.prog Q a0 w0 := by
  refine reg78_3 ho hS hBS hb hbS hbU hbox hN hU hpS hpb hpN hpU hp hs3 hs1 hsz (fun L a w hJ hd hs hr hR => ?_)
  obtain ⟨hb', hun, u, nv, hbx, hnv, -, hoN, -⟩ := hJ
  have c4 : w.cell? ⟨b, 4, none⟩ = some (a.eval (.tmp 19)) := hR 12 (by decide)
  obtain ⟨g1, c1, e1, hg1, ho1⟩ := hR 3 (by decide)
  obtain rfl : nv = .slice (some ⟨g1, 0, none⟩) 3 c1 := by have h := (cell_of_row w b 4 _ 27 (0, 0) hbx).symm.trans c4; rw [show a.eval (.tmp 19) = _ from e1] at h; simpa using h
  have c3 : w.cell? ⟨b, 3, none⟩ = some (a.eval (.tmp 26)) := hR 14 (by decide)
  obtain ⟨g2, c2, e2, hg2, ho2⟩ := hR 10 (by decide)
  obtain rfl : u = .slice (some ⟨g2, 0, none⟩) 3 c2 := by have h := (cell_of_row w b 3 _ 27 (0, 0) hbx).symm.trans c3; rw [show a.eval (.tmp 26) = _ from e2] at h; simpa using h
  exact HK a w  g1 c1 g2 c2 hd hs hr hb' hun hbx hg1 ho1 hg2 ho2
/-- a platform as a value: its list, its names. -/
def platXS (xa xo xv : ByteArray) : List Value := [.int .i64 3, .bool false, .string xa, .slice none 0 0, .slice none 0 0, .int .i64 3, .bool false, .string xo, .slice none 0 0, .slice none 0 0] ++ (if xv.toList.isEmpty = true then [] else [.int .i64 3, .bool false, .string xv, .slice none 0 0, .slice none 0 0])
def platNS (xv : ByteArray) : List Value := [.string ⟨#[97, 114, 99, 104, 105, 116, 101, 99, 116, 117, 114, 101]⟩, .string ⟨#[111, 115]⟩] ++ (if xv.toList.isEmpty = true then [] else [.string ⟨#[118, 97, 114, 105, 97, 110, 116]⟩])
def platK (xv : ByteArray) : Nat := if xv.toList.isEmpty = true then 2 else 3
def PlatRes (xa xo xv : ByteArray) (w : World) (e : Ending) (w' : World) : Prop := ∃ gp cp gq cq : Nat, e = .returned (.agg #[.int .i64 5, .bool false, .string ⟨#[]⟩, .slice (some ⟨gp, 0, none⟩) (platK xv) cp, .slice (some ⟨gq, 0, none⟩) (platK xv) cq]) ∧ w'.ownsRow w.heap.size 27 5 (.slice (some ⟨gp, 0, none⟩) (platK xv) cp) (platK xv) (platXS xa xo xv) ∧ w'.ownsRow w.heap.size 9 1 (.slice (some ⟨gq, 0, none⟩) (platK xv) cq) (platK xv) (platNS xv) ∧ Below w.heap.size w w'
noncomputable def ops33_7 : Array Oper := (Tryz.f33.body.bind (inCode 7)).getD #[]
def sl33_7 : Nat → Nat
  | 0 => 30
  | 1 => 31
  | 2 => 32
  | 3 => 33
  | 4 => 34
  | 5 => 35
  | 6 => 36
  | 7 => 37
  | 8 => 38
  | 9 => 39
  | 10 => 40
  | 11 => 41
  | 12 => 33
  | 13 => 42
  | 14 => 40
  | _ => 0
def R33_7 (B S0 b gN gU cN cU : Nat) (NS XS : List Value) (p : Nat) (xm : ByteArray) (xn : ByteArray) (xz : Nat) (xa : ByteArray) (xo : ByteArray) (xv : ByteArray) (kp : Nat) (XP : List Value) (NP : List Value) : Nat → Value → World → Prop
  | 0, v, w => v = .pointer (some ⟨b, 4, none⟩)
  | 1, v, w => v = .slice (some ⟨gN, 0, none⟩) 2 cN
  | 2, v, w => ∃ g c, v = .slice (some ⟨g, 0, none⟩) 1 c ∧ S0 ≤ g ∧ w.ownsRow S0 9 1 (.slice (some ⟨g, 0, none⟩) 1 c) 1 [.string ⟨#[112, 108, 97, 116, 102, 111, 114, 109]⟩]
  | 3, v, w => ∃ g c, v = .slice (some ⟨g, 0, none⟩) 3 c ∧ (g = gN ∨ S0 ≤ g) ∧ w.ownsRow B 9 1 (.slice (some ⟨g, 0, none⟩) 3 c) 3 (NS ++ [.string ⟨#[112, 108, 97, 116, 102, 111, 114, 109]⟩])
  | 4, v, w => v = .pointer (some ⟨b, 3, none⟩)
  | 5, v, w => v = .slice (some ⟨gU, 0, none⟩) 2 cU
  | 6, v, w => v = .pointer (some ⟨p, 3, none⟩)
  | 7, v, w => v = .agg #[.string xa, .string xo, .string xv]
  | 8, v, w => ∃ gp cp gq cq : Nat, v = .agg #[.int .i64 5, .bool false, .string ⟨#[]⟩, .slice (some ⟨gp, 0, none⟩) kp cp, .slice (some ⟨gq, 0, none⟩) kp cq] ∧ w.ownsRow S0 27 5 (.slice (some ⟨gp, 0, none⟩) kp cp) kp XP ∧ w.ownsRow S0 9 1 (.slice (some ⟨gq, 0, none⟩) kp cq) kp NP
  | 9, v, w => ∃ gp cp gq cq : Nat, ∃ g c, v = .slice (some ⟨g, 0, none⟩) 1 c ∧ S0 ≤ g ∧ w.ownsRow S0 27 5 (.slice (some ⟨g, 0, none⟩) 1 c) 1 [.int .i64 5, .bool false, .string ⟨#[]⟩, .slice (some ⟨gp, 0, none⟩) kp cp, .slice (some ⟨gq, 0, none⟩) kp cq] ∧ w.ownsRow S0 27 5 (.slice (some ⟨gp, 0, none⟩) kp cp) kp XP ∧ w.ownsRow S0 9 1 (.slice (some ⟨gq, 0, none⟩) kp cq) kp NP
  | 10, v, w => ∃ gp cp gq cq : Nat, ∃ g c, v = .slice (some ⟨g, 0, none⟩) 3 c ∧ (g = gU ∨ S0 ≤ g) ∧ w.ownsRow B 27 5 (.slice (some ⟨g, 0, none⟩) 3 c) 3 (XS ++ [.int .i64 5, .bool false, .string ⟨#[]⟩, .slice (some ⟨gp, 0, none⟩) kp cp, .slice (some ⟨gq, 0, none⟩) kp cq]) ∧ (w.ownsRow S0 27 5 (.slice (some ⟨gp, 0, none⟩) kp cp) kp XP ∧ w.ownsRow S0 9 1 (.slice (some ⟨gq, 0, none⟩) kp cq) kp NP) ∧ gp ≠ g
  | 11, v, w => v = .pointer (some ⟨b, 4, none⟩)
  | 12, v, w => w.cell? ⟨b, 4, none⟩ = some v
  | 13, v, w => v = .pointer (some ⟨b, 3, none⟩)
  | 14, v, w => w.cell? ⟨b, 3, none⟩ = some v
  | _, _, _ => True
theorem R33_7_ext {B S0 b gN gU cN cU : Nat} {NS XS : List Value} {p : Nat} {xm : ByteArray} {xn : ByteArray} {xz : Nat} {xa : ByteArray} {xo : ByteArray} {xv : ByteArray} {kp : Nat} {XP : List Value} {NP : List Value} {w w' : World} (hx : Ext w w') : ∀ j u, R33_7 B S0 b gN gU cN cU NS XS p xm xn xz xa xo xv kp XP NP j u w → R33_7 B S0 b gN gU cN cU NS XS p xm xn xz xa xo xv kp XP NP j u w'
  | 0, _, h => h
  | 1, _, h => h
  | 2, _, h => let ⟨g, c, e, h1, h2⟩ := h; ⟨g, c, e, h1, own_ext h2 hx⟩
  | 3, _, h => let ⟨g, c, e, h1, h2⟩ := h; ⟨g, c, e, h1, own_ext h2 hx⟩
  | 4, _, h => h
  | 5, _, h => h
  | 6, _, h => h
  | 7, _, h => h
  | 8, _, h => let ⟨gp, cp, gq, cq, e, h1, h2⟩ := h; ⟨gp, cp, gq, cq, e, own_ext h1 hx, own_ext h2 hx⟩
  | 9, _, h => let ⟨gp, cp, gq, cq, g, c, e, h1, h2, hE⟩ := h; ⟨gp, cp, gq, cq, g, c, e, h1, own_ext h2 hx, ⟨own_ext hE.1 hx, own_ext hE.2 hx⟩⟩
  | 10, _, h => let ⟨gp, cp, gq, cq, g, c, e, h1, h2, hE⟩ := h; ⟨gp, cp, gq, cq, g, c, e, h1, own_ext h2 hx, ⟨⟨own_ext hE.1.1 hx, own_ext hE.1.2 hx⟩, hE.2⟩⟩
  | 11, _, h => h
  | 12, _, h => cell_ext h hx
  | 13, _, h => h
  | 14, _, h => cell_ext h hx
  | _ + 15, _, _ => trivial
def J33_7 (B : Nat) (w0 : World) (B S0 b gN gU cN cU : Nat) (NS XS : List Value) (L : Array Bool) (w : World) : Prop := Below B w0 w ∧ (∀ k, k < S0 → k ≠ b → k ≠ gN → k ≠ gU → w.heap[k]? = w0.heap[k]?) ∧ ∃ u nv, w.heap[b]? = some (.cells #[.int .i64 5, .bool false, .string ⟨#[]⟩, u, nv] 27 (0, 0)) ∧ (L.getD 12 false = false → nv = .slice (some ⟨gN, 0, none⟩) 2 cN) ∧ (L.getD 14 false = false → u = .slice (some ⟨gU, 0, none⟩) 2 cU) ∧ (L.getD 3 false = false → w.ownsRow B 9 1 (.slice (some ⟨gN, 0, none⟩) 2 cN) 2 NS) ∧ (L.getD 10 false = false → w.ownsRow B 27 5 (.slice (some ⟨gU, 0, none⟩) 2 cU) 2 XS)
theorem J33_7_any {B : Nat} {w0 : World} {S0 b gN gU cN cU : Nat} {NS XS : List Value} {L : Array Bool} (i : Nat) {w : World} (h : J33_7 B w0 B S0 b gN gU cN cU NS XS L w) : J33_7 B w0 B S0 b gN gU cN cU NS XS (L.setIfInBounds i true) w := by
  obtain ⟨h1, h2, u, nv, h3, h4, h5, h6, h7⟩ := h
  exact ⟨h1, h2, u, nv, h3, fun h => h4 (unset h), fun h => h5 (unset h), fun h => h6 (unset h), fun h => h7 (unset h)⟩
theorem J33_7_le {B : Nat} {w0 : World} {S0 b gN gU cN cU : Nat} {NS XS : List Value} {L : Array Bool} {w : World} (hS : w0.heap.size = S0) (h : J33_7 B w0 B S0 b gN gU cN cU NS XS L w) : S0 ≤ w.heap.size := hS ▸ h.1.size
theorem J33_7_ext {B : Nat} {w0 : World} {S0 b gN gU cN cU : Nat} {NS XS : List Value} {L : Array Bool} (i : Nat) {w w' : World} (hS : w0.heap.size = S0) (h : J33_7 B w0 B S0 b gN gU cN cU NS XS L w) (hx : Ext w w') (hb : Below B w w') : J33_7 B w0 B S0 b gN gU cN cU NS XS (L.setIfInBounds i true) w' := by
  have hle := J33_7_le hS h
  obtain ⟨h1, h2, u, nv, h3, h4, h5, h6, h7⟩ := h
  exact ⟨h1.trans hb, fun k hk a b c => (hx.2 k (by omega)).trans (h2 k hk a b c), u, nv, blk_ext h3 hx, fun h => h4 (unset h), fun h => h5 (unset h), fun h => own_ext (h6 (unset h)) hx, fun h => own_ext (h7 (unset h)) hx⟩
set_option maxHeartbeats 1600000 in
theorem reg33_7 {ops : Array Oper} (ho : ops = ops33_7) {Q : Exit → Act → World → Prop} {a0 : Act} {w0 : World} {B S0 b gN gU cN cU : Nat} {NS XS : List Value} {p : Nat} {xm : ByteArray} {xn : ByteArray} {xz : Nat} {xa : ByteArray} {xo : ByteArray} {xv : ByteArray} {kp : Nat} {XP : List Value} {NP : List Value} (hS : w0.heap.size = S0) (hBS : B ≤ S0) (hb : B ≤ b) (hbS : b < S0) (hbU : b ≠ gU) (hbox : w0.heap[b]? = some (.cells #[.int .i64 5, .bool false, .string ⟨#[]⟩, .slice (some ⟨gU, 0, none⟩) 2 cU, .slice (some ⟨gN, 0, none⟩) 2 cN] 27 (0, 0))) (hN : w0.ownsRow B 9 1 (.slice (some ⟨gN, 0, none⟩) 2 cN) 2 NS) (hU : w0.ownsRow B 27 5 (.slice (some ⟨gU, 0, none⟩) 2 cU) 2 XS) (hpS : p < S0) (hpb : p ≠ b) (hpN : p ≠ gN) (hpU : p ≠ gU) (hp : w0.heap[p]? = some (.cells #[.string xm, .string xn, .int .i64 (xz : Int), .string xa, .string xo, .string xv] 62 (0, 0))) (HP : ∀ w, Calls Tryz.prog 78 #[.agg #[.string xa, .string xo, .string xv]] w (fun e w' => ∃ gp cp gq cq : Nat, e = .returned (.agg #[.int .i64 5, .bool false, .string ⟨#[]⟩, .slice (some ⟨gp, 0, none⟩) kp cp, .slice (some ⟨gq, 0, none⟩) kp cq]) ∧ w'.ownsRow w.heap.size 27 5 (.slice (some ⟨gp, 0, none⟩) kp cp) kp XP ∧ w'.ownsRow w.heap.size 9 1 (.slice (some ⟨gq, 0, none⟩) kp cq) kp NP ∧ Below w.heap.size w w')) (hs6 : a0.eval (.tmp 6) = .pointer (some ⟨b, 0, none⟩)) (hs1 : a0.eval (.tmp 1) = .pointer (some ⟨p, 0, none⟩)) (hsz : a0.tmps.size = 55)
    (HK : ∀ L a w, J33_7 B w0 B S0 b gN gU cN cU NS XS L w → a.defers = a0.defers → a.tmps.size = 55 → (∀ s, freeB ops33_7 s = true → a.eval (.tmp s) = a0.eval (.tmp s)) → (∀ i, i < 15 → R33_7 B S0 b gN gU cN cU NS XS p xm xn xz xa xo xv kp XP NP i (a.eval (.tmp (sl33_7 i))) w) → Q .normal a w) : (Code.region 7 ops true).wp Tryz.prog Q a0 w0 := by
  subst ho
  refine region_made (n := 15) (sl := sl33_7) (J := J33_7 B w0 B S0 b gN gU cN cU NS XS) (R := R33_7 B S0 b gN gU cN cU NS XS p xm xn xz xa xo xv kp XP NP) (by kernel_rfl) (by kernel_rfl) (by kernel_rfl) (by rw [hsz]; kernel_rfl) ?_ ⟨(Below.refl _ _).drew, fun _ _ _ _ _ => rfl, _, _, hbox, fun _ => rfl, fun _ => rfl, fun _ => hN, fun _ => hU⟩ (fun L a w hall hf => HK L a w hf.world hf.defers (hf.size.trans hsz) hf.rest (fun i hi => hf.got i (hall i hi)))
  intro i hi L a w hs h1 hdep hd hst ho
  clear HK
  match i, hi, h1, hdep, ho with
  | 0, _, h1, hdep, ho =>
      have s6 := (hst.rest 6 (by kernel_rfl)).trans hs6
      have hr : (execOp a.eval (opAt ops33_7 0)).run Tryz.prog w = .ok (.value (.pointer (some ⟨b, 4, none⟩))) w := by
        clear hst hdep hd h1 hs ho
        generalize a.eval = ρ at s6 ⊢
        unfold execOp; rw [show (opAt ops33_7 0).op = .fieldAddr 27 (.tmp 6) 4 from by kernel_rfl]; try simp only [s6]
        go_simp
      exact op_value ho (by kernel_rfl) hr (made_val (d := 30) (by kernel_rfl) rfl (J33_7_any _ hst.world) (fun _ _ _ _ h => h))
  | 1, _, h1, hdep, ho =>
      obtain ⟨u, nv, hbx, hnv, hu, hoN, hoU⟩ := hst.world.2.2
      obtain rfl := hnv (unlisted hs hd h1 (show waits .any ops33_7 12 1 = true from (by kernel_rfl)))
      have cb := fun o => cell_of_row w b o _ 27 (0, 0) hbx
      clear hbx hu hoN hoU
      have g0 : a.eval (.tmp 30) = .pointer (some ⟨b, 4, none⟩) := hst.got 0 (hdep 0 (by kernel_rfl))
      have hr : (execOp a.eval (opAt ops33_7 1)).run Tryz.prog w = .ok (.value (.slice (some ⟨gN, 0, none⟩) 2 cN)) w := by
        clear hst hdep hd h1 hs ho
        generalize a.eval = ρ at g0 ⊢
        unfold execOp; rw [show (opAt ops33_7 1).op = .load 25 (.tmp 30) from by kernel_rfl]; try simp only [g0]
        go_simp
      exact op_value ho (by kernel_rfl) hr (made_val (d := 31) (by kernel_rfl) rfl (J33_7_any _ hst.world) (fun _ _ _ _ h => h))
  | 2, _, h1, hdep, ho =>
      have hr : (execOp a.eval (opAt ops33_7 2)).run Tryz.prog w = .ok (.value (.slice (some ⟨w.heap.size, 0, none⟩) 1 1)) (w.alloc (.cells #[.string ⟨#[112, 108, 97, 116, 102, 111, 114, 109]⟩] 9)) := by
        clear hst hdep hd h1 hs ho
        have hk : ∀ v, a.eval (.const v) = v := fun _ => rfl; generalize a.eval = ρ at hk ⊢
        unfold execOp; rw [show (opAt ops33_7 2).op = .buildSlice 25 1 #[(0, .const (.string ⟨#[112, 108, 97, 116, 102, 111, 114, 109]⟩))] from by kernel_rfl]; try simp only [hk]
        go_simp
      exact op_value ho (by kernel_rfl) hr (made_val (d := 32) (by kernel_rfl) (⟨_, _, rfl, J33_7_le hS hst.world, own_new [.string ⟨#[112, 108, 97, 116, 102, 111, 114, 109]⟩] rfl (J33_7_le hS hst.world) (by decide)⟩) (J33_7_ext _ hS hst.world (Ext.alloc _ _) ((Below.refl _ _).alloc (Nat.le_trans hBS (J33_7_le hS hst.world)) _)) (fun j _ _ u h => R33_7_ext (Ext.alloc _ _) j u h))
  | 3, _, h1, hdep, ho =>
      obtain ⟨u, nv, hbx, hnv, hu, hoN, hoU⟩ := hst.world.2.2
      have hNw := hoN (unl h1)
      obtain ⟨gs, cs, e2, hgs, hos⟩ := hst.got 2 (hdep 2 (by kernel_rfl))
      have e1 : a.eval (.tmp 31) = .slice (some ⟨gN, 0, none⟩) 2 cN := hst.got 1 (hdep 1 (by kernel_rfl))
      obtain ⟨i9, hi9, hz9, hzz9, hzb9⟩ := info_parts info9
      have hgN : gN < S0 := by have := (World.ownsRow.lt hN gN rfl).2; omega
      have hBN : B ≤ gN := (World.ownsRow.lt hN gN rfl).1
      have hbN : b ≠ gN := fun e => own_ne_blk hNw hbx (.inl (by decide)) (by rw [e]; rfl)
      obtain ⟨curN, cN', hblkN⟩ := own_block hNw rfl
      have hle := J33_7_le hS hst.world
      refine op_append ho (by kernel_rfl) (wp_append_lies w (.tmp 31) (.tmp 32) 25 (show (opAt ops33_7 3).op = _ from (by kernel_rfl)) B 9 i9 (.string ⟨#[]⟩) 1 16 Tryz.underlying25 hi9 hz9 hzz9 hzb9 rfl (by decide) _ 2 NS e1 hNw ⟨gs, 0, none⟩ 1 cs [.string ⟨#[112, 108, 97, 116, 102, 111, 114, 109]⟩] e2 rfl (hos.cells rfl) (by intro u hu; simp only [List.mem_cons, List.not_mem_nil, or_false] at hu; subst hu; rfl) (by decide) (by decide) (by decide) (by omega) _ rfl ?_)
      intro g cap w' ho' hgr hgg hlt
      have hgg2 : g = gN ∨ S0 ≤ g := by rcases hgg with h | h; exact .inl (by simpa [Value.ownBlock] using h.symm); exact .inr (by omega)
      refine made_val (d := 33) (by kernel_rfl) ⟨g, cap, rfl, hgg2, ho'⟩ ⟨hst.world.1.trans ⟨hgr.os, hgr.tape, hgr.output, hgr.size, fun k hk => hgr.block k (by omega) (by simp only [Value.ownBlock]; intro e; injection e; omega)⟩, fun k hk a b c => (hgr.block k (by omega) (by simp only [Value.ownBlock]; intro e; injection e; omega)).trans (hst.world.2.1 k hk a b c), u, nv, (hgr.block b (by omega) (by simp only [Value.ownBlock]; intro e; injection e; omega)).trans hbx, fun h => hnv (unset h), fun h => hu (unset h), fun h => ?_, fun h => (hoU (unset h)).kept hgr (.inr (own_ne_own (hoU (unset h)) hNw rfl (by decide)))⟩ ?_
      · rw [set_same (by rw [hs]; decide)] at h; cases h
      intro j hj hL u h
      match j, hj, hL, h with
      | 0, _, _, h => exact (show _ = _ from h)
      | 1, _, _, h => exact (show _ = _ from h)
      | 2, _, _, h => exact (let ⟨g, c, e, h1, h2⟩ := h; ⟨g, c, e, h1, h2.kept hgr (.inr (fun e => by simp [Value.ownBlock] at e; omega))⟩)
      | 3, hj, _, _ => exact absurd rfl hj
      | 4, _, _, h => exact (show _ = _ from h)
      | 5, _, _, h => exact (show _ = _ from h)
      | 6, _, _, h => exact (show _ = _ from h)
      | 7, _, _, h => exact (show _ = _ from h)
      | 8, _, _, h => exact (let ⟨gp, cp, gq, cq, e, hE⟩ := h; ⟨gp, cp, gq, cq, e, ⟨hE.1.kept hgr (.inr (own_ne_own hE.1 hNw rfl (by decide))), hE.2.kept hgr (.inr (fun e => by have := World.ownsRow.lt hE.2 gq rfl; simp [Value.ownBlock] at e; omega))⟩⟩)
      | 9, _, _, h => exact (let ⟨gp, cp, gq, cq, g, c, e, h1, h2, hE⟩ := h; ⟨gp, cp, gq, cq, g, c, e, h1, h2.kept hgr (.inr (own_ne_own h2 hNw rfl (by decide))), ⟨hE.1.kept hgr (.inr (own_ne_own hE.1 hNw rfl (by decide))), hE.2.kept hgr (.inr (fun e => by have := World.ownsRow.lt hE.2 gq rfl; simp [Value.ownBlock] at e; omega))⟩⟩)
      | 10, _, _, h => exact (let ⟨gp, cp, gq, cq, g, c, e, h1, h2, hE⟩ := h; ⟨gp, cp, gq, cq, g, c, e, h1, h2.kept hgr (.inr (own_ne_own h2 hNw rfl (by decide))), ⟨⟨hE.1.1.kept hgr (.inr (own_ne_own hE.1.1 hNw rfl (by decide))), hE.1.2.kept hgr (.inr (fun e => by have := World.ownsRow.lt hE.1.2 gq rfl; simp [Value.ownBlock] at e; omega))⟩, hE.2⟩⟩)
      | 11, _, _, h => exact (show _ = _ from h)
      | 12, hj, hL, _ => exact absurd hL (by rw [(unlisted hs hd h1 (show waits .any ops33_7 12 3 = true from (by kernel_rfl)))]; decide)
      | 13, _, _, h => exact (show _ = _ from h)
      | 14, hj, hL, _ => exact absurd hL (by rw [(unlisted hs hd h1 (show waits .any ops33_7 14 3 = true from (by kernel_rfl)))]; decide)
      | _ + 15, _, _, _ => exact trivial
  | 4, _, h1, hdep, ho =>
      have s6 := (hst.rest 6 (by kernel_rfl)).trans hs6
      have hr : (execOp a.eval (opAt ops33_7 4)).run Tryz.prog w = .ok (.value (.pointer (some ⟨b, 3, none⟩))) w := by
        clear hst hdep hd h1 hs ho
        generalize a.eval = ρ at s6 ⊢
        unfold execOp; rw [show (opAt ops33_7 4).op = .fieldAddr 27 (.tmp 6) 3 from by kernel_rfl]; try simp only [s6]
        go_simp
      exact op_value ho (by kernel_rfl) hr (made_val (d := 34) (by kernel_rfl) rfl (J33_7_any _ hst.world) (fun _ _ _ _ h => h))
  | 5, _, h1, hdep, ho =>
      obtain ⟨u, nv, hbx, hnv, hu, hoN, hoU⟩ := hst.world.2.2
      obtain rfl := hu (unlisted hs hd h1 (show waits .any ops33_7 14 5 = true from (by kernel_rfl)))
      have cb := fun o => cell_of_row w b o _ 27 (0, 0) hbx
      clear hbx hnv hoN hoU
      have g4 : a.eval (.tmp 34) = .pointer (some ⟨b, 3, none⟩) := hst.got 4 (hdep 4 (by kernel_rfl))
      have hr : (execOp a.eval (opAt ops33_7 5)).run Tryz.prog w = .ok (.value (.slice (some ⟨gU, 0, none⟩) 2 cU)) w := by
        clear hst hdep hd h1 hs ho
        generalize a.eval = ρ at g4 ⊢
        unfold execOp; rw [show (opAt ops33_7 5).op = .load 24 (.tmp 34) from by kernel_rfl]; try simp only [g4]
        go_simp
      exact op_value ho (by kernel_rfl) hr (made_val (d := 35) (by kernel_rfl) rfl (J33_7_any _ hst.world) (fun _ _ _ _ h => h))
  | 6, _, h1, hdep, ho =>
      have s1 := (hst.rest 1 (by kernel_rfl)).trans hs1
      have hr : (execOp a.eval (opAt ops33_7 6)).run Tryz.prog w = .ok (.value (.pointer (some ⟨p, 3, none⟩))) w := by
        clear hst hdep hd h1 hs ho
        generalize a.eval = ρ at s1 ⊢
        unfold execOp; rw [show (opAt ops33_7 6).op = .fieldAddr 62 (.tmp 1) 3 from by kernel_rfl]; try simp only [s1]
        go_simp
      exact op_value ho (by kernel_rfl) hr (made_val (d := 36) (by kernel_rfl) rfl (J33_7_any _ hst.world) (fun _ _ _ _ h => h))
  | 7, _, h1, hdep, ho =>
      have hpw := (hst.world.2.1 p hpS hpb hpN hpU).trans hp
      have cp := fun o => cell_of_row w p o _ 62 (0, 0) hpw
      clear hpw
      have g6 : a.eval (.tmp 36) = .pointer (some ⟨p, 3, none⟩) := hst.got 6 (hdep 6 (by kernel_rfl))
      have hr : (execOp a.eval (opAt ops33_7 7)).run Tryz.prog w = .ok (.value (.agg #[.string xa, .string xo, .string xv])) w := by
        clear hst hdep hd h1 hs ho
        generalize a.eval = ρ at g6 ⊢
        unfold execOp; rw [show (opAt ops33_7 7).op = .load 60 (.tmp 36) from by kernel_rfl]; try simp only [g6]
        go_simp
      exact op_value ho (by kernel_rfl) hr (made_val (d := 37) (by kernel_rfl) rfl (J33_7_any _ hst.world) (fun _ _ _ _ h => h))
  | 8, _, h1, hdep, ho =>
      have g7 : a.eval (.tmp 37) = .agg #[.string xa, .string xo, .string xv] := hst.got 7 (hdep 7 (by kernel_rfl))
      have hr : (execOp a.eval (opAt ops33_7 8)).run Tryz.prog w = .ok (.enter 78 #[.agg #[.string xa, .string xo, .string xv]]) w := by
        clear hst hdep hd h1 hs ho
        have hk : ∀ f, a.eval (.func f) = .func (.func f) #[] #[] := fun _ => rfl; generalize a.eval = ρ at g7 hk ⊢
        unfold execOp; rw [show (opAt ops33_7 8).op = .call { callee := .value (.func 78), args := #[.tmp 37], argTypes := #[60] } from by kernel_rfl]; try simp only [g7, hk]
        go_simp
      have hle := J33_7_le hS hst.world
      refine op_call ho (by kernel_rfl) hr ((HP w).mono ?_)
      rintro e w'' ⟨gp, cp, gq, cq, rfl, hq1, hq2, hb'⟩
      exact ⟨_, rfl, made_val (d := 38) (by kernel_rfl) ⟨gp, cp, gq, cq, rfl, own_base hq1 hle, own_base hq2 hle⟩ (J33_7_ext _ hS hst.world (Ext.of_below hb') (hb'.mono (Nat.le_trans hBS hle))) (fun j _ _ u h => R33_7_ext (Ext.of_below hb') j u h)⟩
  | 9, _, h1, hdep, ho =>
      obtain ⟨gp, cp, gq, cq, ge, hE⟩ := hst.got 8 (hdep 8 (by kernel_rfl))
      have ge : a.eval (.tmp 38) = .agg #[.int .i64 5, .bool false, .string ⟨#[]⟩, .slice (some ⟨gp, 0, none⟩) kp cp, .slice (some ⟨gq, 0, none⟩) kp cq] := ge
      have hr : (execOp a.eval (opAt ops33_7 9)).run Tryz.prog w = .ok (.value (.slice (some ⟨w.heap.size, 0, none⟩) 1 1)) (w.alloc (.cells #[.int .i64 5, .bool false, .string ⟨#[]⟩, .slice (some ⟨gp, 0, none⟩) kp cp, .slice (some ⟨gq, 0, none⟩) kp cq] 27)) := by
        clear hst hdep hd h1 hs ho
        clear hE; generalize a.eval = ρ at ge ⊢
        unfold execOp; rw [show (opAt ops33_7 9).op = .buildSlice 24 1 #[(0, .tmp 38)] from by kernel_rfl]; try simp only [ge]
        go_simp
      exact op_value ho (by kernel_rfl) hr (made_val (d := 39) (by kernel_rfl) ⟨gp, cp, gq, cq, _, _, rfl, J33_7_le hS hst.world, own_new [.int .i64 5, .bool false, .string ⟨#[]⟩, .slice (some ⟨gp, 0, none⟩) kp cp, .slice (some ⟨gq, 0, none⟩) kp cq] rfl (J33_7_le hS hst.world) (by decide), ⟨own_ext hE.1 (Ext.alloc _ _), own_ext hE.2 (Ext.alloc _ _)⟩⟩ (J33_7_ext _ hS hst.world (Ext.alloc _ _) ((Below.refl _ _).alloc (Nat.le_trans hBS (J33_7_le hS hst.world)) _)) (fun j _ _ u h => R33_7_ext (Ext.alloc _ _) j u h))
  | 10, _, h1, hdep, ho =>
      obtain ⟨u, nv, hbx, hnv, hu, hoN, hoU⟩ := hst.world.2.2
      have hUw := hoU (unl h1)
      obtain ⟨gp, cp, gq, cq, gs, cs, e2, hgs, hos, hE⟩ := hst.got 9 (hdep 9 (by kernel_rfl))
      have e1 : a.eval (.tmp 35) = .slice (some ⟨gU, 0, none⟩) 2 cU := hst.got 5 (hdep 5 (by kernel_rfl))
      obtain ⟨i9, hi9, hz9, hzz9, hzb9⟩ := info_parts info27
      have hgU : gU < S0 := by have := (World.ownsRow.lt hU gU rfl).2; omega
      have hBU : B ≤ gU := (World.ownsRow.lt hU gU rfl).1
      obtain ⟨curU, cU', hblkU⟩ := own_block hUw rfl
      have hle := J33_7_le hS hst.world
      refine op_append ho (by kernel_rfl) (wp_append_lies w (.tmp 35) (.tmp 39) 24 (show (opAt ops33_7 10).op = _ from (by kernel_rfl)) B 27 i9 (.agg #[.int .i64 0, .bool false, .string ⟨#[]⟩, .slice none 0 0, .slice none 0 0]) 5 80 Tryz.underlying24 hi9 hz9 hzz9 hzb9 rfl (by decide) _ 2 XS e1 hUw ⟨gs, 0, none⟩ 1 cs [.int .i64 5, .bool false, .string ⟨#[]⟩, .slice (some ⟨gp, 0, none⟩) kp cp, .slice (some ⟨gq, 0, none⟩) kp cq] e2 rfl (hos.cells rfl) (by intro u hu; simp only [List.mem_cons, List.not_mem_nil, or_false] at hu; rcases hu with rfl | rfl | rfl | rfl | rfl <;> rfl) (by decide) (by decide) (by decide) (by omega) _ rfl ?_)
      intro g cap w' ho' hgr hgg hlt
      have hgg2 : g = gU ∨ S0 ≤ g := by rcases hgg with h | h; exact .inl (by simpa [Value.ownBlock] using h.symm); exact .inr (by omega)
      refine made_val (d := 40) (by kernel_rfl) ⟨gp, cp, gq, cq, g, cap, rfl, hgg2, ho', ⟨⟨hE.1.kept hgr (.inr (fun e => by have := World.ownsRow.lt hE.1 gp rfl; simp [Value.ownBlock] at e; omega)), hE.2.kept hgr (.inr (own_ne_own hE.2 hUw rfl (by decide)))⟩, fun e => by have h1 := World.ownsRow.lt hE.1 gp rfl; rcases hgg with h | h <;> (try simp [Value.ownBlock] at h) <;> omega⟩⟩ ⟨hst.world.1.trans ⟨hgr.os, hgr.tape, hgr.output, hgr.size, fun k hk => hgr.block k (by omega) (by simp only [Value.ownBlock]; intro e; injection e; omega)⟩, fun k hk a b c => (hgr.block k (by omega) (by simp only [Value.ownBlock]; intro e; injection e; omega)).trans (hst.world.2.1 k hk a b c), u, nv, (hgr.block b (by omega) (by simp only [Value.ownBlock]; intro e; injection e; omega)).trans hbx, fun h => hnv (unset h), fun h => hu (unset h), fun h => (hoN (unset h)).kept hgr (.inr (own_ne_own (hoN (unset h)) hUw rfl (by decide))), fun h => ?_⟩ ?_
      · rw [set_same (by rw [hs]; decide)] at h; cases h
      intro j hj hL u h
      match j, hj, hL, h with
      | 0, _, _, h => exact (show _ = _ from h)
      | 1, _, _, h => exact (show _ = _ from h)
      | 2, _, _, h => exact (let ⟨g, c, e, h1, h2⟩ := h; ⟨g, c, e, h1, h2.kept hgr (.inr (own_ne_own h2 hUw rfl (by decide)))⟩)
      | 3, _, _, h => exact (let ⟨g, c, e, h1, h2⟩ := h; ⟨g, c, e, h1, h2.kept hgr (.inr (own_ne_own h2 hUw rfl (by decide)))⟩)
      | 4, _, _, h => exact (show _ = _ from h)
      | 5, _, _, h => exact (show _ = _ from h)
      | 6, _, _, h => exact (show _ = _ from h)
      | 7, _, _, h => exact (show _ = _ from h)
      | 8, _, _, h => exact (let ⟨gp, cp, gq, cq, e, hE⟩ := h; ⟨gp, cp, gq, cq, e, ⟨hE.1.kept hgr (.inr (fun e => by have := World.ownsRow.lt hE.1 gp rfl; simp [Value.ownBlock] at e; omega)), hE.2.kept hgr (.inr (own_ne_own hE.2 hUw rfl (by decide)))⟩⟩)
      | 9, _, _, h => exact (let ⟨gp, cp, gq, cq, g, c, e, h1, h2, hE⟩ := h; ⟨gp, cp, gq, cq, g, c, e, h1, h2.kept hgr (.inr (fun e => by simp [Value.ownBlock] at e; omega)), ⟨hE.1.kept hgr (.inr (fun e => by have := World.ownsRow.lt hE.1 gp rfl; simp [Value.ownBlock] at e; omega)), hE.2.kept hgr (.inr (own_ne_own hE.2 hUw rfl (by decide)))⟩⟩)
      | 10, hj, _, _ => exact absurd rfl hj
      | 11, _, _, h => exact (show _ = _ from h)
      | 12, hj, hL, _ => exact absurd hL (by rw [(unlisted hs hd h1 (show waits .any ops33_7 12 10 = true from (by kernel_rfl)))]; decide)
      | 13, _, _, h => exact (show _ = _ from h)
      | 14, hj, hL, _ => exact absurd hL (by rw [(unlisted hs hd h1 (show waits .any ops33_7 14 10 = true from (by kernel_rfl)))]; decide)
      | _ + 15, _, _, _ => exact trivial
  | 11, _, h1, hdep, ho =>
      have s6 := (hst.rest 6 (by kernel_rfl)).trans hs6
      have hr : (execOp a.eval (opAt ops33_7 11)).run Tryz.prog w = .ok (.value (.pointer (some ⟨b, 4, none⟩))) w := by
        clear hst hdep hd h1 hs ho
        generalize a.eval = ρ at s6 ⊢
        unfold execOp; rw [show (opAt ops33_7 11).op = .fieldAddr 27 (.tmp 6) 4 from by kernel_rfl]; try simp only [s6]
        go_simp
      exact op_value ho (by kernel_rfl) hr (made_val (d := 41) (by kernel_rfl) rfl (J33_7_any _ hst.world) (fun _ _ _ _ h => h))
  | 12, _, h1, hdep, ho =>
      obtain ⟨u, nv, hbx, hnv, hu, hoN, hoU⟩ := hst.world.2.2
      have hle := J33_7_le hS hst.world
      have e1 : a.eval (.tmp 41) = .pointer (some ⟨b, 4, none⟩) := hst.got 11 (hdep 11 (by kernel_rfl))
      obtain ⟨g, c, e2, hgg, hog⟩ := hst.got 3 (hdep 3 (by kernel_rfl))
      have e2' : a.eval (.tmp 33) = .slice (some ⟨g, 0, none⟩) 3 c := e2
      have hr := run_cell25 (x := .tmp 41) (y := .tmp 33) (show (opAt ops33_7 12).op = _ from (by kernel_rfl)) e1 e2' hbx (by simp)
      have hbN : b ≠ gN := fun e => own_ne_blk hN hbox (.inl (by decide)) (by rw [e]; rfl)
      refine op_skip ho (by kernel_rfl) hr (made_skip (by kernel_rfl) (show World.cell? _ _ = some (a.eval (.tmp 33)) from (by rw [e2']; exact (cell_of_row _ b 4 _ 27 (0, 0) (blk_set hbx 4 _)).trans rfl)) ⟨hst.world.1.setCell (by simpa using hb) _, fun k hk a b c => (Below.heap_setCell _ _ _ k a).trans (hst.world.2.1 k hk a b c), _, _, (blk_set hbx 4 _), fun h => ?_, fun h => hu (unset h), fun h => set_own (hoN (unset h)) (fun e => hbN (by simpa [Value.ownBlock] using e.symm)), fun h => set_own (hoU (unset h)) (fun e => hbU (by simpa [Value.ownBlock] using e.symm))⟩ ?_)
      · rw [set_same (by rw [hs]; decide)] at h; cases h
      intro j hj hL u h
      match j, hj, hL, h with
      | 0, _, _, h => exact (show _ = _ from h)
      | 1, _, _, h => exact (show _ = _ from h)
      | 2, _, _, h => exact (let ⟨g, c, e, h1, h2⟩ := h; ⟨g, c, e, h1, set_own h2 (own_ne_blk h2 hbx (.inl (by decide)))⟩)
      | 3, _, _, h => exact (let ⟨g, c, e, h1, h2⟩ := h; ⟨g, c, e, h1, set_own h2 (own_ne_blk h2 hbx (.inl (by decide)))⟩)
      | 4, _, _, h => exact (show _ = _ from h)
      | 5, _, _, h => exact (show _ = _ from h)
      | 6, _, _, h => exact (show _ = _ from h)
      | 7, _, _, h => exact (show _ = _ from h)
      | 8, _, _, h => exact (let ⟨gp, cp, gq, cq, e, hE⟩ := h; ⟨gp, cp, gq, cq, e, ⟨set_own hE.1 (fun e => by have := World.ownsRow.lt hE.1 gp rfl; simp [Value.ownBlock] at e; omega), set_own hE.2 (fun e => by have := World.ownsRow.lt hE.2 gq rfl; simp [Value.ownBlock] at e; omega)⟩⟩)
      | 9, _, _, h => exact (let ⟨gp, cp, gq, cq, g, c, e, h1, h2, hE⟩ := h; ⟨gp, cp, gq, cq, g, c, e, h1, set_own h2 (fun e => by simp [Value.ownBlock] at e; omega), ⟨set_own hE.1 (fun e => by have := World.ownsRow.lt hE.1 gp rfl; simp [Value.ownBlock] at e; omega), set_own hE.2 (fun e => by have := World.ownsRow.lt hE.2 gq rfl; simp [Value.ownBlock] at e; omega)⟩⟩)
      | 10, _, _, h => exact (let ⟨gp, cp, gq, cq, g, c, e, h1, h2, hE⟩ := h; ⟨gp, cp, gq, cq, g, c, e, h1, set_own h2 (fun e => by simp [Value.ownBlock] at e; omega), ⟨⟨set_own hE.1.1 (fun e => by have := World.ownsRow.lt hE.1.1 gp rfl; simp [Value.ownBlock] at e; omega), set_own hE.1.2 (fun e => by have := World.ownsRow.lt hE.1.2 gq rfl; simp [Value.ownBlock] at e; omega)⟩, hE.2⟩⟩)
      | 11, _, _, h => exact (show _ = _ from h)
      | 12, hj, _, _ => exact absurd rfl hj
      | 13, _, _, h => exact (show _ = _ from h)
      | 14, hj, hL, _ => exact absurd hL (by rw [(unlisted hs hd h1 (show waits .any ops33_7 14 12 = true from (by kernel_rfl)))]; decide)
      | _ + 15, _, _, _ => exact trivial
  | 13, _, h1, hdep, ho =>
      have s6 := (hst.rest 6 (by kernel_rfl)).trans hs6
      have hr : (execOp a.eval (opAt ops33_7 13)).run Tryz.prog w = .ok (.value (.pointer (some ⟨b, 3, none⟩))) w := by
        clear hst hdep hd h1 hs ho
        generalize a.eval = ρ at s6 ⊢
        unfold execOp; rw [show (opAt ops33_7 13).op = .fieldAddr 27 (.tmp 6) 3 from by kernel_rfl]; try simp only [s6]
        go_simp
      exact op_value ho (by kernel_rfl) hr (made_val (d := 42) (by kernel_rfl) rfl (J33_7_any _ hst.world) (fun _ _ _ _ h => h))
  | 14, _, h1, hdep, ho =>
      obtain ⟨u, nv, hbx, hnv, hu, hoN, hoU⟩ := hst.world.2.2
      have hle := J33_7_le hS hst.world
      have e1 : a.eval (.tmp 42) = .pointer (some ⟨b, 3, none⟩) := hst.got 13 (hdep 13 (by kernel_rfl))
      obtain ⟨gp, cp, gq, cq, g, c, e2, hgg, hog, hE⟩ := hst.got 10 (hdep 10 (by kernel_rfl))
      have e2' : a.eval (.tmp 40) = .slice (some ⟨g, 0, none⟩) 3 c := e2
      have hr := run_cell24 (x := .tmp 42) (y := .tmp 40) (show (opAt ops33_7 14).op = _ from (by kernel_rfl)) e1 e2' hbx (by simp)
      have hbN : b ≠ gN := fun e => own_ne_blk hN hbox (.inl (by decide)) (by rw [e]; rfl)
      refine op_skip ho (by kernel_rfl) hr (made_skip (by kernel_rfl) (show World.cell? _ _ = some (a.eval (.tmp 40)) from (by rw [e2']; exact (cell_of_row _ b 3 _ 27 (0, 0) (blk_set hbx 3 _)).trans rfl)) ⟨hst.world.1.setCell (by simpa using hb) _, fun k hk a b c => (Below.heap_setCell _ _ _ k a).trans (hst.world.2.1 k hk a b c), _, _, (blk_set hbx 3 _), fun h => hnv (unset h), fun h => ?_, fun h => set_own (hoN (unset h)) (fun e => hbN (by simpa [Value.ownBlock] using e.symm)), fun h => set_own (hoU (unset h)) (fun e => hbU (by simpa [Value.ownBlock] using e.symm))⟩ ?_)
      · rw [set_same (by rw [hs]; decide)] at h; cases h
      intro j hj hL u h
      match j, hj, hL, h with
      | 0, _, _, h => exact (show _ = _ from h)
      | 1, _, _, h => exact (show _ = _ from h)
      | 2, _, _, h => exact (let ⟨g, c, e, h1, h2⟩ := h; ⟨g, c, e, h1, set_own h2 (own_ne_blk h2 hbx (.inl (by decide)))⟩)
      | 3, _, _, h => exact (let ⟨g, c, e, h1, h2⟩ := h; ⟨g, c, e, h1, set_own h2 (own_ne_blk h2 hbx (.inl (by decide)))⟩)
      | 4, _, _, h => exact (show _ = _ from h)
      | 5, _, _, h => exact (show _ = _ from h)
      | 6, _, _, h => exact (show _ = _ from h)
      | 7, _, _, h => exact (show _ = _ from h)
      | 8, _, _, h => exact (let ⟨gp, cp, gq, cq, e, hE⟩ := h; ⟨gp, cp, gq, cq, e, ⟨set_own hE.1 (fun e => by have := World.ownsRow.lt hE.1 gp rfl; simp [Value.ownBlock] at e; omega), set_own hE.2 (fun e => by have := World.ownsRow.lt hE.2 gq rfl; simp [Value.ownBlock] at e; omega)⟩⟩)
      | 9, _, _, h => exact (let ⟨gp, cp, gq, cq, g, c, e, h1, h2, hE⟩ := h; ⟨gp, cp, gq, cq, g, c, e, h1, set_own h2 (fun e => by simp [Value.ownBlock] at e; omega), ⟨set_own hE.1 (fun e => by have := World.ownsRow.lt hE.1 gp rfl; simp [Value.ownBlock] at e; omega), set_own hE.2 (fun e => by have := World.ownsRow.lt hE.2 gq rfl; simp [Value.ownBlock] at e; omega)⟩⟩)
      | 10, _, _, h => exact (let ⟨gp, cp, gq, cq, g, c, e, h1, h2, hE⟩ := h; ⟨gp, cp, gq, cq, g, c, e, h1, set_own h2 (fun e => by simp [Value.ownBlock] at e; omega), ⟨⟨set_own hE.1.1 (fun e => by have := World.ownsRow.lt hE.1.1 gp rfl; simp [Value.ownBlock] at e; omega), set_own hE.1.2 (fun e => by have := World.ownsRow.lt hE.1.2 gq rfl; simp [Value.ownBlock] at e; omega)⟩, hE.2⟩⟩)
      | 11, _, _, h => exact (show _ = _ from h)
      | 12, _, _, h => exact (cell_set h (by decide))
      | 13, _, _, h => exact (show _ = _ from h)
      | 14, hj, _, _ => exact absurd rfl hj
      | _ + 15, _, _, _ => exact trivial
  | k + 15, hi, _, _, _ => exact absurd hi (by omega)
set_option maxHeartbeats 1600000 in
theorem done33_7 {ops : Array Oper} (ho : ops = ops33_7) {Q : Exit → Act → World → Prop} {a0 : Act} {w0 : World} {B S0 b gN gU cN cU : Nat} {NS XS : List Value} {p : Nat} {xm : ByteArray} {xn : ByteArray} {xz : Nat} {xa : ByteArray} {xo : ByteArray} {xv : ByteArray} {kp : Nat} {XP : List Value} {NP : List Value} (hS : w0.heap.size = S0) (hBS : B ≤ S0) (hb : B ≤ b) (hbS : b < S0) (hbU : b ≠ gU) (hbox : w0.heap[b]? = some (.cells #[.int .i64 5, .bool false, .string ⟨#[]⟩, .slice (some ⟨gU, 0, none⟩) 2 cU, .slice (some ⟨gN, 0, none⟩) 2 cN] 27 (0, 0))) (hN : w0.ownsRow B 9 1 (.slice (some ⟨gN, 0, none⟩) 2 cN) 2 NS) (hU : w0.ownsRow B 27 5 (.slice (some ⟨gU, 0, none⟩) 2 cU) 2 XS) (hpS : p < S0) (hpb : p ≠ b) (hpN : p ≠ gN) (hpU : p ≠ gU) (hp : w0.heap[p]? = some (.cells #[.string xm, .string xn, .int .i64 (xz : Int), .string xa, .string xo, .string xv] 62 (0, 0))) (HP : ∀ w, Calls Tryz.prog 78 #[.agg #[.string xa, .string xo, .string xv]] w (fun e w' => ∃ gp cp gq cq : Nat, e = .returned (.agg #[.int .i64 5, .bool false, .string ⟨#[]⟩, .slice (some ⟨gp, 0, none⟩) kp cp, .slice (some ⟨gq, 0, none⟩) kp cq]) ∧ w'.ownsRow w.heap.size 27 5 (.slice (some ⟨gp, 0, none⟩) kp cp) kp XP ∧ w'.ownsRow w.heap.size 9 1 (.slice (some ⟨gq, 0, none⟩) kp cq) kp NP ∧ Below w.heap.size w w')) (hs6 : a0.eval (.tmp 6) = .pointer (some ⟨b, 0, none⟩)) (hs1 : a0.eval (.tmp 1) = .pointer (some ⟨p, 0, none⟩)) (hsz : a0.tmps.size = 55)
    (HK : ∀ (a : Act) (w : World) (gp cp gq cq : Nat) (g1 c1 : Nat) (g2 c2 : Nat), a.defers = a0.defers → a.tmps.size = 55 → (∀ s, freeB ops33_7 s = true → a.eval (.tmp s) = a0.eval (.tmp s)) → Below B w0 w → (∀ k, k < S0 → k ≠ b → k ≠ gN → k ≠ gU → w.heap[k]? = w0.heap[k]?) → w.heap[b]? = some (.cells #[.int .i64 5, .bool false, .string ⟨#[]⟩, .slice (some ⟨g2, 0, none⟩) 3 c2, .slice (some ⟨g1, 0, none⟩) 3 c1] 27 (0, 0)) → (g1 = gN ∨ S0 ≤ g1) → w.ownsRow B 9 1 (.slice (some ⟨g1, 0, none⟩) 3 c1) 3 (NS ++ [.string ⟨#[112, 108, 97, 116, 102, 111, 114, 109]⟩]) → (g2 = gU ∨ S0 ≤ g2) → w.ownsRow B 27 5 (.slice (some ⟨g2, 0, none⟩) 3 c2) 3 (XS ++ [.int .i64 5, .bool false, .string ⟨#[]⟩, .slice (some ⟨gp, 0, none⟩) kp cp, .slice (some ⟨gq, 0, none⟩) kp cq]) → (w.ownsRow S0 27 5 (.slice (some ⟨gp, 0, none⟩) kp cp) kp XP ∧ w.ownsRow S0 9 1 (.slice (some ⟨gq, 0, none⟩) kp cq) kp NP) ∧ gp ≠ g2 → Q .normal a w) : (Code.region 7 ops true).wp Tryz.prog Q a0 w0 := by
  refine reg33_7 ho hS hBS hb hbS hbU hbox hN hU hpS hpb hpN hpU hp HP hs6 hs1 hsz (fun L a w hJ hd hs hr hR => ?_)
  obtain ⟨hb', hun, u, nv, hbx, hnv, -, hoN, -⟩ := hJ
  have c4 : w.cell? ⟨b, 4, none⟩ = some (a.eval (.tmp 33)) := hR 12 (by decide)
  obtain ⟨g1, c1, e1, hg1, ho1⟩ := hR 3 (by decide)
  obtain rfl : nv = .slice (some ⟨g1, 0, none⟩) 3 c1 := by have h := (cell_of_row w b 4 _ 27 (0, 0) hbx).symm.trans c4; rw [show a.eval (.tmp 33) = _ from e1] at h; simpa using h
  have c3 : w.cell? ⟨b, 3, none⟩ = some (a.eval (.tmp 40)) := hR 14 (by decide)
  obtain ⟨gp, cp, gq, cq, g2, c2, e2, hg2, ho2, hE⟩ := hR 10 (by decide)
  obtain rfl : u = .slice (some ⟨g2, 0, none⟩) 3 c2 := by have h := (cell_of_row w b 3 _ 27 (0, 0) hbx).symm.trans c3; rw [show a.eval (.tmp 40) = _ from e2] at h; simpa using h
  exact HK a w gp cp gq cq g1 c1 g2 c2 hd hs hr hb' hun hbx hg1 ho1 hg2 ho2 hE
noncomputable def ops33_8 : Array Oper := (Tryz.f33.body.bind (inCode 8)).getD #[]
def sl33_8 : Nat → Nat
  | 0 => 43
  | 1 => 44
  | 2 => 45
  | 3 => 46
  | 4 => 47
  | 5 => 48
  | 6 => 49
  | 7 => 50
  | 8 => 51
  | 9 => 52
  | 10 => 46
  | 11 => 53
  | 12 => 51
  | _ => 0
def R33_8 (B S0 b gN gU cN cU : Nat) (NS XS : List Value) (p : Nat) (xs : ByteArray) : Nat → Value → World → Prop
  | 0, v, w => v = .pointer (some ⟨b, 4, none⟩)
  | 1, v, w => v = .slice (some ⟨gN, 0, none⟩) 2 cN
  | 2, v, w => ∃ g c, v = .slice (some ⟨g, 0, none⟩) 1 c ∧ S0 ≤ g ∧ w.ownsRow S0 9 1 (.slice (some ⟨g, 0, none⟩) 1 c) 1 [.string ⟨#[115, 105, 122, 101]⟩]
  | 3, v, w => ∃ g c, v = .slice (some ⟨g, 0, none⟩) 3 c ∧ (g = gN ∨ S0 ≤ g) ∧ w.ownsRow B 9 1 (.slice (some ⟨g, 0, none⟩) 3 c) 3 (NS ++ [.string ⟨#[115, 105, 122, 101]⟩])
  | 4, v, w => v = .pointer (some ⟨b, 3, none⟩)
  | 5, v, w => v = .slice (some ⟨gU, 0, none⟩) 2 cU
  | 6, v, w => v = .agg #[.int .i64 2, .bool false, .string xs, .slice none 0 0, .slice none 0 0]
  | 7, v, w => ∃ g c, v = .slice (some ⟨g, 0, none⟩) 1 c ∧ S0 ≤ g ∧ w.ownsRow S0 27 5 (.slice (some ⟨g, 0, none⟩) 1 c) 1 [.int .i64 2, .bool false, .string xs, .slice none 0 0, .slice none 0 0]
  | 8, v, w => ∃ g c, v = .slice (some ⟨g, 0, none⟩) 3 c ∧ (g = gU ∨ S0 ≤ g) ∧ w.ownsRow B 27 5 (.slice (some ⟨g, 0, none⟩) 3 c) 3 (XS ++ [.int .i64 2, .bool false, .string xs, .slice none 0 0, .slice none 0 0])
  | 9, v, w => v = .pointer (some ⟨b, 4, none⟩)
  | 10, v, w => w.cell? ⟨b, 4, none⟩ = some v
  | 11, v, w => v = .pointer (some ⟨b, 3, none⟩)
  | 12, v, w => w.cell? ⟨b, 3, none⟩ = some v
  | _, _, _ => True
theorem R33_8_ext {B S0 b gN gU cN cU : Nat} {NS XS : List Value} {p : Nat} {xs : ByteArray} {w w' : World} (hx : Ext w w') : ∀ j u, R33_8 B S0 b gN gU cN cU NS XS p xs j u w → R33_8 B S0 b gN gU cN cU NS XS p xs j u w'
  | 0, _, h => h
  | 1, _, h => h
  | 2, _, h => let ⟨g, c, e, h1, h2⟩ := h; ⟨g, c, e, h1, own_ext h2 hx⟩
  | 3, _, h => let ⟨g, c, e, h1, h2⟩ := h; ⟨g, c, e, h1, own_ext h2 hx⟩
  | 4, _, h => h
  | 5, _, h => h
  | 6, _, h => h
  | 7, _, h => let ⟨g, c, e, h1, h2⟩ := h; ⟨g, c, e, h1, own_ext h2 hx⟩
  | 8, _, h => let ⟨g, c, e, h1, h2⟩ := h; ⟨g, c, e, h1, own_ext h2 hx⟩
  | 9, _, h => h
  | 10, _, h => cell_ext h hx
  | 11, _, h => h
  | 12, _, h => cell_ext h hx
  | _ + 13, _, _ => trivial
def J33_8 (B : Nat) (w0 : World) (B S0 b gN gU cN cU : Nat) (NS XS : List Value) (L : Array Bool) (w : World) : Prop := Below B w0 w ∧ (∀ k, k < S0 → k ≠ b → k ≠ gN → k ≠ gU → w.heap[k]? = w0.heap[k]?) ∧ ∃ u nv, w.heap[b]? = some (.cells #[.int .i64 5, .bool false, .string ⟨#[]⟩, u, nv] 27 (0, 0)) ∧ (L.getD 10 false = false → nv = .slice (some ⟨gN, 0, none⟩) 2 cN) ∧ (L.getD 12 false = false → u = .slice (some ⟨gU, 0, none⟩) 2 cU) ∧ (L.getD 3 false = false → w.ownsRow B 9 1 (.slice (some ⟨gN, 0, none⟩) 2 cN) 2 NS) ∧ (L.getD 8 false = false → w.ownsRow B 27 5 (.slice (some ⟨gU, 0, none⟩) 2 cU) 2 XS)
theorem J33_8_any {B : Nat} {w0 : World} {S0 b gN gU cN cU : Nat} {NS XS : List Value} {L : Array Bool} (i : Nat) {w : World} (h : J33_8 B w0 B S0 b gN gU cN cU NS XS L w) : J33_8 B w0 B S0 b gN gU cN cU NS XS (L.setIfInBounds i true) w := by
  obtain ⟨h1, h2, u, nv, h3, h4, h5, h6, h7⟩ := h
  exact ⟨h1, h2, u, nv, h3, fun h => h4 (unset h), fun h => h5 (unset h), fun h => h6 (unset h), fun h => h7 (unset h)⟩
theorem J33_8_le {B : Nat} {w0 : World} {S0 b gN gU cN cU : Nat} {NS XS : List Value} {L : Array Bool} {w : World} (hS : w0.heap.size = S0) (h : J33_8 B w0 B S0 b gN gU cN cU NS XS L w) : S0 ≤ w.heap.size := hS ▸ h.1.size
theorem J33_8_ext {B : Nat} {w0 : World} {S0 b gN gU cN cU : Nat} {NS XS : List Value} {L : Array Bool} (i : Nat) {w w' : World} (hS : w0.heap.size = S0) (h : J33_8 B w0 B S0 b gN gU cN cU NS XS L w) (hx : Ext w w') (hb : Below B w w') : J33_8 B w0 B S0 b gN gU cN cU NS XS (L.setIfInBounds i true) w' := by
  have hle := J33_8_le hS h
  obtain ⟨h1, h2, u, nv, h3, h4, h5, h6, h7⟩ := h
  exact ⟨h1.trans hb, fun k hk a b c => (hx.2 k (by omega)).trans (h2 k hk a b c), u, nv, blk_ext h3 hx, fun h => h4 (unset h), fun h => h5 (unset h), fun h => own_ext (h6 (unset h)) hx, fun h => own_ext (h7 (unset h)) hx⟩
set_option maxHeartbeats 1600000 in
theorem reg33_8 {ops : Array Oper} (ho : ops = ops33_8) {Q : Exit → Act → World → Prop} {a0 : Act} {w0 : World} {B S0 b gN gU cN cU : Nat} {NS XS : List Value} {p : Nat} {xs : ByteArray} (hS : w0.heap.size = S0) (hBS : B ≤ S0) (hb : B ≤ b) (hbS : b < S0) (hbU : b ≠ gU) (hbox : w0.heap[b]? = some (.cells #[.int .i64 5, .bool false, .string ⟨#[]⟩, .slice (some ⟨gU, 0, none⟩) 2 cU, .slice (some ⟨gN, 0, none⟩) 2 cN] 27 (0, 0))) (hN : w0.ownsRow B 9 1 (.slice (some ⟨gN, 0, none⟩) 2 cN) 2 NS) (hU : w0.ownsRow B 27 5 (.slice (some ⟨gU, 0, none⟩) 2 cU) 2 XS) (hpS : p < S0) (hpb : p ≠ b) (hpN : p ≠ gN) (hpU : p ≠ gU) (hp : w0.heap[p]? = some (.cells #[.int .i64 2, .bool false, .string xs, .slice none 0 0, .slice none 0 0] 27 (0, 0))) (hs6 : a0.eval (.tmp 6) = .pointer (some ⟨b, 0, none⟩)) (hs5 : a0.eval (.tmp 5) = .pointer (some ⟨p, 0, none⟩)) (hsz : a0.tmps.size = 55)
    (HK : ∀ L a w, J33_8 B w0 B S0 b gN gU cN cU NS XS L w → a.defers = a0.defers → a.tmps.size = 55 → (∀ s, freeB ops33_8 s = true → a.eval (.tmp s) = a0.eval (.tmp s)) → (∀ i, i < 13 → R33_8 B S0 b gN gU cN cU NS XS p xs i (a.eval (.tmp (sl33_8 i))) w) → Q .normal a w) : (Code.region 8 ops true).wp Tryz.prog Q a0 w0 := by
  subst ho
  refine region_made (n := 13) (sl := sl33_8) (J := J33_8 B w0 B S0 b gN gU cN cU NS XS) (R := R33_8 B S0 b gN gU cN cU NS XS p xs) (by kernel_rfl) (by kernel_rfl) (by kernel_rfl) (by rw [hsz]; kernel_rfl) ?_ ⟨(Below.refl _ _).drew, fun _ _ _ _ _ => rfl, _, _, hbox, fun _ => rfl, fun _ => rfl, fun _ => hN, fun _ => hU⟩ (fun L a w hall hf => HK L a w hf.world hf.defers (hf.size.trans hsz) hf.rest (fun i hi => hf.got i (hall i hi)))
  intro i hi L a w hs h1 hdep hd hst ho
  clear HK
  match i, hi, h1, hdep, ho with
  | 0, _, h1, hdep, ho =>
      have s6 := (hst.rest 6 (by kernel_rfl)).trans hs6
      have hr : (execOp a.eval (opAt ops33_8 0)).run Tryz.prog w = .ok (.value (.pointer (some ⟨b, 4, none⟩))) w := by
        clear hst hdep hd h1 hs ho
        generalize a.eval = ρ at s6 ⊢
        unfold execOp; rw [show (opAt ops33_8 0).op = .fieldAddr 27 (.tmp 6) 4 from by kernel_rfl]; try simp only [s6]
        go_simp
      exact op_value ho (by kernel_rfl) hr (made_val (d := 43) (by kernel_rfl) rfl (J33_8_any _ hst.world) (fun _ _ _ _ h => h))
  | 1, _, h1, hdep, ho =>
      obtain ⟨u, nv, hbx, hnv, hu, hoN, hoU⟩ := hst.world.2.2
      obtain rfl := hnv (unlisted hs hd h1 (show waits .any ops33_8 10 1 = true from (by kernel_rfl)))
      have cb := fun o => cell_of_row w b o _ 27 (0, 0) hbx
      clear hbx hu hoN hoU
      have g0 : a.eval (.tmp 43) = .pointer (some ⟨b, 4, none⟩) := hst.got 0 (hdep 0 (by kernel_rfl))
      have hr : (execOp a.eval (opAt ops33_8 1)).run Tryz.prog w = .ok (.value (.slice (some ⟨gN, 0, none⟩) 2 cN)) w := by
        clear hst hdep hd h1 hs ho
        generalize a.eval = ρ at g0 ⊢
        unfold execOp; rw [show (opAt ops33_8 1).op = .load 25 (.tmp 43) from by kernel_rfl]; try simp only [g0]
        go_simp
      exact op_value ho (by kernel_rfl) hr (made_val (d := 44) (by kernel_rfl) rfl (J33_8_any _ hst.world) (fun _ _ _ _ h => h))
  | 2, _, h1, hdep, ho =>
      have hr : (execOp a.eval (opAt ops33_8 2)).run Tryz.prog w = .ok (.value (.slice (some ⟨w.heap.size, 0, none⟩) 1 1)) (w.alloc (.cells #[.string ⟨#[115, 105, 122, 101]⟩] 9)) := by
        clear hst hdep hd h1 hs ho
        have hk : ∀ v, a.eval (.const v) = v := fun _ => rfl; generalize a.eval = ρ at hk ⊢
        unfold execOp; rw [show (opAt ops33_8 2).op = .buildSlice 25 1 #[(0, .const (.string ⟨#[115, 105, 122, 101]⟩))] from by kernel_rfl]; try simp only [hk]
        go_simp
      exact op_value ho (by kernel_rfl) hr (made_val (d := 45) (by kernel_rfl) (⟨_, _, rfl, J33_8_le hS hst.world, own_new [.string ⟨#[115, 105, 122, 101]⟩] rfl (J33_8_le hS hst.world) (by decide)⟩) (J33_8_ext _ hS hst.world (Ext.alloc _ _) ((Below.refl _ _).alloc (Nat.le_trans hBS (J33_8_le hS hst.world)) _)) (fun j _ _ u h => R33_8_ext (Ext.alloc _ _) j u h))
  | 3, _, h1, hdep, ho =>
      obtain ⟨u, nv, hbx, hnv, hu, hoN, hoU⟩ := hst.world.2.2
      have hNw := hoN (unl h1)
      obtain ⟨gs, cs, e2, hgs, hos⟩ := hst.got 2 (hdep 2 (by kernel_rfl))
      have e1 : a.eval (.tmp 44) = .slice (some ⟨gN, 0, none⟩) 2 cN := hst.got 1 (hdep 1 (by kernel_rfl))
      obtain ⟨i9, hi9, hz9, hzz9, hzb9⟩ := info_parts info9
      have hgN : gN < S0 := by have := (World.ownsRow.lt hN gN rfl).2; omega
      have hBN : B ≤ gN := (World.ownsRow.lt hN gN rfl).1
      have hbN : b ≠ gN := fun e => own_ne_blk hNw hbx (.inl (by decide)) (by rw [e]; rfl)
      obtain ⟨curN, cN', hblkN⟩ := own_block hNw rfl
      have hle := J33_8_le hS hst.world
      refine op_append ho (by kernel_rfl) (wp_append_lies w (.tmp 44) (.tmp 45) 25 (show (opAt ops33_8 3).op = _ from (by kernel_rfl)) B 9 i9 (.string ⟨#[]⟩) 1 16 Tryz.underlying25 hi9 hz9 hzz9 hzb9 rfl (by decide) _ 2 NS e1 hNw ⟨gs, 0, none⟩ 1 cs [.string ⟨#[115, 105, 122, 101]⟩] e2 rfl (hos.cells rfl) (by intro u hu; simp only [List.mem_cons, List.not_mem_nil, or_false] at hu; subst hu; rfl) (by decide) (by decide) (by decide) (by omega) _ rfl ?_)
      intro g cap w' ho' hgr hgg hlt
      have hgg2 : g = gN ∨ S0 ≤ g := by rcases hgg with h | h; exact .inl (by simpa [Value.ownBlock] using h.symm); exact .inr (by omega)
      refine made_val (d := 46) (by kernel_rfl) ⟨g, cap, rfl, hgg2, ho'⟩ ⟨hst.world.1.trans ⟨hgr.os, hgr.tape, hgr.output, hgr.size, fun k hk => hgr.block k (by omega) (by simp only [Value.ownBlock]; intro e; injection e; omega)⟩, fun k hk a b c => (hgr.block k (by omega) (by simp only [Value.ownBlock]; intro e; injection e; omega)).trans (hst.world.2.1 k hk a b c), u, nv, (hgr.block b (by omega) (by simp only [Value.ownBlock]; intro e; injection e; omega)).trans hbx, fun h => hnv (unset h), fun h => hu (unset h), fun h => ?_, fun h => (hoU (unset h)).kept hgr (.inr (own_ne_own (hoU (unset h)) hNw rfl (by decide)))⟩ ?_
      · rw [set_same (by rw [hs]; decide)] at h; cases h
      intro j hj hL u h
      match j, hj, hL, h with
      | 0, _, _, h => exact (show _ = _ from h)
      | 1, _, _, h => exact (show _ = _ from h)
      | 2, _, _, h => exact (let ⟨g, c, e, h1, h2⟩ := h; ⟨g, c, e, h1, h2.kept hgr (.inr (fun e => by simp [Value.ownBlock] at e; omega))⟩)
      | 3, hj, _, _ => exact absurd rfl hj
      | 4, _, _, h => exact (show _ = _ from h)
      | 5, _, _, h => exact (show _ = _ from h)
      | 6, _, _, h => exact (show _ = _ from h)
      | 7, _, _, h => exact (let ⟨g, c, e, h1, h2⟩ := h; ⟨g, c, e, h1, h2.kept hgr (.inr (own_ne_own h2 hNw rfl (by decide)))⟩)
      | 8, _, _, h => exact (let ⟨g, c, e, h1, h2⟩ := h; ⟨g, c, e, h1, h2.kept hgr (.inr (own_ne_own h2 hNw rfl (by decide)))⟩)
      | 9, _, _, h => exact (show _ = _ from h)
      | 10, hj, hL, _ => exact absurd hL (by rw [(unlisted hs hd h1 (show waits .any ops33_8 10 3 = true from (by kernel_rfl)))]; decide)
      | 11, _, _, h => exact (show _ = _ from h)
      | 12, hj, hL, _ => exact absurd hL (by rw [(unlisted hs hd h1 (show waits .any ops33_8 12 3 = true from (by kernel_rfl)))]; decide)
      | _ + 13, _, _, _ => exact trivial
  | 4, _, h1, hdep, ho =>
      have s6 := (hst.rest 6 (by kernel_rfl)).trans hs6
      have hr : (execOp a.eval (opAt ops33_8 4)).run Tryz.prog w = .ok (.value (.pointer (some ⟨b, 3, none⟩))) w := by
        clear hst hdep hd h1 hs ho
        generalize a.eval = ρ at s6 ⊢
        unfold execOp; rw [show (opAt ops33_8 4).op = .fieldAddr 27 (.tmp 6) 3 from by kernel_rfl]; try simp only [s6]
        go_simp
      exact op_value ho (by kernel_rfl) hr (made_val (d := 47) (by kernel_rfl) rfl (J33_8_any _ hst.world) (fun _ _ _ _ h => h))
  | 5, _, h1, hdep, ho =>
      obtain ⟨u, nv, hbx, hnv, hu, hoN, hoU⟩ := hst.world.2.2
      obtain rfl := hu (unlisted hs hd h1 (show waits .any ops33_8 12 5 = true from (by kernel_rfl)))
      have cb := fun o => cell_of_row w b o _ 27 (0, 0) hbx
      clear hbx hnv hoN hoU
      have g4 : a.eval (.tmp 47) = .pointer (some ⟨b, 3, none⟩) := hst.got 4 (hdep 4 (by kernel_rfl))
      have hr : (execOp a.eval (opAt ops33_8 5)).run Tryz.prog w = .ok (.value (.slice (some ⟨gU, 0, none⟩) 2 cU)) w := by
        clear hst hdep hd h1 hs ho
        generalize a.eval = ρ at g4 ⊢
        unfold execOp; rw [show (opAt ops33_8 5).op = .load 24 (.tmp 47) from by kernel_rfl]; try simp only [g4]
        go_simp
      exact op_value ho (by kernel_rfl) hr (made_val (d := 48) (by kernel_rfl) rfl (J33_8_any _ hst.world) (fun _ _ _ _ h => h))
  | 6, _, h1, hdep, ho =>
      have hpw := (hst.world.2.1 p hpS hpb hpN hpU).trans hp
      have cp := fun o => cell_of_row w p o _ 27 (0, 0) hpw
      clear hpw
      have s5 := (hst.rest 5 (by kernel_rfl)).trans hs5
      have hr : (execOp a.eval (opAt ops33_8 6)).run Tryz.prog w = .ok (.value (.agg #[.int .i64 2, .bool false, .string xs, .slice none 0 0, .slice none 0 0])) w := by
        clear hst hdep hd h1 hs ho
        generalize a.eval = ρ at s5 ⊢
        unfold execOp; rw [show (opAt ops33_8 6).op = .load 27 (.tmp 5) from by kernel_rfl]; try simp only [s5]
        go_simp
      exact op_value ho (by kernel_rfl) hr (made_val (d := 49) (by kernel_rfl) rfl (J33_8_any _ hst.world) (fun _ _ _ _ h => h))
  | 7, _, h1, hdep, ho =>
      have ge : a.eval (.tmp 49) = .agg #[.int .i64 2, .bool false, .string xs, .slice none 0 0, .slice none 0 0] := hst.got 6 (hdep 6 (by kernel_rfl))
      have hr : (execOp a.eval (opAt ops33_8 7)).run Tryz.prog w = .ok (.value (.slice (some ⟨w.heap.size, 0, none⟩) 1 1)) (w.alloc (.cells #[.int .i64 2, .bool false, .string xs, .slice none 0 0, .slice none 0 0] 27)) := by
        clear hst hdep hd h1 hs ho
        generalize a.eval = ρ at ge ⊢
        unfold execOp; rw [show (opAt ops33_8 7).op = .buildSlice 24 1 #[(0, .tmp 49)] from by kernel_rfl]; try simp only [ge]
        go_simp
      exact op_value ho (by kernel_rfl) hr (made_val (d := 50) (by kernel_rfl) ⟨_, _, rfl, J33_8_le hS hst.world, own_new [.int .i64 2, .bool false, .string xs, .slice none 0 0, .slice none 0 0] rfl (J33_8_le hS hst.world) (by decide)⟩ (J33_8_ext _ hS hst.world (Ext.alloc _ _) ((Below.refl _ _).alloc (Nat.le_trans hBS (J33_8_le hS hst.world)) _)) (fun j _ _ u h => R33_8_ext (Ext.alloc _ _) j u h))
  | 8, _, h1, hdep, ho =>
      obtain ⟨u, nv, hbx, hnv, hu, hoN, hoU⟩ := hst.world.2.2
      have hUw := hoU (unl h1)
      obtain ⟨gs, cs, e2, hgs, hos⟩ := hst.got 7 (hdep 7 (by kernel_rfl))
      have e1 : a.eval (.tmp 48) = .slice (some ⟨gU, 0, none⟩) 2 cU := hst.got 5 (hdep 5 (by kernel_rfl))
      obtain ⟨i9, hi9, hz9, hzz9, hzb9⟩ := info_parts info27
      have hgU : gU < S0 := by have := (World.ownsRow.lt hU gU rfl).2; omega
      have hBU : B ≤ gU := (World.ownsRow.lt hU gU rfl).1
      obtain ⟨curU, cU', hblkU⟩ := own_block hUw rfl
      have hle := J33_8_le hS hst.world
      refine op_append ho (by kernel_rfl) (wp_append_lies w (.tmp 48) (.tmp 50) 24 (show (opAt ops33_8 8).op = _ from (by kernel_rfl)) B 27 i9 (.agg #[.int .i64 0, .bool false, .string ⟨#[]⟩, .slice none 0 0, .slice none 0 0]) 5 80 Tryz.underlying24 hi9 hz9 hzz9 hzb9 rfl (by decide) _ 2 XS e1 hUw ⟨gs, 0, none⟩ 1 cs [.int .i64 2, .bool false, .string xs, .slice none 0 0, .slice none 0 0] e2 rfl (hos.cells rfl) (by intro u hu; simp only [List.mem_cons, List.not_mem_nil, or_false] at hu; rcases hu with rfl | rfl | rfl | rfl | rfl <;> rfl) (by decide) (by decide) (by decide) (by omega) _ rfl ?_)
      intro g cap w' ho' hgr hgg hlt
      have hgg2 : g = gU ∨ S0 ≤ g := by rcases hgg with h | h; exact .inl (by simpa [Value.ownBlock] using h.symm); exact .inr (by omega)
      refine made_val (d := 51) (by kernel_rfl) ⟨g, cap, rfl, hgg2, ho'⟩ ⟨hst.world.1.trans ⟨hgr.os, hgr.tape, hgr.output, hgr.size, fun k hk => hgr.block k (by omega) (by simp only [Value.ownBlock]; intro e; injection e; omega)⟩, fun k hk a b c => (hgr.block k (by omega) (by simp only [Value.ownBlock]; intro e; injection e; omega)).trans (hst.world.2.1 k hk a b c), u, nv, (hgr.block b (by omega) (by simp only [Value.ownBlock]; intro e; injection e; omega)).trans hbx, fun h => hnv (unset h), fun h => hu (unset h), fun h => (hoN (unset h)).kept hgr (.inr (own_ne_own (hoN (unset h)) hUw rfl (by decide))), fun h => ?_⟩ ?_
      · rw [set_same (by rw [hs]; decide)] at h; cases h
      intro j hj hL u h
      match j, hj, hL, h with
      | 0, _, _, h => exact (show _ = _ from h)
      | 1, _, _, h => exact (show _ = _ from h)
      | 2, _, _, h => exact (let ⟨g, c, e, h1, h2⟩ := h; ⟨g, c, e, h1, h2.kept hgr (.inr (own_ne_own h2 hUw rfl (by decide)))⟩)
      | 3, _, _, h => exact (let ⟨g, c, e, h1, h2⟩ := h; ⟨g, c, e, h1, h2.kept hgr (.inr (own_ne_own h2 hUw rfl (by decide)))⟩)
      | 4, _, _, h => exact (show _ = _ from h)
      | 5, _, _, h => exact (show _ = _ from h)
      | 6, _, _, h => exact (show _ = _ from h)
      | 7, _, _, h => exact (let ⟨g, c, e, h1, h2⟩ := h; ⟨g, c, e, h1, h2.kept hgr (.inr (fun e => by simp [Value.ownBlock] at e; omega))⟩)
      | 8, hj, _, _ => exact absurd rfl hj
      | 9, _, _, h => exact (show _ = _ from h)
      | 10, hj, hL, _ => exact absurd hL (by rw [(unlisted hs hd h1 (show waits .any ops33_8 10 8 = true from (by kernel_rfl)))]; decide)
      | 11, _, _, h => exact (show _ = _ from h)
      | 12, hj, hL, _ => exact absurd hL (by rw [(unlisted hs hd h1 (show waits .any ops33_8 12 8 = true from (by kernel_rfl)))]; decide)
      | _ + 13, _, _, _ => exact trivial
  | 9, _, h1, hdep, ho =>
      have s6 := (hst.rest 6 (by kernel_rfl)).trans hs6
      have hr : (execOp a.eval (opAt ops33_8 9)).run Tryz.prog w = .ok (.value (.pointer (some ⟨b, 4, none⟩))) w := by
        clear hst hdep hd h1 hs ho
        generalize a.eval = ρ at s6 ⊢
        unfold execOp; rw [show (opAt ops33_8 9).op = .fieldAddr 27 (.tmp 6) 4 from by kernel_rfl]; try simp only [s6]
        go_simp
      exact op_value ho (by kernel_rfl) hr (made_val (d := 52) (by kernel_rfl) rfl (J33_8_any _ hst.world) (fun _ _ _ _ h => h))
  | 10, _, h1, hdep, ho =>
      obtain ⟨u, nv, hbx, hnv, hu, hoN, hoU⟩ := hst.world.2.2
      have hle := J33_8_le hS hst.world
      have e1 : a.eval (.tmp 52) = .pointer (some ⟨b, 4, none⟩) := hst.got 9 (hdep 9 (by kernel_rfl))
      obtain ⟨g, c, e2, hgg, hog⟩ := hst.got 3 (hdep 3 (by kernel_rfl))
      have e2' : a.eval (.tmp 46) = .slice (some ⟨g, 0, none⟩) 3 c := e2
      have hr := run_cell25 (x := .tmp 52) (y := .tmp 46) (show (opAt ops33_8 10).op = _ from (by kernel_rfl)) e1 e2' hbx (by simp)
      have hbN : b ≠ gN := fun e => own_ne_blk hN hbox (.inl (by decide)) (by rw [e]; rfl)
      refine op_skip ho (by kernel_rfl) hr (made_skip (by kernel_rfl) (show World.cell? _ _ = some (a.eval (.tmp 46)) from (by rw [e2']; exact (cell_of_row _ b 4 _ 27 (0, 0) (blk_set hbx 4 _)).trans rfl)) ⟨hst.world.1.setCell (by simpa using hb) _, fun k hk a b c => (Below.heap_setCell _ _ _ k a).trans (hst.world.2.1 k hk a b c), _, _, (blk_set hbx 4 _), fun h => ?_, fun h => hu (unset h), fun h => set_own (hoN (unset h)) (fun e => hbN (by simpa [Value.ownBlock] using e.symm)), fun h => set_own (hoU (unset h)) (fun e => hbU (by simpa [Value.ownBlock] using e.symm))⟩ ?_)
      · rw [set_same (by rw [hs]; decide)] at h; cases h
      intro j hj hL u h
      match j, hj, hL, h with
      | 0, _, _, h => exact (show _ = _ from h)
      | 1, _, _, h => exact (show _ = _ from h)
      | 2, _, _, h => exact (let ⟨g, c, e, h1, h2⟩ := h; ⟨g, c, e, h1, set_own h2 (own_ne_blk h2 hbx (.inl (by decide)))⟩)
      | 3, _, _, h => exact (let ⟨g, c, e, h1, h2⟩ := h; ⟨g, c, e, h1, set_own h2 (own_ne_blk h2 hbx (.inl (by decide)))⟩)
      | 4, _, _, h => exact (show _ = _ from h)
      | 5, _, _, h => exact (show _ = _ from h)
      | 6, _, _, h => exact (show _ = _ from h)
      | 7, _, _, h => exact (let ⟨g, c, e, h1, h2⟩ := h; ⟨g, c, e, h1, set_own h2 (fun e => by simp [Value.ownBlock] at e; omega)⟩)
      | 8, _, _, h => exact (let ⟨g, c, e, h1, h2⟩ := h; ⟨g, c, e, h1, set_own h2 (fun e => by simp [Value.ownBlock] at e; omega)⟩)
      | 9, _, _, h => exact (show _ = _ from h)
      | 10, hj, _, _ => exact absurd rfl hj
      | 11, _, _, h => exact (show _ = _ from h)
      | 12, hj, hL, _ => exact absurd hL (by rw [(unlisted hs hd h1 (show waits .any ops33_8 12 10 = true from (by kernel_rfl)))]; decide)
      | _ + 13, _, _, _ => exact trivial
  | 11, _, h1, hdep, ho =>
      have s6 := (hst.rest 6 (by kernel_rfl)).trans hs6
      have hr : (execOp a.eval (opAt ops33_8 11)).run Tryz.prog w = .ok (.value (.pointer (some ⟨b, 3, none⟩))) w := by
        clear hst hdep hd h1 hs ho
        generalize a.eval = ρ at s6 ⊢
        unfold execOp; rw [show (opAt ops33_8 11).op = .fieldAddr 27 (.tmp 6) 3 from by kernel_rfl]; try simp only [s6]
        go_simp
      exact op_value ho (by kernel_rfl) hr (made_val (d := 53) (by kernel_rfl) rfl (J33_8_any _ hst.world) (fun _ _ _ _ h => h))
  | 12, _, h1, hdep, ho =>
      obtain ⟨u, nv, hbx, hnv, hu, hoN, hoU⟩ := hst.world.2.2
      have hle := J33_8_le hS hst.world
      have e1 : a.eval (.tmp 53) = .pointer (some ⟨b, 3, none⟩) := hst.got 11 (hdep 11 (by kernel_rfl))
      obtain ⟨g, c, e2, hgg, hog⟩ := hst.got 8 (hdep 8 (by kernel_rfl))
      have e2' : a.eval (.tmp 51) = .slice (some ⟨g, 0, none⟩) 3 c := e2
      have hr := run_cell24 (x := .tmp 53) (y := .tmp 51) (show (opAt ops33_8 12).op = _ from (by kernel_rfl)) e1 e2' hbx (by simp)
      have hbN : b ≠ gN := fun e => own_ne_blk hN hbox (.inl (by decide)) (by rw [e]; rfl)
      refine op_skip ho (by kernel_rfl) hr (made_skip (by kernel_rfl) (show World.cell? _ _ = some (a.eval (.tmp 51)) from (by rw [e2']; exact (cell_of_row _ b 3 _ 27 (0, 0) (blk_set hbx 3 _)).trans rfl)) ⟨hst.world.1.setCell (by simpa using hb) _, fun k hk a b c => (Below.heap_setCell _ _ _ k a).trans (hst.world.2.1 k hk a b c), _, _, (blk_set hbx 3 _), fun h => hnv (unset h), fun h => ?_, fun h => set_own (hoN (unset h)) (fun e => hbN (by simpa [Value.ownBlock] using e.symm)), fun h => set_own (hoU (unset h)) (fun e => hbU (by simpa [Value.ownBlock] using e.symm))⟩ ?_)
      · rw [set_same (by rw [hs]; decide)] at h; cases h
      intro j hj hL u h
      match j, hj, hL, h with
      | 0, _, _, h => exact (show _ = _ from h)
      | 1, _, _, h => exact (show _ = _ from h)
      | 2, _, _, h => exact (let ⟨g, c, e, h1, h2⟩ := h; ⟨g, c, e, h1, set_own h2 (own_ne_blk h2 hbx (.inl (by decide)))⟩)
      | 3, _, _, h => exact (let ⟨g, c, e, h1, h2⟩ := h; ⟨g, c, e, h1, set_own h2 (own_ne_blk h2 hbx (.inl (by decide)))⟩)
      | 4, _, _, h => exact (show _ = _ from h)
      | 5, _, _, h => exact (show _ = _ from h)
      | 6, _, _, h => exact (show _ = _ from h)
      | 7, _, _, h => exact (let ⟨g, c, e, h1, h2⟩ := h; ⟨g, c, e, h1, set_own h2 (fun e => by simp [Value.ownBlock] at e; omega)⟩)
      | 8, _, _, h => exact (let ⟨g, c, e, h1, h2⟩ := h; ⟨g, c, e, h1, set_own h2 (fun e => by simp [Value.ownBlock] at e; omega)⟩)
      | 9, _, _, h => exact (show _ = _ from h)
      | 10, _, _, h => exact (cell_set h (by decide))
      | 11, _, _, h => exact (show _ = _ from h)
      | 12, hj, _, _ => exact absurd rfl hj
      | _ + 13, _, _, _ => exact trivial
  | k + 13, hi, _, _, _ => exact absurd hi (by omega)
set_option maxHeartbeats 1600000 in
theorem done33_8 {ops : Array Oper} (ho : ops = ops33_8) {Q : Exit → Act → World → Prop} {a0 : Act} {w0 : World} {B S0 b gN gU cN cU : Nat} {NS XS : List Value} {p : Nat} {xs : ByteArray} (hS : w0.heap.size = S0) (hBS : B ≤ S0) (hb : B ≤ b) (hbS : b < S0) (hbU : b ≠ gU) (hbox : w0.heap[b]? = some (.cells #[.int .i64 5, .bool false, .string ⟨#[]⟩, .slice (some ⟨gU, 0, none⟩) 2 cU, .slice (some ⟨gN, 0, none⟩) 2 cN] 27 (0, 0))) (hN : w0.ownsRow B 9 1 (.slice (some ⟨gN, 0, none⟩) 2 cN) 2 NS) (hU : w0.ownsRow B 27 5 (.slice (some ⟨gU, 0, none⟩) 2 cU) 2 XS) (hpS : p < S0) (hpb : p ≠ b) (hpN : p ≠ gN) (hpU : p ≠ gU) (hp : w0.heap[p]? = some (.cells #[.int .i64 2, .bool false, .string xs, .slice none 0 0, .slice none 0 0] 27 (0, 0))) (hs6 : a0.eval (.tmp 6) = .pointer (some ⟨b, 0, none⟩)) (hs5 : a0.eval (.tmp 5) = .pointer (some ⟨p, 0, none⟩)) (hsz : a0.tmps.size = 55)
    (HK : ∀ (a : Act) (w : World) (g1 c1 : Nat) (g2 c2 : Nat), a.defers = a0.defers → a.tmps.size = 55 → (∀ s, freeB ops33_8 s = true → a.eval (.tmp s) = a0.eval (.tmp s)) → Below B w0 w → (∀ k, k < S0 → k ≠ b → k ≠ gN → k ≠ gU → w.heap[k]? = w0.heap[k]?) → w.heap[b]? = some (.cells #[.int .i64 5, .bool false, .string ⟨#[]⟩, .slice (some ⟨g2, 0, none⟩) 3 c2, .slice (some ⟨g1, 0, none⟩) 3 c1] 27 (0, 0)) → (g1 = gN ∨ S0 ≤ g1) → w.ownsRow B 9 1 (.slice (some ⟨g1, 0, none⟩) 3 c1) 3 (NS ++ [.string ⟨#[115, 105, 122, 101]⟩]) → (g2 = gU ∨ S0 ≤ g2) → w.ownsRow B 27 5 (.slice (some ⟨g2, 0, none⟩) 3 c2) 3 (XS ++ [.int .i64 2, .bool false, .string xs, .slice none 0 0, .slice none 0 0]) → Q .normal a w) : (Code.region 8 ops true).wp Tryz.prog Q a0 w0 := by
  refine reg33_8 ho hS hBS hb hbS hbU hbox hN hU hpS hpb hpN hpU hp hs6 hs5 hsz (fun L a w hJ hd hs hr hR => ?_)
  obtain ⟨hb', hun, u, nv, hbx, hnv, -, hoN, -⟩ := hJ
  have c4 : w.cell? ⟨b, 4, none⟩ = some (a.eval (.tmp 46)) := hR 10 (by decide)
  obtain ⟨g1, c1, e1, hg1, ho1⟩ := hR 3 (by decide)
  obtain rfl : nv = .slice (some ⟨g1, 0, none⟩) 3 c1 := by have h := (cell_of_row w b 4 _ 27 (0, 0) hbx).symm.trans c4; rw [show a.eval (.tmp 46) = _ from e1] at h; simpa using h
  have c3 : w.cell? ⟨b, 3, none⟩ = some (a.eval (.tmp 51)) := hR 12 (by decide)
  obtain ⟨g2, c2, e2, hg2, ho2⟩ := hR 8 (by decide)
  obtain rfl : u = .slice (some ⟨g2, 0, none⟩) 3 c2 := by have h := (cell_of_row w b 3 _ 27 (0, 0) hbx).symm.trans c3; rw [show a.eval (.tmp 51) = _ from e2] at h; simpa using h
  exact HK a w  g1 c1 g2 c2 hd hs hr hb' hun hbx hg1 ho1 hg2 ho2
def sl33_8' : Nat → Nat
  | 0 => 43
  | 1 => 44
  | 2 => 45
  | 3 => 46
  | 4 => 47
  | 5 => 48
  | 6 => 49
  | 7 => 50
  | 8 => 51
  | 9 => 52
  | 10 => 46
  | 11 => 53
  | 12 => 51
  | _ => 0
def R33_8' (B S0 b gN gU cN cU : Nat) (NS XS : List Value) (p : Nat) (xs : ByteArray) : Nat → Value → World → Prop
  | 0, v, w => v = .pointer (some ⟨b, 4, none⟩)
  | 1, v, w => v = .slice (some ⟨gN, 0, none⟩) 3 cN
  | 2, v, w => ∃ g c, v = .slice (some ⟨g, 0, none⟩) 1 c ∧ S0 ≤ g ∧ w.ownsRow S0 9 1 (.slice (some ⟨g, 0, none⟩) 1 c) 1 [.string ⟨#[115, 105, 122, 101]⟩]
  | 3, v, w => ∃ g c, v = .slice (some ⟨g, 0, none⟩) 4 c ∧ (g = gN ∨ S0 ≤ g) ∧ w.ownsRow B 9 1 (.slice (some ⟨g, 0, none⟩) 4 c) 4 (NS ++ [.string ⟨#[115, 105, 122, 101]⟩])
  | 4, v, w => v = .pointer (some ⟨b, 3, none⟩)
  | 5, v, w => v = .slice (some ⟨gU, 0, none⟩) 3 cU
  | 6, v, w => v = .agg #[.int .i64 2, .bool false, .string xs, .slice none 0 0, .slice none 0 0]
  | 7, v, w => ∃ g c, v = .slice (some ⟨g, 0, none⟩) 1 c ∧ S0 ≤ g ∧ w.ownsRow S0 27 5 (.slice (some ⟨g, 0, none⟩) 1 c) 1 [.int .i64 2, .bool false, .string xs, .slice none 0 0, .slice none 0 0]
  | 8, v, w => ∃ g c, v = .slice (some ⟨g, 0, none⟩) 4 c ∧ (g = gU ∨ S0 ≤ g) ∧ w.ownsRow B 27 5 (.slice (some ⟨g, 0, none⟩) 4 c) 4 (XS ++ [.int .i64 2, .bool false, .string xs, .slice none 0 0, .slice none 0 0])
  | 9, v, w => v = .pointer (some ⟨b, 4, none⟩)
  | 10, v, w => w.cell? ⟨b, 4, none⟩ = some v
  | 11, v, w => v = .pointer (some ⟨b, 3, none⟩)
  | 12, v, w => w.cell? ⟨b, 3, none⟩ = some v
  | _, _, _ => True
theorem R33_8'_ext {B S0 b gN gU cN cU : Nat} {NS XS : List Value} {p : Nat} {xs : ByteArray} {w w' : World} (hx : Ext w w') : ∀ j u, R33_8' B S0 b gN gU cN cU NS XS p xs j u w → R33_8' B S0 b gN gU cN cU NS XS p xs j u w'
  | 0, _, h => h
  | 1, _, h => h
  | 2, _, h => let ⟨g, c, e, h1, h2⟩ := h; ⟨g, c, e, h1, own_ext h2 hx⟩
  | 3, _, h => let ⟨g, c, e, h1, h2⟩ := h; ⟨g, c, e, h1, own_ext h2 hx⟩
  | 4, _, h => h
  | 5, _, h => h
  | 6, _, h => h
  | 7, _, h => let ⟨g, c, e, h1, h2⟩ := h; ⟨g, c, e, h1, own_ext h2 hx⟩
  | 8, _, h => let ⟨g, c, e, h1, h2⟩ := h; ⟨g, c, e, h1, own_ext h2 hx⟩
  | 9, _, h => h
  | 10, _, h => cell_ext h hx
  | 11, _, h => h
  | 12, _, h => cell_ext h hx
  | _ + 13, _, _ => trivial
def J33_8' (B : Nat) (w0 : World) (B S0 b gN gU cN cU : Nat) (NS XS : List Value) (L : Array Bool) (w : World) : Prop := Below B w0 w ∧ (∀ k, k < S0 → k ≠ b → k ≠ gN → k ≠ gU → w.heap[k]? = w0.heap[k]?) ∧ ∃ u nv, w.heap[b]? = some (.cells #[.int .i64 5, .bool false, .string ⟨#[]⟩, u, nv] 27 (0, 0)) ∧ (L.getD 10 false = false → nv = .slice (some ⟨gN, 0, none⟩) 3 cN) ∧ (L.getD 12 false = false → u = .slice (some ⟨gU, 0, none⟩) 3 cU) ∧ (L.getD 3 false = false → w.ownsRow B 9 1 (.slice (some ⟨gN, 0, none⟩) 3 cN) 3 NS) ∧ (L.getD 8 false = false → w.ownsRow B 27 5 (.slice (some ⟨gU, 0, none⟩) 3 cU) 3 XS)
theorem J33_8'_any {B : Nat} {w0 : World} {S0 b gN gU cN cU : Nat} {NS XS : List Value} {L : Array Bool} (i : Nat) {w : World} (h : J33_8' B w0 B S0 b gN gU cN cU NS XS L w) : J33_8' B w0 B S0 b gN gU cN cU NS XS (L.setIfInBounds i true) w := by
  obtain ⟨h1, h2, u, nv, h3, h4, h5, h6, h7⟩ := h
  exact ⟨h1, h2, u, nv, h3, fun h => h4 (unset h), fun h => h5 (unset h), fun h => h6 (unset h), fun h => h7 (unset h)⟩
theorem J33_8'_le {B : Nat} {w0 : World} {S0 b gN gU cN cU : Nat} {NS XS : List Value} {L : Array Bool} {w : World} (hS : w0.heap.size = S0) (h : J33_8' B w0 B S0 b gN gU cN cU NS XS L w) : S0 ≤ w.heap.size := hS ▸ h.1.size
theorem J33_8'_ext {B : Nat} {w0 : World} {S0 b gN gU cN cU : Nat} {NS XS : List Value} {L : Array Bool} (i : Nat) {w w' : World} (hS : w0.heap.size = S0) (h : J33_8' B w0 B S0 b gN gU cN cU NS XS L w) (hx : Ext w w') (hb : Below B w w') : J33_8' B w0 B S0 b gN gU cN cU NS XS (L.setIfInBounds i true) w' := by
  have hle := J33_8'_le hS h
  obtain ⟨h1, h2, u, nv, h3, h4, h5, h6, h7⟩ := h
  exact ⟨h1.trans hb, fun k hk a b c => (hx.2 k (by omega)).trans (h2 k hk a b c), u, nv, blk_ext h3 hx, fun h => h4 (unset h), fun h => h5 (unset h), fun h => own_ext (h6 (unset h)) hx, fun h => own_ext (h7 (unset h)) hx⟩
set_option maxHeartbeats 1600000 in
theorem reg33_8' {ops : Array Oper} (ho : ops = ops33_8) {Q : Exit → Act → World → Prop} {a0 : Act} {w0 : World} {B S0 b gN gU cN cU : Nat} {NS XS : List Value} {p : Nat} {xs : ByteArray} (hS : w0.heap.size = S0) (hBS : B ≤ S0) (hb : B ≤ b) (hbS : b < S0) (hbU : b ≠ gU) (hbox : w0.heap[b]? = some (.cells #[.int .i64 5, .bool false, .string ⟨#[]⟩, .slice (some ⟨gU, 0, none⟩) 3 cU, .slice (some ⟨gN, 0, none⟩) 3 cN] 27 (0, 0))) (hN : w0.ownsRow B 9 1 (.slice (some ⟨gN, 0, none⟩) 3 cN) 3 NS) (hU : w0.ownsRow B 27 5 (.slice (some ⟨gU, 0, none⟩) 3 cU) 3 XS) (hpS : p < S0) (hpb : p ≠ b) (hpN : p ≠ gN) (hpU : p ≠ gU) (hp : w0.heap[p]? = some (.cells #[.int .i64 2, .bool false, .string xs, .slice none 0 0, .slice none 0 0] 27 (0, 0))) (hs6 : a0.eval (.tmp 6) = .pointer (some ⟨b, 0, none⟩)) (hs5 : a0.eval (.tmp 5) = .pointer (some ⟨p, 0, none⟩)) (hsz : a0.tmps.size = 55)
    (HK : ∀ L a w, J33_8' B w0 B S0 b gN gU cN cU NS XS L w → a.defers = a0.defers → a.tmps.size = 55 → (∀ s, freeB ops33_8 s = true → a.eval (.tmp s) = a0.eval (.tmp s)) → (∀ i, i < 13 → R33_8' B S0 b gN gU cN cU NS XS p xs i (a.eval (.tmp (sl33_8' i))) w) → Q .normal a w) : (Code.region 8 ops true).wp Tryz.prog Q a0 w0 := by
  subst ho
  refine region_made (n := 13) (sl := sl33_8') (J := J33_8' B w0 B S0 b gN gU cN cU NS XS) (R := R33_8' B S0 b gN gU cN cU NS XS p xs) (by kernel_rfl) (by kernel_rfl) (by kernel_rfl) (by rw [hsz]; kernel_rfl) ?_ ⟨(Below.refl _ _).drew, fun _ _ _ _ _ => rfl, _, _, hbox, fun _ => rfl, fun _ => rfl, fun _ => hN, fun _ => hU⟩ (fun L a w hall hf => HK L a w hf.world hf.defers (hf.size.trans hsz) hf.rest (fun i hi => hf.got i (hall i hi)))
  intro i hi L a w hs h1 hdep hd hst ho
  clear HK
  match i, hi, h1, hdep, ho with
  | 0, _, h1, hdep, ho =>
      have s6 := (hst.rest 6 (by kernel_rfl)).trans hs6
      have hr : (execOp a.eval (opAt ops33_8 0)).run Tryz.prog w = .ok (.value (.pointer (some ⟨b, 4, none⟩))) w := by
        clear hst hdep hd h1 hs ho
        generalize a.eval = ρ at s6 ⊢
        unfold execOp; rw [show (opAt ops33_8 0).op = .fieldAddr 27 (.tmp 6) 4 from by kernel_rfl]; try simp only [s6]
        go_simp
      exact op_value ho (by kernel_rfl) hr (made_val (d := 43) (by kernel_rfl) rfl (J33_8'_any _ hst.world) (fun _ _ _ _ h => h))
  | 1, _, h1, hdep, ho =>
      obtain ⟨u, nv, hbx, hnv, hu, hoN, hoU⟩ := hst.world.2.2
      obtain rfl := hnv (unlisted hs hd h1 (show waits .any ops33_8 10 1 = true from (by kernel_rfl)))
      have cb := fun o => cell_of_row w b o _ 27 (0, 0) hbx
      clear hbx hu hoN hoU
      have g0 : a.eval (.tmp 43) = .pointer (some ⟨b, 4, none⟩) := hst.got 0 (hdep 0 (by kernel_rfl))
      have hr : (execOp a.eval (opAt ops33_8 1)).run Tryz.prog w = .ok (.value (.slice (some ⟨gN, 0, none⟩) 3 cN)) w := by
        clear hst hdep hd h1 hs ho
        generalize a.eval = ρ at g0 ⊢
        unfold execOp; rw [show (opAt ops33_8 1).op = .load 25 (.tmp 43) from by kernel_rfl]; try simp only [g0]
        go_simp
      exact op_value ho (by kernel_rfl) hr (made_val (d := 44) (by kernel_rfl) rfl (J33_8'_any _ hst.world) (fun _ _ _ _ h => h))
  | 2, _, h1, hdep, ho =>
      have hr : (execOp a.eval (opAt ops33_8 2)).run Tryz.prog w = .ok (.value (.slice (some ⟨w.heap.size, 0, none⟩) 1 1)) (w.alloc (.cells #[.string ⟨#[115, 105, 122, 101]⟩] 9)) := by
        clear hst hdep hd h1 hs ho
        have hk : ∀ v, a.eval (.const v) = v := fun _ => rfl; generalize a.eval = ρ at hk ⊢
        unfold execOp; rw [show (opAt ops33_8 2).op = .buildSlice 25 1 #[(0, .const (.string ⟨#[115, 105, 122, 101]⟩))] from by kernel_rfl]; try simp only [hk]
        go_simp
      exact op_value ho (by kernel_rfl) hr (made_val (d := 45) (by kernel_rfl) (⟨_, _, rfl, J33_8'_le hS hst.world, own_new [.string ⟨#[115, 105, 122, 101]⟩] rfl (J33_8'_le hS hst.world) (by decide)⟩) (J33_8'_ext _ hS hst.world (Ext.alloc _ _) ((Below.refl _ _).alloc (Nat.le_trans hBS (J33_8'_le hS hst.world)) _)) (fun j _ _ u h => R33_8'_ext (Ext.alloc _ _) j u h))
  | 3, _, h1, hdep, ho =>
      obtain ⟨u, nv, hbx, hnv, hu, hoN, hoU⟩ := hst.world.2.2
      have hNw := hoN (unl h1)
      obtain ⟨gs, cs, e2, hgs, hos⟩ := hst.got 2 (hdep 2 (by kernel_rfl))
      have e1 : a.eval (.tmp 44) = .slice (some ⟨gN, 0, none⟩) 3 cN := hst.got 1 (hdep 1 (by kernel_rfl))
      obtain ⟨i9, hi9, hz9, hzz9, hzb9⟩ := info_parts info9
      have hgN : gN < S0 := by have := (World.ownsRow.lt hN gN rfl).2; omega
      have hBN : B ≤ gN := (World.ownsRow.lt hN gN rfl).1
      have hbN : b ≠ gN := fun e => own_ne_blk hNw hbx (.inl (by decide)) (by rw [e]; rfl)
      obtain ⟨curN, cN', hblkN⟩ := own_block hNw rfl
      have hle := J33_8'_le hS hst.world
      refine op_append ho (by kernel_rfl) (wp_append_lies w (.tmp 44) (.tmp 45) 25 (show (opAt ops33_8 3).op = _ from (by kernel_rfl)) B 9 i9 (.string ⟨#[]⟩) 1 16 Tryz.underlying25 hi9 hz9 hzz9 hzb9 rfl (by decide) _ 3 NS e1 hNw ⟨gs, 0, none⟩ 1 cs [.string ⟨#[115, 105, 122, 101]⟩] e2 rfl (hos.cells rfl) (by intro u hu; simp only [List.mem_cons, List.not_mem_nil, or_false] at hu; subst hu; rfl) (by decide) (by decide) (by decide) (by omega) _ rfl ?_)
      intro g cap w' ho' hgr hgg hlt
      have hgg2 : g = gN ∨ S0 ≤ g := by rcases hgg with h | h; exact .inl (by simpa [Value.ownBlock] using h.symm); exact .inr (by omega)
      refine made_val (d := 46) (by kernel_rfl) ⟨g, cap, rfl, hgg2, ho'⟩ ⟨hst.world.1.trans ⟨hgr.os, hgr.tape, hgr.output, hgr.size, fun k hk => hgr.block k (by omega) (by simp only [Value.ownBlock]; intro e; injection e; omega)⟩, fun k hk a b c => (hgr.block k (by omega) (by simp only [Value.ownBlock]; intro e; injection e; omega)).trans (hst.world.2.1 k hk a b c), u, nv, (hgr.block b (by omega) (by simp only [Value.ownBlock]; intro e; injection e; omega)).trans hbx, fun h => hnv (unset h), fun h => hu (unset h), fun h => ?_, fun h => (hoU (unset h)).kept hgr (.inr (own_ne_own (hoU (unset h)) hNw rfl (by decide)))⟩ ?_
      · rw [set_same (by rw [hs]; decide)] at h; cases h
      intro j hj hL u h
      match j, hj, hL, h with
      | 0, _, _, h => exact (show _ = _ from h)
      | 1, _, _, h => exact (show _ = _ from h)
      | 2, _, _, h => exact (let ⟨g, c, e, h1, h2⟩ := h; ⟨g, c, e, h1, h2.kept hgr (.inr (fun e => by simp [Value.ownBlock] at e; omega))⟩)
      | 3, hj, _, _ => exact absurd rfl hj
      | 4, _, _, h => exact (show _ = _ from h)
      | 5, _, _, h => exact (show _ = _ from h)
      | 6, _, _, h => exact (show _ = _ from h)
      | 7, _, _, h => exact (let ⟨g, c, e, h1, h2⟩ := h; ⟨g, c, e, h1, h2.kept hgr (.inr (own_ne_own h2 hNw rfl (by decide)))⟩)
      | 8, _, _, h => exact (let ⟨g, c, e, h1, h2⟩ := h; ⟨g, c, e, h1, h2.kept hgr (.inr (own_ne_own h2 hNw rfl (by decide)))⟩)
      | 9, _, _, h => exact (show _ = _ from h)
      | 10, hj, hL, _ => exact absurd hL (by rw [(unlisted hs hd h1 (show waits .any ops33_8 10 3 = true from (by kernel_rfl)))]; decide)
      | 11, _, _, h => exact (show _ = _ from h)
      | 12, hj, hL, _ => exact absurd hL (by rw [(unlisted hs hd h1 (show waits .any ops33_8 12 3 = true from (by kernel_rfl)))]; decide)
      | _ + 13, _, _, _ => exact trivial
  | 4, _, h1, hdep, ho =>
      have s6 := (hst.rest 6 (by kernel_rfl)).trans hs6
      have hr : (execOp a.eval (opAt ops33_8 4)).run Tryz.prog w = .ok (.value (.pointer (some ⟨b, 3, none⟩))) w := by
        clear hst hdep hd h1 hs ho
        generalize a.eval = ρ at s6 ⊢
        unfold execOp; rw [show (opAt ops33_8 4).op = .fieldAddr 27 (.tmp 6) 3 from by kernel_rfl]; try simp only [s6]
        go_simp
      exact op_value ho (by kernel_rfl) hr (made_val (d := 47) (by kernel_rfl) rfl (J33_8'_any _ hst.world) (fun _ _ _ _ h => h))
  | 5, _, h1, hdep, ho =>
      obtain ⟨u, nv, hbx, hnv, hu, hoN, hoU⟩ := hst.world.2.2
      obtain rfl := hu (unlisted hs hd h1 (show waits .any ops33_8 12 5 = true from (by kernel_rfl)))
      have cb := fun o => cell_of_row w b o _ 27 (0, 0) hbx
      clear hbx hnv hoN hoU
      have g4 : a.eval (.tmp 47) = .pointer (some ⟨b, 3, none⟩) := hst.got 4 (hdep 4 (by kernel_rfl))
      have hr : (execOp a.eval (opAt ops33_8 5)).run Tryz.prog w = .ok (.value (.slice (some ⟨gU, 0, none⟩) 3 cU)) w := by
        clear hst hdep hd h1 hs ho
        generalize a.eval = ρ at g4 ⊢
        unfold execOp; rw [show (opAt ops33_8 5).op = .load 24 (.tmp 47) from by kernel_rfl]; try simp only [g4]
        go_simp
      exact op_value ho (by kernel_rfl) hr (made_val (d := 48) (by kernel_rfl) rfl (J33_8'_any _ hst.world) (fun _ _ _ _ h => h))
  | 6, _, h1, hdep, ho =>
      have hpw := (hst.world.2.1 p hpS hpb hpN hpU).trans hp
      have cp := fun o => cell_of_row w p o _ 27 (0, 0) hpw
      clear hpw
      have s5 := (hst.rest 5 (by kernel_rfl)).trans hs5
      have hr : (execOp a.eval (opAt ops33_8 6)).run Tryz.prog w = .ok (.value (.agg #[.int .i64 2, .bool false, .string xs, .slice none 0 0, .slice none 0 0])) w := by
        clear hst hdep hd h1 hs ho
        generalize a.eval = ρ at s5 ⊢
        unfold execOp; rw [show (opAt ops33_8 6).op = .load 27 (.tmp 5) from by kernel_rfl]; try simp only [s5]
        go_simp
      exact op_value ho (by kernel_rfl) hr (made_val (d := 49) (by kernel_rfl) rfl (J33_8'_any _ hst.world) (fun _ _ _ _ h => h))
  | 7, _, h1, hdep, ho =>
      have ge : a.eval (.tmp 49) = .agg #[.int .i64 2, .bool false, .string xs, .slice none 0 0, .slice none 0 0] := hst.got 6 (hdep 6 (by kernel_rfl))
      have hr : (execOp a.eval (opAt ops33_8 7)).run Tryz.prog w = .ok (.value (.slice (some ⟨w.heap.size, 0, none⟩) 1 1)) (w.alloc (.cells #[.int .i64 2, .bool false, .string xs, .slice none 0 0, .slice none 0 0] 27)) := by
        clear hst hdep hd h1 hs ho
        generalize a.eval = ρ at ge ⊢
        unfold execOp; rw [show (opAt ops33_8 7).op = .buildSlice 24 1 #[(0, .tmp 49)] from by kernel_rfl]; try simp only [ge]
        go_simp
      exact op_value ho (by kernel_rfl) hr (made_val (d := 50) (by kernel_rfl) ⟨_, _, rfl, J33_8'_le hS hst.world, own_new [.int .i64 2, .bool false, .string xs, .slice none 0 0, .slice none 0 0] rfl (J33_8'_le hS hst.world) (by decide)⟩ (J33_8'_ext _ hS hst.world (Ext.alloc _ _) ((Below.refl _ _).alloc (Nat.le_trans hBS (J33_8'_le hS hst.world)) _)) (fun j _ _ u h => R33_8'_ext (Ext.alloc _ _) j u h))
  | 8, _, h1, hdep, ho =>
      obtain ⟨u, nv, hbx, hnv, hu, hoN, hoU⟩ := hst.world.2.2
      have hUw := hoU (unl h1)
      obtain ⟨gs, cs, e2, hgs, hos⟩ := hst.got 7 (hdep 7 (by kernel_rfl))
      have e1 : a.eval (.tmp 48) = .slice (some ⟨gU, 0, none⟩) 3 cU := hst.got 5 (hdep 5 (by kernel_rfl))
      obtain ⟨i9, hi9, hz9, hzz9, hzb9⟩ := info_parts info27
      have hgU : gU < S0 := by have := (World.ownsRow.lt hU gU rfl).2; omega
      have hBU : B ≤ gU := (World.ownsRow.lt hU gU rfl).1
      obtain ⟨curU, cU', hblkU⟩ := own_block hUw rfl
      have hle := J33_8'_le hS hst.world
      refine op_append ho (by kernel_rfl) (wp_append_lies w (.tmp 48) (.tmp 50) 24 (show (opAt ops33_8 8).op = _ from (by kernel_rfl)) B 27 i9 (.agg #[.int .i64 0, .bool false, .string ⟨#[]⟩, .slice none 0 0, .slice none 0 0]) 5 80 Tryz.underlying24 hi9 hz9 hzz9 hzb9 rfl (by decide) _ 3 XS e1 hUw ⟨gs, 0, none⟩ 1 cs [.int .i64 2, .bool false, .string xs, .slice none 0 0, .slice none 0 0] e2 rfl (hos.cells rfl) (by intro u hu; simp only [List.mem_cons, List.not_mem_nil, or_false] at hu; rcases hu with rfl | rfl | rfl | rfl | rfl <;> rfl) (by decide) (by decide) (by decide) (by omega) _ rfl ?_)
      intro g cap w' ho' hgr hgg hlt
      have hgg2 : g = gU ∨ S0 ≤ g := by rcases hgg with h | h; exact .inl (by simpa [Value.ownBlock] using h.symm); exact .inr (by omega)
      refine made_val (d := 51) (by kernel_rfl) ⟨g, cap, rfl, hgg2, ho'⟩ ⟨hst.world.1.trans ⟨hgr.os, hgr.tape, hgr.output, hgr.size, fun k hk => hgr.block k (by omega) (by simp only [Value.ownBlock]; intro e; injection e; omega)⟩, fun k hk a b c => (hgr.block k (by omega) (by simp only [Value.ownBlock]; intro e; injection e; omega)).trans (hst.world.2.1 k hk a b c), u, nv, (hgr.block b (by omega) (by simp only [Value.ownBlock]; intro e; injection e; omega)).trans hbx, fun h => hnv (unset h), fun h => hu (unset h), fun h => (hoN (unset h)).kept hgr (.inr (own_ne_own (hoN (unset h)) hUw rfl (by decide))), fun h => ?_⟩ ?_
      · rw [set_same (by rw [hs]; decide)] at h; cases h
      intro j hj hL u h
      match j, hj, hL, h with
      | 0, _, _, h => exact (show _ = _ from h)
      | 1, _, _, h => exact (show _ = _ from h)
      | 2, _, _, h => exact (let ⟨g, c, e, h1, h2⟩ := h; ⟨g, c, e, h1, h2.kept hgr (.inr (own_ne_own h2 hUw rfl (by decide)))⟩)
      | 3, _, _, h => exact (let ⟨g, c, e, h1, h2⟩ := h; ⟨g, c, e, h1, h2.kept hgr (.inr (own_ne_own h2 hUw rfl (by decide)))⟩)
      | 4, _, _, h => exact (show _ = _ from h)
      | 5, _, _, h => exact (show _ = _ from h)
      | 6, _, _, h => exact (show _ = _ from h)
      | 7, _, _, h => exact (let ⟨g, c, e, h1, h2⟩ := h; ⟨g, c, e, h1, h2.kept hgr (.inr (fun e => by simp [Value.ownBlock] at e; omega))⟩)
      | 8, hj, _, _ => exact absurd rfl hj
      | 9, _, _, h => exact (show _ = _ from h)
      | 10, hj, hL, _ => exact absurd hL (by rw [(unlisted hs hd h1 (show waits .any ops33_8 10 8 = true from (by kernel_rfl)))]; decide)
      | 11, _, _, h => exact (show _ = _ from h)
      | 12, hj, hL, _ => exact absurd hL (by rw [(unlisted hs hd h1 (show waits .any ops33_8 12 8 = true from (by kernel_rfl)))]; decide)
      | _ + 13, _, _, _ => exact trivial
  | 9, _, h1, hdep, ho =>
      have s6 := (hst.rest 6 (by kernel_rfl)).trans hs6
      have hr : (execOp a.eval (opAt ops33_8 9)).run Tryz.prog w = .ok (.value (.pointer (some ⟨b, 4, none⟩))) w := by
        clear hst hdep hd h1 hs ho
        generalize a.eval = ρ at s6 ⊢
        unfold execOp; rw [show (opAt ops33_8 9).op = .fieldAddr 27 (.tmp 6) 4 from by kernel_rfl]; try simp only [s6]
        go_simp
      exact op_value ho (by kernel_rfl) hr (made_val (d := 52) (by kernel_rfl) rfl (J33_8'_any _ hst.world) (fun _ _ _ _ h => h))
  | 10, _, h1, hdep, ho =>
      obtain ⟨u, nv, hbx, hnv, hu, hoN, hoU⟩ := hst.world.2.2
      have hle := J33_8'_le hS hst.world
      have e1 : a.eval (.tmp 52) = .pointer (some ⟨b, 4, none⟩) := hst.got 9 (hdep 9 (by kernel_rfl))
      obtain ⟨g, c, e2, hgg, hog⟩ := hst.got 3 (hdep 3 (by kernel_rfl))
      have e2' : a.eval (.tmp 46) = .slice (some ⟨g, 0, none⟩) 4 c := e2
      have hr := run_cell25 (x := .tmp 52) (y := .tmp 46) (show (opAt ops33_8 10).op = _ from (by kernel_rfl)) e1 e2' hbx (by simp)
      have hbN : b ≠ gN := fun e => own_ne_blk hN hbox (.inl (by decide)) (by rw [e]; rfl)
      refine op_skip ho (by kernel_rfl) hr (made_skip (by kernel_rfl) (show World.cell? _ _ = some (a.eval (.tmp 46)) from (by rw [e2']; exact (cell_of_row _ b 4 _ 27 (0, 0) (blk_set hbx 4 _)).trans rfl)) ⟨hst.world.1.setCell (by simpa using hb) _, fun k hk a b c => (Below.heap_setCell _ _ _ k a).trans (hst.world.2.1 k hk a b c), _, _, (blk_set hbx 4 _), fun h => ?_, fun h => hu (unset h), fun h => set_own (hoN (unset h)) (fun e => hbN (by simpa [Value.ownBlock] using e.symm)), fun h => set_own (hoU (unset h)) (fun e => hbU (by simpa [Value.ownBlock] using e.symm))⟩ ?_)
      · rw [set_same (by rw [hs]; decide)] at h; cases h
      intro j hj hL u h
      match j, hj, hL, h with
      | 0, _, _, h => exact (show _ = _ from h)
      | 1, _, _, h => exact (show _ = _ from h)
      | 2, _, _, h => exact (let ⟨g, c, e, h1, h2⟩ := h; ⟨g, c, e, h1, set_own h2 (own_ne_blk h2 hbx (.inl (by decide)))⟩)
      | 3, _, _, h => exact (let ⟨g, c, e, h1, h2⟩ := h; ⟨g, c, e, h1, set_own h2 (own_ne_blk h2 hbx (.inl (by decide)))⟩)
      | 4, _, _, h => exact (show _ = _ from h)
      | 5, _, _, h => exact (show _ = _ from h)
      | 6, _, _, h => exact (show _ = _ from h)
      | 7, _, _, h => exact (let ⟨g, c, e, h1, h2⟩ := h; ⟨g, c, e, h1, set_own h2 (fun e => by simp [Value.ownBlock] at e; omega)⟩)
      | 8, _, _, h => exact (let ⟨g, c, e, h1, h2⟩ := h; ⟨g, c, e, h1, set_own h2 (fun e => by simp [Value.ownBlock] at e; omega)⟩)
      | 9, _, _, h => exact (show _ = _ from h)
      | 10, hj, _, _ => exact absurd rfl hj
      | 11, _, _, h => exact (show _ = _ from h)
      | 12, hj, hL, _ => exact absurd hL (by rw [(unlisted hs hd h1 (show waits .any ops33_8 12 10 = true from (by kernel_rfl)))]; decide)
      | _ + 13, _, _, _ => exact trivial
  | 11, _, h1, hdep, ho =>
      have s6 := (hst.rest 6 (by kernel_rfl)).trans hs6
      have hr : (execOp a.eval (opAt ops33_8 11)).run Tryz.prog w = .ok (.value (.pointer (some ⟨b, 3, none⟩))) w := by
        clear hst hdep hd h1 hs ho
        generalize a.eval = ρ at s6 ⊢
        unfold execOp; rw [show (opAt ops33_8 11).op = .fieldAddr 27 (.tmp 6) 3 from by kernel_rfl]; try simp only [s6]
        go_simp
      exact op_value ho (by kernel_rfl) hr (made_val (d := 53) (by kernel_rfl) rfl (J33_8'_any _ hst.world) (fun _ _ _ _ h => h))
  | 12, _, h1, hdep, ho =>
      obtain ⟨u, nv, hbx, hnv, hu, hoN, hoU⟩ := hst.world.2.2
      have hle := J33_8'_le hS hst.world
      have e1 : a.eval (.tmp 53) = .pointer (some ⟨b, 3, none⟩) := hst.got 11 (hdep 11 (by kernel_rfl))
      obtain ⟨g, c, e2, hgg, hog⟩ := hst.got 8 (hdep 8 (by kernel_rfl))
      have e2' : a.eval (.tmp 51) = .slice (some ⟨g, 0, none⟩) 4 c := e2
      have hr := run_cell24 (x := .tmp 53) (y := .tmp 51) (show (opAt ops33_8 12).op = _ from (by kernel_rfl)) e1 e2' hbx (by simp)
      have hbN : b ≠ gN := fun e => own_ne_blk hN hbox (.inl (by decide)) (by rw [e]; rfl)
      refine op_skip ho (by kernel_rfl) hr (made_skip (by kernel_rfl) (show World.cell? _ _ = some (a.eval (.tmp 51)) from (by rw [e2']; exact (cell_of_row _ b 3 _ 27 (0, 0) (blk_set hbx 3 _)).trans rfl)) ⟨hst.world.1.setCell (by simpa using hb) _, fun k hk a b c => (Below.heap_setCell _ _ _ k a).trans (hst.world.2.1 k hk a b c), _, _, (blk_set hbx 3 _), fun h => hnv (unset h), fun h => ?_, fun h => set_own (hoN (unset h)) (fun e => hbN (by simpa [Value.ownBlock] using e.symm)), fun h => set_own (hoU (unset h)) (fun e => hbU (by simpa [Value.ownBlock] using e.symm))⟩ ?_)
      · rw [set_same (by rw [hs]; decide)] at h; cases h
      intro j hj hL u h
      match j, hj, hL, h with
      | 0, _, _, h => exact (show _ = _ from h)
      | 1, _, _, h => exact (show _ = _ from h)
      | 2, _, _, h => exact (let ⟨g, c, e, h1, h2⟩ := h; ⟨g, c, e, h1, set_own h2 (own_ne_blk h2 hbx (.inl (by decide)))⟩)
      | 3, _, _, h => exact (let ⟨g, c, e, h1, h2⟩ := h; ⟨g, c, e, h1, set_own h2 (own_ne_blk h2 hbx (.inl (by decide)))⟩)
      | 4, _, _, h => exact (show _ = _ from h)
      | 5, _, _, h => exact (show _ = _ from h)
      | 6, _, _, h => exact (show _ = _ from h)
      | 7, _, _, h => exact (let ⟨g, c, e, h1, h2⟩ := h; ⟨g, c, e, h1, set_own h2 (fun e => by simp [Value.ownBlock] at e; omega)⟩)
      | 8, _, _, h => exact (let ⟨g, c, e, h1, h2⟩ := h; ⟨g, c, e, h1, set_own h2 (fun e => by simp [Value.ownBlock] at e; omega)⟩)
      | 9, _, _, h => exact (show _ = _ from h)
      | 10, _, _, h => exact (cell_set h (by decide))
      | 11, _, _, h => exact (show _ = _ from h)
      | 12, hj, _, _ => exact absurd rfl hj
      | _ + 13, _, _, _ => exact trivial
  | k + 13, hi, _, _, _ => exact absurd hi (by omega)
set_option maxHeartbeats 1600000 in
theorem done33_8' {ops : Array Oper} (ho : ops = ops33_8) {Q : Exit → Act → World → Prop} {a0 : Act} {w0 : World} {B S0 b gN gU cN cU : Nat} {NS XS : List Value} {p : Nat} {xs : ByteArray} (hS : w0.heap.size = S0) (hBS : B ≤ S0) (hb : B ≤ b) (hbS : b < S0) (hbU : b ≠ gU) (hbox : w0.heap[b]? = some (.cells #[.int .i64 5, .bool false, .string ⟨#[]⟩, .slice (some ⟨gU, 0, none⟩) 3 cU, .slice (some ⟨gN, 0, none⟩) 3 cN] 27 (0, 0))) (hN : w0.ownsRow B 9 1 (.slice (some ⟨gN, 0, none⟩) 3 cN) 3 NS) (hU : w0.ownsRow B 27 5 (.slice (some ⟨gU, 0, none⟩) 3 cU) 3 XS) (hpS : p < S0) (hpb : p ≠ b) (hpN : p ≠ gN) (hpU : p ≠ gU) (hp : w0.heap[p]? = some (.cells #[.int .i64 2, .bool false, .string xs, .slice none 0 0, .slice none 0 0] 27 (0, 0))) (hs6 : a0.eval (.tmp 6) = .pointer (some ⟨b, 0, none⟩)) (hs5 : a0.eval (.tmp 5) = .pointer (some ⟨p, 0, none⟩)) (hsz : a0.tmps.size = 55)
    (HK : ∀ (a : Act) (w : World) (g1 c1 : Nat) (g2 c2 : Nat), a.defers = a0.defers → a.tmps.size = 55 → (∀ s, freeB ops33_8 s = true → a.eval (.tmp s) = a0.eval (.tmp s)) → Below B w0 w → (∀ k, k < S0 → k ≠ b → k ≠ gN → k ≠ gU → w.heap[k]? = w0.heap[k]?) → w.heap[b]? = some (.cells #[.int .i64 5, .bool false, .string ⟨#[]⟩, .slice (some ⟨g2, 0, none⟩) 4 c2, .slice (some ⟨g1, 0, none⟩) 4 c1] 27 (0, 0)) → (g1 = gN ∨ S0 ≤ g1) → w.ownsRow B 9 1 (.slice (some ⟨g1, 0, none⟩) 4 c1) 4 (NS ++ [.string ⟨#[115, 105, 122, 101]⟩]) → (g2 = gU ∨ S0 ≤ g2) → w.ownsRow B 27 5 (.slice (some ⟨g2, 0, none⟩) 4 c2) 4 (XS ++ [.int .i64 2, .bool false, .string xs, .slice none 0 0, .slice none 0 0]) → Q .normal a w) : (Code.region 8 ops true).wp Tryz.prog Q a0 w0 := by
  refine reg33_8' ho hS hBS hb hbS hbU hbox hN hU hpS hpb hpN hpU hp hs6 hs5 hsz (fun L a w hJ hd hs hr hR => ?_)
  obtain ⟨hb', hun, u, nv, hbx, hnv, -, hoN, -⟩ := hJ
  have c4 : w.cell? ⟨b, 4, none⟩ = some (a.eval (.tmp 46)) := hR 10 (by decide)
  obtain ⟨g1, c1, e1, hg1, ho1⟩ := hR 3 (by decide)
  obtain rfl : nv = .slice (some ⟨g1, 0, none⟩) 4 c1 := by have h := (cell_of_row w b 4 _ 27 (0, 0) hbx).symm.trans c4; rw [show a.eval (.tmp 46) = _ from e1] at h; simpa using h
  have c3 : w.cell? ⟨b, 3, none⟩ = some (a.eval (.tmp 51)) := hR 12 (by decide)
  obtain ⟨g2, c2, e2, hg2, ho2⟩ := hR 8 (by decide)
  obtain rfl : u = .slice (some ⟨g2, 0, none⟩) 4 c2 := by have h := (cell_of_row w b 3 _ 27 (0, 0) hbx).symm.trans c3; rw [show a.eval (.tmp 51) = _ from e2] at h; simpa using h
  exact HK a w  g1 c1 g2 c2 hd hs hr hb' hun hbx hg1 ho1 hg2 ho2
end Go.Proofs.YtoimjnmhinfbkaaGreatDoor
