import Derived.Test.YtoimjnmhinfbkaaGreatDoorS12
namespace Go.Proofs.YtoimjnmhinfbkaaGreatDoor
open Go.RowKit
set_option maxRecDepth 100000
section
variable {ρ : Operand → Value} {w : World} {o : Oper} {x y : Operand}
theorem run_mul32 {a b : Operand} {x y : BitVec 32} (ho : o.op = .binOp .mul 184 a b 184) (h1 : ρ a = U x) (h2 : ρ b = U y) : (execOp ρ o).run Tryz.prog w = .ok (.value (U (x * y))) w := by
 have h : IntKind.u32.wrap ((x.toNat : Int) * (y.toNat : Int)) = ((x * y).toNat : Int) := by rw [← Int.natCast_mul, wrap_u32n, BitVec.toNat_mul]
 unfold execOp; rw [ho]; simp only [h1, h2]
 unfold U
 rw [← h]
 clear h h1 h2
 go_simp
theorem run_idx185 {b n : Nat} {k : Nat} {z : Int} (hz : z = (k : Int)) (hk : k < 8) (ho : o.op = .indexAddr 185 x y) (h1 : ρ x = .pointer (some ⟨b, n, none⟩)) (h2 : ρ y = .int .i64 z) : (execOp ρ o).run Tryz.prog w = .ok (.value (.pointer (some ⟨b, n + k, none⟩))) w := by
 subst hz
 have h0 : (0 : Int) ≤ (k : Int) := Int.natCast_nonneg _
 have h3 : (k : Int) < 8 := by omega
 unfold execOp; rw [ho]; simp only [h1, h2]; go_simp
theorem run_idx147 {b n : Nat} {k : Nat} {z : Int} (hz : z = (k : Int)) (hk : k < 32) (ho : o.op = .indexAddr 147 x y) (h1 : ρ x = .pointer (some ⟨b, n, none⟩)) (h2 : ρ y = .int .i64 z) : (execOp ρ o).run Tryz.prog w = .ok (.value (.pointer (some ⟨b, n + k, none⟩))) w := by
 subst hz
 have h0 : (0 : Int) ≤ (k : Int) := Int.natCast_nonneg _
 have h3 : (k : Int) < 32 := by omega
 unfold execOp; rw [ho]; simp only [h1, h2]; go_simp
theorem run_idx87 {g len cap k : Nat} {z : Int} (hz : z = (k : Int)) (hk : k < len) (ho : o.op = .indexAddr 87 x y) (h1 : ρ x = .slice (some ⟨g, 0, none⟩) len cap) (h2 : ρ y = .int .i64 z) : (execOp ρ o).run Tryz.prog w = .ok (.value (.pointer (some ⟨g, k, none⟩))) w := by
 subst hz
 have h0 : (0 : Int) ≤ (k : Int) := Int.natCast_nonneg _
 have h3 : (k : Int) < (len : Int) := by omega
 unfold execOp; rw [ho]; simp only [h1, h2]; go_simp
theorem run_quo4 {k : Nat} (ho : o.op = .binOp .quo 3 x y 3) (h1 : ρ x = .int .i64 (k : Int)) (h2 : ρ y = .int .i64 4) (hk : k < 32) : (execOp ρ o).run Tryz.prog w = .ok (.value (.int .i64 ((k / 4 : Nat) : Int))) w := by
 have h0 : (0 : Int) ≤ (k : Int) := Int.natCast_nonneg _
 have h3 : (k : Int) < 32 := by omega
 unfold execOp; rw [ho]; simp only [h1, h2]; go_simp
 rw [IntKind.wrap_i64]; omega
theorem run_rem4 {k : Nat} (ho : o.op = .binOp .rem 3 x y 3) (h1 : ρ x = .int .i64 (k : Int)) (h2 : ρ y = .int .i64 4) (hk : k < 32) : (execOp ρ o).run Tryz.prog w = .ok (.value (.int .i64 ((k % 4 : Nat) : Int))) w := by
 have h0 : (0 : Int) ≤ (k : Int) := Int.natCast_nonneg _
 have h3 : (k : Int) < 32 := by omega
 unfold execOp; rw [ho]; simp only [h1, h2]; go_simp
 rw [Int.tmod_eq_emod_of_nonneg h0]
theorem run_conv118 {k : Nat} (ho : o.op = .convert 3 118 x) (h1 : ρ x = .int .i64 (k : Int)) (hk : k < 32) : (execOp ρ o).run Tryz.prog w = .ok (.value (.int .u64 (k : Int))) w := by
 have h0 : (0 : Int) ≤ (k : Int) := Int.natCast_nonneg _
 have h3 : (k : Int) < 32 := by omega
 unfold execOp; rw [ho]; simp only [h1]; go_simp
 rw [IntKind.wrap_u64]; omega
theorem run_mul118 {k : Nat} (ho : o.op = .binOp .mul 118 x y 118) (h1 : ρ x = .int .u64 (k : Int)) (h2 : ρ y = .int .u64 8) (hk : k < 32) : (execOp ρ o).run Tryz.prog w = .ok (.value (.int .u64 ((k * 8 : Nat) : Int))) w := by
 have h0 : (0 : Int) ≤ (k : Int) := Int.natCast_nonneg _
 have h3 : (k : Int) < 32 := by omega
 unfold execOp; rw [ho]; simp only [h1, h2]; go_simp
 rw [IntKind.wrap_u64]; omega
theorem run_sub118 {k : Nat} (ho : o.op = .binOp .sub 118 x y 118) (h1 : ρ x = .int .u64 24) (h2 : ρ y = .int .u64 (k : Int)) (hk : k ≤ 24) : (execOp ρ o).run Tryz.prog w = .ok (.value (.int .u64 ((24 - k : Nat) : Int))) w := by
 have h0 : (0 : Int) ≤ (k : Int) := Int.natCast_nonneg _
 have h3 : (k : Int) ≤ 24 := by omega
 have h4 : ((24 - k : Nat) : Int) = 24 - (k : Int) := by omega
 rw [h4]
 unfold execOp; rw [ho]; simp only [h1, h2]; go_simp
 rw [IntKind.wrap_u64]; omega
end
def Left (n : Nat) (ops : Array Oper) (a b : Act) : Prop := a.defers = b.defers ∧ a.tmps.size = n ∧ ∀ s, freeB ops s = true → a.eval (.tmp s) = b.eval (.tmp s)
theorem freeOf {ops : Array Oper} {W : List Nat} {n : Nat} (h : (List.range n).all (fun s => freeB ops s || W.contains s) = true) {s : Nat} (hs : s < n) (hw : W.contains s = false) : freeB ops s = true := by
 have h1 : (freeB ops s || W.contains s) = true := List.all_eq_true.1 h s (List.mem_range.2 hs)
 rw [hw, Bool.or_false] at h1
 exact h1
theorem getD_setN {α : Type} (t : Array α) (i s : Nat) (v d : α) (h : s < t.size) : (t.setIfInBounds i v).getD s d = if i = s then v else t.getD s d := by
 by_cases e : i = s
 ·subst e
  rw [if_pos rfl, Array.getD_eq_getD_getElem?, Array.getElem?_setIfInBounds_self_of_lt h]; rfl
 ·rw [if_neg e, Array.getD_eq_getD_getElem?, Array.getD_eq_getD_getElem?, Array.getElem?_setIfInBounds_ne e]
theorem foldSet_size {α : Type} (f : Nat → α) : ∀ (W : List Nat) (t : Array α), (W.foldl (fun t i => t.setIfInBounds i (f i)) t).size = t.size
 | [], _ => rfl
 | i :: W, t => by rw [List.foldl_cons, foldSet_size f W]; simp
theorem foldSet_at {α : Type} (f : Nat → α) (d : α) : ∀ (W : List Nat) (t : Array α) (s : Nat), s < t.size → (W.foldl (fun t i => t.setIfInBounds i (f i)) t).getD s d = if W.contains s = true then f s else t.getD s d
 | [], _, _, _ => rfl
 | i :: W, t, s, h => by
  rw [List.foldl_cons, foldSet_at f d W _ s (by simpa using h), getD_setN _ _ _ _ _ h]
  by_cases e : i = s
  ·subst e
   simp
  ·have e' : ¬ s = i := fun x => e x.symm
   by_cases e2 : W.contains s = true
   ·rw [if_pos e2, if_pos (by simp at e2 ⊢; exact .inr e2)]
   ·rw [if_neg e2, if_neg e, if_neg (by simp at e2 ⊢; exact ⟨e', e2⟩)]
/-- the frame behind a region: what it wrote is changed. -/
theorem turn_gen {ops : Array Oper} {a : Act} {xs : Array Value} {D : _} {n : Nat} (W : List Nat) (hF : (List.range n).all (fun s => freeB ops s || W.contains s) = true) (hn : xs.size = n) (hd : a.defers = (Act.mk xs D).defers) (hs : a.tmps.size = n)
  (hr : ∀ s, freeB ops s = true → a.eval (.tmp s) = (Act.mk xs D).eval (.tmp s)) : a = ⟨W.foldl (fun t i => t.setIfInBounds i (a.eval (.tmp i))) xs, D⟩ := by
 refine act_ext hd (by rw [hs]; exact ((foldSet_size (fun i => a.eval (.tmp i)) W xs).trans hn).symm) fun s h => ?_
 have h2 : s < n := by rwa [hs] at h
 have h3 := foldSet_at (fun i => a.eval (.tmp i)) undef W xs s (by rw [hn]; exact h2)
 refine Eq.trans ?_ h3.symm
 by_cases e : W.contains s = true
 ·rw [if_pos e]
 ·rw [if_neg e]
  exact hr s (freeOf hF h2 (by simpa using e))
noncomputable def ops86_30 : Array Oper := (Tryz.f86.body.bind (inCode 30)).getD #[]
def sl86_30 : Nat → Nat
 | 0 => 101
 | 1 => 102
 | 2 => 103
 | 3 => 104
 | 4 => 105
 | 5 => 106
 | 6 => 107
 | 7 => 108
 | 8 => 109
 | 9 => 110
 | 10 => 111
 | 11 => 112
 | 12 => 113
 | 13 => 114
 | 14 => 115
 | 15 => 116
 | 16 => 117
 | 17 => 1000001
 | _ => 0
def R86_30 (c : Nat) (gt : Nat) (tlen : Nat) (tcap : Nat) (at0 : Nat) (ii : Nat) (jj : Nat) (xw : BitVec 32) (yb : Nat) : Nat → Value → World → Prop
 | 0, v, _ => v = .int .i64 (ii : Int)
 | 1, v, _ => v = .int .i64 (ii : Int)
 | 2, v, _ => v = .pointer (some ⟨c, ii, none⟩)
 | 3, v, _ => v = U xw
 | 4, v, _ => v = U (xw * 256)
 | 5, v, _ => v = .slice (some ⟨gt, 0, none⟩) tlen tcap
 | 6, v, _ => v = .int .i64 (at0 : Int)
 | 7, v, _ => v = .int .i64 (ii : Int)
 | 8, v, _ => v = .int .i64 (4 * ii : Int)
 | 9, v, _ => v = .int .i64 (at0 + 4 * ii : Int)
 | 10, v, _ => v = .int .i64 (jj : Int)
 | 11, v, _ => v = .int .i64 (at0 + 4 * ii + jj : Int)
 | 12, v, _ => v = .pointer (some ⟨gt, at0 + 4 * ii + jj, none⟩)
 | 13, v, _ => v = .int .u8 (yb : Int)
 | 14, v, _ => v = U (BitVec.ofNat 32 yb)
 | 15, v, _ => v = U ((xw * 256) + (BitVec.ofNat 32 yb))
 | 16, v, _ => v = .pointer (some ⟨c, ii, none⟩)
 | 17, v, _ => True
 | _, _, _ => True
def J86_30 (W0 : World) (c : Nat) (gt : Nat) (tlen : Nat) (tcap : Nat) (at0 : Nat) (ii : Nat) (jj : Nat) (xw : BitVec 32) (yb : Nat) (L : Array Bool) (w : World) : Prop := (L.getD 17 false = false → w = W0) ∧ (L.getD 17 false = true → w = W0.setCell ⟨c, ii, none⟩ (U ((xw * 256) + (BitVec.ofNat 32 yb))))
theorem J86_30_any {W0 : World} {c : Nat} {gt : Nat} {tlen : Nat} {tcap : Nat} {at0 : Nat} {ii : Nat} {jj : Nat} {xw : BitVec 32} {yb : Nat} {L : Array Bool} {w : World} (i : Nat) (hi : i ≠ 17) (h : J86_30 W0 c gt tlen tcap at0 ii jj xw yb L w) : J86_30 W0 c gt tlen tcap at0 ii jj xw yb (L.setIfInBounds i true) w := by
 obtain ⟨h0, h1⟩ := h
 exact ⟨fun h => h0 (unset h), fun h => h1 (set_ne (by omega) h)⟩
set_option maxHeartbeats 3200000 in
theorem reg86_30 {ops : Array Oper} (ho : ops = ops86_30) {Q : Exit → Act → World → Prop} {a0 : Act} {w0 W0 : World} (hW : w0.drew = W0) {c : Nat} {gt : Nat} {tlen : Nat} {tcap : Nat} {at0 : Nat} {ii : Nat} {jj : Nat} {xw : BitVec 32} {yb : Nat} (hii : ii < 16) (hjj : jj < 4) (hat : at0 ≤ 1000000000) (hyb : yb < 256) (htl : at0 + 4 * ii + jj < tlen) (cw : W0.cell? ⟨c, ii, none⟩ = some (U xw)) (fw : W0.frozen? ⟨c, ii, none⟩ = false) (ct : W0.cell? ⟨gt, at0 + 4 * ii + jj, none⟩ = some (.int .u8 (yb : Int))) (hs11 : a0.eval (.tmp 11) = .pointer (some ⟨c, 0, none⟩)) (hs7 : a0.eval (.tmp 7) = .slice (some ⟨gt, 0, none⟩) tlen tcap) (hs10 : a0.eval (.tmp 10) = .int .i64 (at0 : Int)) (hs12 : a0.eval (.tmp 12) = .int .i64 (ii : Int)) (hs13 : a0.eval (.tmp 13) = .int .i64 (jj : Int)) (hsz : a0.tmps.size = 287)
  (HK : ∀ a, a.defers = a0.defers → a.tmps.size = 287 → (∀ s, freeB ops86_30 s = true → a.eval (.tmp s) = a0.eval (.tmp s)) → (∀ i, i < 18 → R86_30 c gt tlen tcap at0 ii jj xw yb i (a.eval (.tmp (sl86_30 i))) (W0.setCell ⟨c, ii, none⟩ (U ((xw * 256) + (BitVec.ofNat 32 yb))))) → Q .normal a (W0.setCell ⟨c, ii, none⟩ (U ((xw * 256) + (BitVec.ofNat 32 yb))))) : (Code.region 30 ops true).wp Tryz.prog Q a0 w0 := by
 subst ho
 refine region_made (n := 18) (sl := sl86_30) (J := J86_30 W0 c gt tlen tcap at0 ii jj xw yb) (R := R86_30 c gt tlen tcap at0 ii jj xw yb) (by kernel_rfl) (by kernel_rfl) (by kernel_rfl) (by rw [hsz]; kernel_rfl) ?_ (by rw [hW]; exact ⟨fun _ => rfl, fun h => by simp [Array.getD] at h⟩) (fun L a w hall hf => ?_)
 rotate_left
 ·have hw1 : w = W0.setCell ⟨c, ii, none⟩ (U ((xw * 256) + (BitVec.ofNat 32 yb))) := hf.world.2 (hall 17 (by decide))
  subst w
  exact HK a hf.defers (hf.size.trans hsz) hf.rest (fun i hi => hf.got i (hall i hi))
 intro i hi L a w hs h1 hdep hd hst ho
 clear HK
 match i, hi, h1, hdep, ho with
 | 0, _, h1, hdep, ho =>
   have JJ := J86_30_any 0 (by decide) hst.world
   have s12 : a.eval (.tmp 12) = .int .i64 (ii : Int) := (hst.rest 12 (by kernel_rfl)).trans hs12
   have hr : (execOp a.eval (opAt ops86_30 0)).run Tryz.prog w = .ok (.value (.int .i64 (ii : Int))) w := run_moved (x := .tmp 12) (by kernel_rfl) s12
   exact op_value ho (by kernel_rfl) hr (made_val (d := 101) (by kernel_rfl) rfl JJ (fun _ _ _ _ h => h))
 | 1, _, h1, hdep, ho =>
   have JJ := J86_30_any 1 (by decide) hst.world
   have s12 : a.eval (.tmp 12) = .int .i64 (ii : Int) := (hst.rest 12 (by kernel_rfl)).trans hs12
   have hr : (execOp a.eval (opAt ops86_30 1)).run Tryz.prog w = .ok (.value (.int .i64 (ii : Int))) w := run_moved (x := .tmp 12) (by kernel_rfl) s12
   exact op_value ho (by kernel_rfl) hr (made_val (d := 102) (by kernel_rfl) rfl JJ (fun _ _ _ _ h => h))
 | 2, _, h1, hdep, ho =>
   have JJ := J86_30_any 2 (by decide) hst.world
   have s11 : a.eval (.tmp 11) = .pointer (some ⟨c, 0, none⟩) := (hst.rest 11 (by kernel_rfl)).trans hs11
   have g1 : a.eval (.tmp 102) = .int .i64 (ii : Int) := hst.got 1 (hdep 1 (by kernel_rfl))
   have hr : (execOp a.eval (opAt ops86_30 2)).run Tryz.prog w = .ok (.value (.pointer (some ⟨c, ii, none⟩))) w := (show 0 + (ii) = ii from Nat.zero_add _) ▸ run_idx186 (b := c) (n := 0) (k := ii) (by first | rfl | omega) (by first | decide | omega) (show (opAt ops86_30 2).op = .indexAddr 186 (.tmp 11) (.tmp 102) from (by kernel_rfl)) s11 g1
   exact op_value ho (by kernel_rfl) hr (made_val (d := 103) (by kernel_rfl) rfl JJ (fun _ _ _ _ h => h))
 | 3, _, h1, hdep, ho =>
   have JJ := J86_30_any 3 (by decide) hst.world
   have hw : w = W0 := hst.world.1 (unlisted hs hd h1 (show waits .any ops86_30 17 3 = true from (by kernel_rfl)))
   obtain rfl : W0 = w := hw.symm
   have g2 : a.eval (.tmp 103) = .pointer (some ⟨c, ii, none⟩) := hst.got 2 (hdep 2 (by kernel_rfl))
   have hr : (execOp a.eval (opAt ops86_30 3)).run Tryz.prog W0 = .ok (.value (U xw)) W0 := run_load184 cw (show (opAt ops86_30 3).op = .load 184 (.tmp 103) from (by kernel_rfl)) g2
   exact op_value ho (by kernel_rfl) hr (made_val (d := 104) (by kernel_rfl) rfl JJ (fun _ _ _ _ h => h))
 | 4, _, h1, hdep, ho =>
   have JJ := J86_30_any 4 (by decide) hst.world
   have g3 : a.eval (.tmp 104) = U xw := hst.got 3 (hdep 3 (by kernel_rfl))
   have hr : (execOp a.eval (opAt ops86_30 4)).run Tryz.prog w = .ok (.value (U (xw * 256))) w := run_mul32 (y := 256) (show (opAt ops86_30 4).op = .binOp .mul 184 (.tmp 104) (.const (.int .u32 256)) 184 from (by kernel_rfl)) g3 rfl
   exact op_value ho (by kernel_rfl) hr (made_val (d := 105) (by kernel_rfl) rfl JJ (fun _ _ _ _ h => h))
 | 5, _, h1, hdep, ho =>
   have JJ := J86_30_any 5 (by decide) hst.world
   have s7 : a.eval (.tmp 7) = .slice (some ⟨gt, 0, none⟩) tlen tcap := (hst.rest 7 (by kernel_rfl)).trans hs7
   have hr : (execOp a.eval (opAt ops86_30 5)).run Tryz.prog w = .ok (.value (.slice (some ⟨gt, 0, none⟩) tlen tcap)) w := run_moved (x := .tmp 7) (by kernel_rfl) s7
   exact op_value ho (by kernel_rfl) hr (made_val (d := 106) (by kernel_rfl) rfl JJ (fun _ _ _ _ h => h))
 | 6, _, h1, hdep, ho =>
   have JJ := J86_30_any 6 (by decide) hst.world
   have s10 : a.eval (.tmp 10) = .int .i64 (at0 : Int) := (hst.rest 10 (by kernel_rfl)).trans hs10
   have hr : (execOp a.eval (opAt ops86_30 6)).run Tryz.prog w = .ok (.value (.int .i64 (at0 : Int))) w := run_moved (x := .tmp 10) (by kernel_rfl) s10
   exact op_value ho (by kernel_rfl) hr (made_val (d := 107) (by kernel_rfl) rfl JJ (fun _ _ _ _ h => h))
 | 7, _, h1, hdep, ho =>
   have JJ := J86_30_any 7 (by decide) hst.world
   have s12 : a.eval (.tmp 12) = .int .i64 (ii : Int) := (hst.rest 12 (by kernel_rfl)).trans hs12
   have hr : (execOp a.eval (opAt ops86_30 7)).run Tryz.prog w = .ok (.value (.int .i64 (ii : Int))) w := run_moved (x := .tmp 12) (by kernel_rfl) s12
   exact op_value ho (by kernel_rfl) hr (made_val (d := 108) (by kernel_rfl) rfl JJ (fun _ _ _ _ h => h))
 | 8, _, h1, hdep, ho =>
   have JJ := J86_30_any 8 (by decide) hst.world
   have g7 : a.eval (.tmp 108) = .int .i64 (ii : Int) := hst.got 7 (hdep 7 (by kernel_rfl))
   have hr : (execOp a.eval (opAt ops86_30 8)).run Tryz.prog w = .ok (.value (.int .i64 (4 * ii : Int))) w := run_mul64 (by rw [IntKind.wrap_i64]; omega) (show (opAt ops86_30 8).op = .binOp .mul 3 (.const (.int .i64 4)) (.tmp 108) 3 from (by kernel_rfl)) rfl g7
   exact op_value ho (by kernel_rfl) hr (made_val (d := 109) (by kernel_rfl) rfl JJ (fun _ _ _ _ h => h))
 | 9, _, h1, hdep, ho =>
   have JJ := J86_30_any 9 (by decide) hst.world
   have g6 : a.eval (.tmp 107) = .int .i64 (at0 : Int) := hst.got 6 (hdep 6 (by kernel_rfl))
   have g8 : a.eval (.tmp 109) = .int .i64 (4 * ii : Int) := hst.got 8 (hdep 8 (by kernel_rfl))
   have hr : (execOp a.eval (opAt ops86_30 9)).run Tryz.prog w = .ok (.value (.int .i64 (at0 + 4 * ii : Int))) w := run_add64 (by rw [IntKind.wrap_i64]; omega) (show (opAt ops86_30 9).op = .binOp .add 3 (.tmp 107) (.tmp 109) 3 from (by kernel_rfl)) g6 g8
   exact op_value ho (by kernel_rfl) hr (made_val (d := 110) (by kernel_rfl) rfl JJ (fun _ _ _ _ h => h))
 | 10, _, h1, hdep, ho =>
   have JJ := J86_30_any 10 (by decide) hst.world
   have s13 : a.eval (.tmp 13) = .int .i64 (jj : Int) := (hst.rest 13 (by kernel_rfl)).trans hs13
   have hr : (execOp a.eval (opAt ops86_30 10)).run Tryz.prog w = .ok (.value (.int .i64 (jj : Int))) w := run_moved (x := .tmp 13) (by kernel_rfl) s13
   exact op_value ho (by kernel_rfl) hr (made_val (d := 111) (by kernel_rfl) rfl JJ (fun _ _ _ _ h => h))
 | 11, _, h1, hdep, ho =>
   have JJ := J86_30_any 11 (by decide) hst.world
   have g9 : a.eval (.tmp 110) = .int .i64 (at0 + 4 * ii : Int) := hst.got 9 (hdep 9 (by kernel_rfl))
   have g10 : a.eval (.tmp 111) = .int .i64 (jj : Int) := hst.got 10 (hdep 10 (by kernel_rfl))
   have hr : (execOp a.eval (opAt ops86_30 11)).run Tryz.prog w = .ok (.value (.int .i64 (at0 + 4 * ii + jj : Int))) w := run_add64 (by rw [IntKind.wrap_i64]; omega) (show (opAt ops86_30 11).op = .binOp .add 3 (.tmp 110) (.tmp 111) 3 from (by kernel_rfl)) g9 g10
   exact op_value ho (by kernel_rfl) hr (made_val (d := 112) (by kernel_rfl) rfl JJ (fun _ _ _ _ h => h))
 | 12, _, h1, hdep, ho =>
   have JJ := J86_30_any 12 (by decide) hst.world
   have g5 : a.eval (.tmp 106) = .slice (some ⟨gt, 0, none⟩) tlen tcap := hst.got 5 (hdep 5 (by kernel_rfl))
   have g11 : a.eval (.tmp 112) = .int .i64 (at0 + 4 * ii + jj : Int) := hst.got 11 (hdep 11 (by kernel_rfl))
   have hr : (execOp a.eval (opAt ops86_30 12)).run Tryz.prog w = .ok (.value (.pointer (some ⟨gt, at0 + 4 * ii + jj, none⟩))) w := run_idx87 (by first | rfl | omega) htl (show (opAt ops86_30 12).op = .indexAddr 87 (.tmp 106) (.tmp 112) from (by kernel_rfl)) g5 g11
   exact op_value ho (by kernel_rfl) hr (made_val (d := 113) (by kernel_rfl) rfl JJ (fun _ _ _ _ h => h))
 | 13, _, h1, hdep, ho =>
   have JJ := J86_30_any 13 (by decide) hst.world
   have hw : w = W0 := hst.world.1 (unlisted hs hd h1 (show waits .any ops86_30 17 13 = true from (by kernel_rfl)))
   obtain rfl : W0 = w := hw.symm
   have g12 : a.eval (.tmp 113) = .pointer (some ⟨gt, at0 + 4 * ii + jj, none⟩) := hst.got 12 (hdep 12 (by kernel_rfl))
   have hr : (execOp a.eval (opAt ops86_30 13)).run Tryz.prog W0 = .ok (.value (.int .u8 (yb : Int))) W0 := run_load5 ct (show (opAt ops86_30 13).op = .load 5 (.tmp 113) from (by kernel_rfl)) g12
   exact op_value ho (by kernel_rfl) hr (made_val (d := 114) (by kernel_rfl) rfl JJ (fun _ _ _ _ h => h))
 | 14, _, h1, hdep, ho =>
   have JJ := J86_30_any 14 (by decide) hst.world
   have g13 : a.eval (.tmp 114) = .int .u8 (yb : Int) := hst.got 13 (hdep 13 (by kernel_rfl))
   have hr : (execOp a.eval (opAt ops86_30 14)).run Tryz.prog w = .ok (.value (U (BitVec.ofNat 32 yb))) w := run_conv32 hyb (show (opAt ops86_30 14).op = .convert 5 184 (.tmp 114) from (by kernel_rfl)) g13
   exact op_value ho (by kernel_rfl) hr (made_val (d := 115) (by kernel_rfl) rfl JJ (fun _ _ _ _ h => h))
 | 15, _, h1, hdep, ho =>
   have JJ := J86_30_any 15 (by decide) hst.world
   have g4 : a.eval (.tmp 105) = U (xw * 256) := hst.got 4 (hdep 4 (by kernel_rfl))
   have g14 : a.eval (.tmp 115) = U (BitVec.ofNat 32 yb) := hst.got 14 (hdep 14 (by kernel_rfl))
   have hr : (execOp a.eval (opAt ops86_30 15)).run Tryz.prog w = .ok (.value (U ((xw * 256) + (BitVec.ofNat 32 yb)))) w := run_add32 (show (opAt ops86_30 15).op = .binOp .add 184 (.tmp 105) (.tmp 115) 184 from (by kernel_rfl)) g4 g14
   exact op_value ho (by kernel_rfl) hr (made_val (d := 116) (by kernel_rfl) rfl JJ (fun _ _ _ _ h => h))
 | 16, _, h1, hdep, ho =>
   have JJ := J86_30_any 16 (by decide) hst.world
   have s11 : a.eval (.tmp 11) = .pointer (some ⟨c, 0, none⟩) := (hst.rest 11 (by kernel_rfl)).trans hs11
   have g0 : a.eval (.tmp 101) = .int .i64 (ii : Int) := hst.got 0 (hdep 0 (by kernel_rfl))
   have hr : (execOp a.eval (opAt ops86_30 16)).run Tryz.prog w = .ok (.value (.pointer (some ⟨c, ii, none⟩))) w := (show 0 + (ii) = ii from Nat.zero_add _) ▸ run_idx186 (b := c) (n := 0) (k := ii) (by first | rfl | omega) (by first | decide | omega) (show (opAt ops86_30 16).op = .indexAddr 186 (.tmp 11) (.tmp 101) from (by kernel_rfl)) s11 g0
   exact op_value ho (by kernel_rfl) hr (made_val (d := 117) (by kernel_rfl) rfl JJ (fun _ _ _ _ h => h))
 | 17, _, h1, hdep, ho =>
   have hw : w = W0 := hst.world.1 (unl h1)
   obtain rfl : W0 = w := hw.symm
   have g16 : a.eval (.tmp 117) = .pointer (some ⟨c, ii, none⟩) := hst.got 16 (hdep 16 (by kernel_rfl))
   have g15 : a.eval (.tmp 116) = U ((xw * 256) + (BitVec.ofNat 32 yb)) := hst.got 15 (hdep 15 (by kernel_rfl))
   have hr : (execOp a.eval (opAt ops86_30 17)).run Tryz.prog (W0) = .ok .skip (W0.setCell ⟨c, ii, none⟩ (U ((xw * 256) + (BitVec.ofNat 32 yb)))) := run_store184 cw fw (show (opAt ops86_30 17).op = .store 184 (.tmp 117) (.tmp 116) from (by kernel_rfl)) g16 g15
   refine op_skip ho (by kernel_rfl) hr (made_skip (by kernel_rfl) trivial ⟨fun h => by (rw [set_same (by rw [hs]; decide)] at h; cases h), fun _ => rfl⟩ (fun j _ _ u h => ?_))
   match j, h with
   | 0, h => exact (show _ = _ from h)
   | 1, h => exact (show _ = _ from h)
   | 2, h => exact (show _ = _ from h)
   | 3, h => exact (show _ = _ from h)
   | 4, h => exact (show _ = _ from h)
   | 5, h => exact (show _ = _ from h)
   | 6, h => exact (show _ = _ from h)
   | 7, h => exact (show _ = _ from h)
   | 8, h => exact (show _ = _ from h)
   | 9, h => exact (show _ = _ from h)
   | 10, h => exact (show _ = _ from h)
   | 11, h => exact (show _ = _ from h)
   | 12, h => exact (show _ = _ from h)
   | 13, h => exact (show _ = _ from h)
   | 14, h => exact (show _ = _ from h)
   | 15, h => exact (show _ = _ from h)
   | 16, h => exact (show _ = _ from h)
   | 17, h => exact (show True from h)
   | _ + 18, _ => exact trivial
 | k + 18, hi, _, _, _ => exact absurd hi (by omega)
noncomputable def ops86_31 : Array Oper := (Tryz.f86.body.bind (inCode 31)).getD #[]
def sl86_31 : Nat → Nat
 | 0 => 118
 | 1 => 119
 | 2 => 120
 | 3 => 121
 | 4 => 122
 | 5 => 123
 | 6 => 124
 | 7 => 125
 | 8 => 126
 | 9 => 127
 | 10 => 128
 | 11 => 129
 | 12 => 130
 | 13 => 131
 | 14 => 132
 | 15 => 133
 | 16 => 134
 | 17 => 14
 | _ => 0
def R86_31 (c : Nat) (ii : Nat) (w15 : BitVec 32) : Nat → Value → World → Prop
 | 0, v, _ => v = .int .i64 (ii : Int)
 | 1, v, _ => v = .int .i64 (ii - 15 : Int)
 | 2, v, _ => v = .pointer (some ⟨c, ii - 15, none⟩)
 | 3, v, _ => v = U w15
 | 4, v, _ => v = U (rotr w15 7)
 | 5, v, _ => v = .int .i64 (ii : Int)
 | 6, v, _ => v = .int .i64 (ii - 15 : Int)
 | 7, v, _ => v = .pointer (some ⟨c, ii - 15, none⟩)
 | 8, v, _ => v = U w15
 | 9, v, _ => v = U (rotr w15 18)
 | 10, v, _ => v = U ((rotr w15 7) ^^^ (rotr w15 18))
 | 11, v, _ => v = .int .i64 (ii : Int)
 | 12, v, _ => v = .int .i64 (ii - 15 : Int)
 | 13, v, _ => v = .pointer (some ⟨c, ii - 15, none⟩)
 | 14, v, _ => v = U w15
 | 15, v, _ => v = U (w15 >>> 3)
 | 16, v, _ => v = U (((rotr w15 7) ^^^ (rotr w15 18)) ^^^ (w15 >>> 3))
 | 17, v, _ => v = U (((rotr w15 7) ^^^ (rotr w15 18)) ^^^ (w15 >>> 3))
 | _, _, _ => True
def J86_31 (W0 : World) (c : Nat) (ii : Nat) (w15 : BitVec 32) (L : Array Bool) (w : World) : Prop := w = W0
set_option maxHeartbeats 3200000 in
theorem reg86_31 {ops : Array Oper} (ho : ops = ops86_31) {Q : Exit → Act → World → Prop} {a0 : Act} {w0 W0 : World} (hW : w0.drew = W0) {c : Nat} {ii : Nat} {w15 : BitVec 32} (h16 : 16 ≤ ii) (hii : ii < 64) (c15 : W0.cell? ⟨c, ii - 15, none⟩ = some (U w15)) (hs11 : a0.eval (.tmp 11) = .pointer (some ⟨c, 0, none⟩)) (hs12 : a0.eval (.tmp 12) = .int .i64 (ii : Int)) (hsz : a0.tmps.size = 287)
  (HK : ∀ a, a.defers = a0.defers → a.tmps.size = 287 → (∀ s, freeB ops86_31 s = true → a.eval (.tmp s) = a0.eval (.tmp s)) → (∀ i, i < 18 → R86_31 c ii w15 i (a.eval (.tmp (sl86_31 i))) (W0)) → Q .normal a (W0)) : (Code.region 31 ops true).wp Tryz.prog Q a0 w0 := by
 subst ho
 refine region_made (n := 18) (sl := sl86_31) (J := J86_31 W0 c ii w15) (R := R86_31 c ii w15) (by kernel_rfl) (by kernel_rfl) (by kernel_rfl) (by rw [hsz]; kernel_rfl) ?_ (show _ = _ from hW) (fun L a w hall hf => ?_)
 rotate_left
 ·obtain rfl : w = W0 := hf.world
  exact HK a hf.defers (hf.size.trans hsz) hf.rest (fun i hi => hf.got i (hall i hi))
 intro i hi L a w hs h1 hdep hd hst ho
 clear HK
 match i, hi, h1, hdep, ho with
 | 0, _, h1, hdep, ho =>
   have hw : w = W0 := hst.world
   obtain rfl : W0 = w := hw.symm
   have s12 : a.eval (.tmp 12) = .int .i64 (ii : Int) := (hst.rest 12 (by kernel_rfl)).trans hs12
   have hr : (execOp a.eval (opAt ops86_31 0)).run Tryz.prog W0 = .ok (.value (.int .i64 (ii : Int))) W0 := run_moved (x := .tmp 12) (by kernel_rfl) s12
   exact op_value ho (by kernel_rfl) hr (made_val (d := 118) (by kernel_rfl) rfl rfl (fun _ _ _ _ h => h))
 | 1, _, h1, hdep, ho =>
   have hw : w = W0 := hst.world
   obtain rfl : W0 = w := hw.symm
   have g0 : a.eval (.tmp 118) = .int .i64 (ii : Int) := hst.got 0 (hdep 0 (by kernel_rfl))
   have hr : (execOp a.eval (opAt ops86_31 1)).run Tryz.prog W0 = .ok (.value (.int .i64 (ii - 15 : Int))) W0 := run_sub64 (by rw [IntKind.wrap_i64]; omega) (show (opAt ops86_31 1).op = .binOp .sub 3 (.tmp 118) (.const (.int .i64 15)) 3 from (by kernel_rfl)) g0 rfl
   exact op_value ho (by kernel_rfl) hr (made_val (d := 119) (by kernel_rfl) rfl rfl (fun _ _ _ _ h => h))
 | 2, _, h1, hdep, ho =>
   have hw : w = W0 := hst.world
   obtain rfl : W0 = w := hw.symm
   have s11 : a.eval (.tmp 11) = .pointer (some ⟨c, 0, none⟩) := (hst.rest 11 (by kernel_rfl)).trans hs11
   have g1 : a.eval (.tmp 119) = .int .i64 (ii - 15 : Int) := hst.got 1 (hdep 1 (by kernel_rfl))
   have hr : (execOp a.eval (opAt ops86_31 2)).run Tryz.prog W0 = .ok (.value (.pointer (some ⟨c, ii - 15, none⟩))) W0 := (show 0 + (ii - 15) = ii - 15 from Nat.zero_add _) ▸ run_idx186 (b := c) (n := 0) (k := ii - 15) (by first | rfl | omega) (by first | decide | omega) (show (opAt ops86_31 2).op = .indexAddr 186 (.tmp 11) (.tmp 119) from (by kernel_rfl)) s11 g1
   exact op_value ho (by kernel_rfl) hr (made_val (d := 120) (by kernel_rfl) rfl rfl (fun _ _ _ _ h => h))
 | 3, _, h1, hdep, ho =>
   have hw : w = W0 := hst.world
   obtain rfl : W0 = w := hw.symm
   have g2 : a.eval (.tmp 120) = .pointer (some ⟨c, ii - 15, none⟩) := hst.got 2 (hdep 2 (by kernel_rfl))
   have hr : (execOp a.eval (opAt ops86_31 3)).run Tryz.prog W0 = .ok (.value (U w15)) W0 := run_load184 c15 (show (opAt ops86_31 3).op = .load 184 (.tmp 120) from (by kernel_rfl)) g2
   exact op_value ho (by kernel_rfl) hr (made_val (d := 121) (by kernel_rfl) rfl rfl (fun _ _ _ _ h => h))
 | 4, _, h1, hdep, ho =>
   have hw : w = W0 := hst.world
   obtain rfl : W0 = w := hw.symm
   have g3 : a.eval (.tmp 121) = U w15 := hst.got 3 (hdep 3 (by kernel_rfl))
   have hr : (execOp a.eval (opAt ops86_31 4)).run Tryz.prog W0 = .ok (.enter 118 #[U w15, .int .u64 7]) W0 := by
    clear hst hdep hd h1 hs ho
    have hk : ∀ f, a.eval (.func f) = .func (.func f) #[] #[] := fun _ => rfl
    have hc : ∀ v, a.eval (.const v) = v := fun _ => rfl
    generalize a.eval = ρ at g3 hk hc ⊢
    unfold execOp; rw [show (opAt ops86_31 4).op = .call { callee := .value (.func 118), args := #[.tmp 121, .const (.int .u64 7)], argTypes := #[184, 118] } from (by kernel_rfl)]; simp only [g3, hk, hc]
    go_simp
   refine op_call ho (by kernel_rfl) hr ((right_7 w15 W0).mono ?_)
   rintro e w'' ⟨rfl, rfl⟩
   exact ⟨_, rfl, made_val (d := 122) (by kernel_rfl) rfl rfl (fun _ _ _ _ h => h)⟩
 | 5, _, h1, hdep, ho =>
   have hw : w = W0 := hst.world
   obtain rfl : W0 = w := hw.symm
   have s12 : a.eval (.tmp 12) = .int .i64 (ii : Int) := (hst.rest 12 (by kernel_rfl)).trans hs12
   have hr : (execOp a.eval (opAt ops86_31 5)).run Tryz.prog W0 = .ok (.value (.int .i64 (ii : Int))) W0 := run_moved (x := .tmp 12) (by kernel_rfl) s12
   exact op_value ho (by kernel_rfl) hr (made_val (d := 123) (by kernel_rfl) rfl rfl (fun _ _ _ _ h => h))
 | 6, _, h1, hdep, ho =>
   have hw : w = W0 := hst.world
   obtain rfl : W0 = w := hw.symm
   have g5 : a.eval (.tmp 123) = .int .i64 (ii : Int) := hst.got 5 (hdep 5 (by kernel_rfl))
   have hr : (execOp a.eval (opAt ops86_31 6)).run Tryz.prog W0 = .ok (.value (.int .i64 (ii - 15 : Int))) W0 := run_sub64 (by rw [IntKind.wrap_i64]; omega) (show (opAt ops86_31 6).op = .binOp .sub 3 (.tmp 123) (.const (.int .i64 15)) 3 from (by kernel_rfl)) g5 rfl
   exact op_value ho (by kernel_rfl) hr (made_val (d := 124) (by kernel_rfl) rfl rfl (fun _ _ _ _ h => h))
 | 7, _, h1, hdep, ho =>
   have hw : w = W0 := hst.world
   obtain rfl : W0 = w := hw.symm
   have s11 : a.eval (.tmp 11) = .pointer (some ⟨c, 0, none⟩) := (hst.rest 11 (by kernel_rfl)).trans hs11
   have g6 : a.eval (.tmp 124) = .int .i64 (ii - 15 : Int) := hst.got 6 (hdep 6 (by kernel_rfl))
   have hr : (execOp a.eval (opAt ops86_31 7)).run Tryz.prog W0 = .ok (.value (.pointer (some ⟨c, ii - 15, none⟩))) W0 := (show 0 + (ii - 15) = ii - 15 from Nat.zero_add _) ▸ run_idx186 (b := c) (n := 0) (k := ii - 15) (by first | rfl | omega) (by first | decide | omega) (show (opAt ops86_31 7).op = .indexAddr 186 (.tmp 11) (.tmp 124) from (by kernel_rfl)) s11 g6
   exact op_value ho (by kernel_rfl) hr (made_val (d := 125) (by kernel_rfl) rfl rfl (fun _ _ _ _ h => h))
 | 8, _, h1, hdep, ho =>
   have hw : w = W0 := hst.world
   obtain rfl : W0 = w := hw.symm
   have g7 : a.eval (.tmp 125) = .pointer (some ⟨c, ii - 15, none⟩) := hst.got 7 (hdep 7 (by kernel_rfl))
   have hr : (execOp a.eval (opAt ops86_31 8)).run Tryz.prog W0 = .ok (.value (U w15)) W0 := run_load184 c15 (show (opAt ops86_31 8).op = .load 184 (.tmp 125) from (by kernel_rfl)) g7
   exact op_value ho (by kernel_rfl) hr (made_val (d := 126) (by kernel_rfl) rfl rfl (fun _ _ _ _ h => h))
 | 9, _, h1, hdep, ho =>
   have hw : w = W0 := hst.world
   obtain rfl : W0 = w := hw.symm
   have g8 : a.eval (.tmp 126) = U w15 := hst.got 8 (hdep 8 (by kernel_rfl))
   have hr : (execOp a.eval (opAt ops86_31 9)).run Tryz.prog W0 = .ok (.enter 118 #[U w15, .int .u64 18]) W0 := by
    clear hst hdep hd h1 hs ho
    have hk : ∀ f, a.eval (.func f) = .func (.func f) #[] #[] := fun _ => rfl
    have hc : ∀ v, a.eval (.const v) = v := fun _ => rfl
    generalize a.eval = ρ at g8 hk hc ⊢
    unfold execOp; rw [show (opAt ops86_31 9).op = .call { callee := .value (.func 118), args := #[.tmp 126, .const (.int .u64 18)], argTypes := #[184, 118] } from (by kernel_rfl)]; simp only [g8, hk, hc]
    go_simp
   refine op_call ho (by kernel_rfl) hr ((right_18 w15 W0).mono ?_)
   rintro e w'' ⟨rfl, rfl⟩
   exact ⟨_, rfl, made_val (d := 127) (by kernel_rfl) rfl rfl (fun _ _ _ _ h => h)⟩
 | 10, _, h1, hdep, ho =>
   have hw : w = W0 := hst.world
   obtain rfl : W0 = w := hw.symm
   have g4 : a.eval (.tmp 122) = U (rotr w15 7) := hst.got 4 (hdep 4 (by kernel_rfl))
   have g9 : a.eval (.tmp 127) = U (rotr w15 18) := hst.got 9 (hdep 9 (by kernel_rfl))
   have hr : (execOp a.eval (opAt ops86_31 10)).run Tryz.prog W0 = .ok (.value (U ((rotr w15 7) ^^^ (rotr w15 18)))) W0 := run_xor32 (show (opAt ops86_31 10).op = .binOp .xor 184 (.tmp 122) (.tmp 127) 184 from (by kernel_rfl)) g4 g9
   exact op_value ho (by kernel_rfl) hr (made_val (d := 128) (by kernel_rfl) rfl rfl (fun _ _ _ _ h => h))
 | 11, _, h1, hdep, ho =>
   have hw : w = W0 := hst.world
   obtain rfl : W0 = w := hw.symm
   have s12 : a.eval (.tmp 12) = .int .i64 (ii : Int) := (hst.rest 12 (by kernel_rfl)).trans hs12
   have hr : (execOp a.eval (opAt ops86_31 11)).run Tryz.prog W0 = .ok (.value (.int .i64 (ii : Int))) W0 := run_moved (x := .tmp 12) (by kernel_rfl) s12
   exact op_value ho (by kernel_rfl) hr (made_val (d := 129) (by kernel_rfl) rfl rfl (fun _ _ _ _ h => h))
 | 12, _, h1, hdep, ho =>
   have hw : w = W0 := hst.world
   obtain rfl : W0 = w := hw.symm
   have g11 : a.eval (.tmp 129) = .int .i64 (ii : Int) := hst.got 11 (hdep 11 (by kernel_rfl))
   have hr : (execOp a.eval (opAt ops86_31 12)).run Tryz.prog W0 = .ok (.value (.int .i64 (ii - 15 : Int))) W0 := run_sub64 (by rw [IntKind.wrap_i64]; omega) (show (opAt ops86_31 12).op = .binOp .sub 3 (.tmp 129) (.const (.int .i64 15)) 3 from (by kernel_rfl)) g11 rfl
   exact op_value ho (by kernel_rfl) hr (made_val (d := 130) (by kernel_rfl) rfl rfl (fun _ _ _ _ h => h))
 | 13, _, h1, hdep, ho =>
   have hw : w = W0 := hst.world
   obtain rfl : W0 = w := hw.symm
   have s11 : a.eval (.tmp 11) = .pointer (some ⟨c, 0, none⟩) := (hst.rest 11 (by kernel_rfl)).trans hs11
   have g12 : a.eval (.tmp 130) = .int .i64 (ii - 15 : Int) := hst.got 12 (hdep 12 (by kernel_rfl))
   have hr : (execOp a.eval (opAt ops86_31 13)).run Tryz.prog W0 = .ok (.value (.pointer (some ⟨c, ii - 15, none⟩))) W0 := (show 0 + (ii - 15) = ii - 15 from Nat.zero_add _) ▸ run_idx186 (b := c) (n := 0) (k := ii - 15) (by first | rfl | omega) (by first | decide | omega) (show (opAt ops86_31 13).op = .indexAddr 186 (.tmp 11) (.tmp 130) from (by kernel_rfl)) s11 g12
   exact op_value ho (by kernel_rfl) hr (made_val (d := 131) (by kernel_rfl) rfl rfl (fun _ _ _ _ h => h))
 | 14, _, h1, hdep, ho =>
   have hw : w = W0 := hst.world
   obtain rfl : W0 = w := hw.symm
   have g13 : a.eval (.tmp 131) = .pointer (some ⟨c, ii - 15, none⟩) := hst.got 13 (hdep 13 (by kernel_rfl))
   have hr : (execOp a.eval (opAt ops86_31 14)).run Tryz.prog W0 = .ok (.value (U w15)) W0 := run_load184 c15 (show (opAt ops86_31 14).op = .load 184 (.tmp 131) from (by kernel_rfl)) g13
   exact op_value ho (by kernel_rfl) hr (made_val (d := 132) (by kernel_rfl) rfl rfl (fun _ _ _ _ h => h))
 | 15, _, h1, hdep, ho =>
   have hw : w = W0 := hst.world
   obtain rfl : W0 = w := hw.symm
   have g14 : a.eval (.tmp 132) = U w15 := hst.got 14 (hdep 14 (by kernel_rfl))
   have hr : (execOp a.eval (opAt ops86_31 15)).run Tryz.prog W0 = .ok (.value (U (w15 >>> 3))) W0 := run_shr32 (k := 3) (by decide) (show (opAt ops86_31 15).op = .binOp .shr 184 (.tmp 132) (.const (.int .u64 3)) 118 from (by kernel_rfl)) g14 rfl
   exact op_value ho (by kernel_rfl) hr (made_val (d := 133) (by kernel_rfl) rfl rfl (fun _ _ _ _ h => h))
 | 16, _, h1, hdep, ho =>
   have hw : w = W0 := hst.world
   obtain rfl : W0 = w := hw.symm
   have g10 : a.eval (.tmp 128) = U ((rotr w15 7) ^^^ (rotr w15 18)) := hst.got 10 (hdep 10 (by kernel_rfl))
   have g15 : a.eval (.tmp 133) = U (w15 >>> 3) := hst.got 15 (hdep 15 (by kernel_rfl))
   have hr : (execOp a.eval (opAt ops86_31 16)).run Tryz.prog W0 = .ok (.value (U (((rotr w15 7) ^^^ (rotr w15 18)) ^^^ (w15 >>> 3)))) W0 := run_xor32 (show (opAt ops86_31 16).op = .binOp .xor 184 (.tmp 128) (.tmp 133) 184 from (by kernel_rfl)) g10 g15
   exact op_value ho (by kernel_rfl) hr (made_val (d := 134) (by kernel_rfl) rfl rfl (fun _ _ _ _ h => h))
 | 17, _, h1, hdep, ho =>
   have hw : w = W0 := hst.world
   obtain rfl : W0 = w := hw.symm
   have g16 : a.eval (.tmp 134) = U (((rotr w15 7) ^^^ (rotr w15 18)) ^^^ (w15 >>> 3)) := hst.got 16 (hdep 16 (by kernel_rfl))
   have hr : (execOp a.eval (opAt ops86_31 17)).run Tryz.prog W0 = .ok (.value (U (((rotr w15 7) ^^^ (rotr w15 18)) ^^^ (w15 >>> 3)))) W0 := run_moved_as (x := .tmp 134) (by kernel_rfl) g16
   exact op_value ho (by kernel_rfl) hr (made_val (d := 14) (by kernel_rfl) rfl rfl (fun _ _ _ _ h => h))
 | k + 18, hi, _, _, _ => exact absurd hi (by omega)
noncomputable def ops86_32 : Array Oper := (Tryz.f86.body.bind (inCode 32)).getD #[]
def sl86_32 : Nat → Nat
 | 0 => 135
 | 1 => 136
 | 2 => 137
 | 3 => 138
 | 4 => 139
 | 5 => 140
 | 6 => 141
 | 7 => 142
 | 8 => 143
 | 9 => 144
 | 10 => 145
 | 11 => 146
 | 12 => 147
 | 13 => 148
 | 14 => 149
 | 15 => 150
 | 16 => 151
 | 17 => 15
 | _ => 0
def R86_32 (c : Nat) (ii : Nat) (w2 : BitVec 32) : Nat → Value → World → Prop
 | 0, v, _ => v = .int .i64 (ii : Int)
 | 1, v, _ => v = .int .i64 (ii - 2 : Int)
 | 2, v, _ => v = .pointer (some ⟨c, ii - 2, none⟩)
 | 3, v, _ => v = U w2
 | 4, v, _ => v = U (rotr w2 17)
 | 5, v, _ => v = .int .i64 (ii : Int)
 | 6, v, _ => v = .int .i64 (ii - 2 : Int)
 | 7, v, _ => v = .pointer (some ⟨c, ii - 2, none⟩)
 | 8, v, _ => v = U w2
 | 9, v, _ => v = U (rotr w2 19)
 | 10, v, _ => v = U ((rotr w2 17) ^^^ (rotr w2 19))
 | 11, v, _ => v = .int .i64 (ii : Int)
 | 12, v, _ => v = .int .i64 (ii - 2 : Int)
 | 13, v, _ => v = .pointer (some ⟨c, ii - 2, none⟩)
 | 14, v, _ => v = U w2
 | 15, v, _ => v = U (w2 >>> 10)
 | 16, v, _ => v = U (((rotr w2 17) ^^^ (rotr w2 19)) ^^^ (w2 >>> 10))
 | 17, v, _ => v = U (((rotr w2 17) ^^^ (rotr w2 19)) ^^^ (w2 >>> 10))
 | _, _, _ => True
def J86_32 (W0 : World) (c : Nat) (ii : Nat) (w2 : BitVec 32) (L : Array Bool) (w : World) : Prop := w = W0
set_option maxHeartbeats 3200000 in
theorem reg86_32 {ops : Array Oper} (ho : ops = ops86_32) {Q : Exit → Act → World → Prop} {a0 : Act} {w0 W0 : World} (hW : w0.drew = W0) {c : Nat} {ii : Nat} {w2 : BitVec 32} (h16 : 16 ≤ ii) (hii : ii < 64) (c2 : W0.cell? ⟨c, ii - 2, none⟩ = some (U w2)) (hs11 : a0.eval (.tmp 11) = .pointer (some ⟨c, 0, none⟩)) (hs12 : a0.eval (.tmp 12) = .int .i64 (ii : Int)) (hsz : a0.tmps.size = 287)
  (HK : ∀ a, a.defers = a0.defers → a.tmps.size = 287 → (∀ s, freeB ops86_32 s = true → a.eval (.tmp s) = a0.eval (.tmp s)) → (∀ i, i < 18 → R86_32 c ii w2 i (a.eval (.tmp (sl86_32 i))) (W0)) → Q .normal a (W0)) : (Code.region 32 ops true).wp Tryz.prog Q a0 w0 := by
 subst ho
 refine region_made (n := 18) (sl := sl86_32) (J := J86_32 W0 c ii w2) (R := R86_32 c ii w2) (by kernel_rfl) (by kernel_rfl) (by kernel_rfl) (by rw [hsz]; kernel_rfl) ?_ (show _ = _ from hW) (fun L a w hall hf => ?_)
 rotate_left
 ·obtain rfl : w = W0 := hf.world
  exact HK a hf.defers (hf.size.trans hsz) hf.rest (fun i hi => hf.got i (hall i hi))
 intro i hi L a w hs h1 hdep hd hst ho
 clear HK
 match i, hi, h1, hdep, ho with
 | 0, _, h1, hdep, ho =>
   have hw : w = W0 := hst.world
   obtain rfl : W0 = w := hw.symm
   have s12 : a.eval (.tmp 12) = .int .i64 (ii : Int) := (hst.rest 12 (by kernel_rfl)).trans hs12
   have hr : (execOp a.eval (opAt ops86_32 0)).run Tryz.prog W0 = .ok (.value (.int .i64 (ii : Int))) W0 := run_moved (x := .tmp 12) (by kernel_rfl) s12
   exact op_value ho (by kernel_rfl) hr (made_val (d := 135) (by kernel_rfl) rfl rfl (fun _ _ _ _ h => h))
 | 1, _, h1, hdep, ho =>
   have hw : w = W0 := hst.world
   obtain rfl : W0 = w := hw.symm
   have g0 : a.eval (.tmp 135) = .int .i64 (ii : Int) := hst.got 0 (hdep 0 (by kernel_rfl))
   have hr : (execOp a.eval (opAt ops86_32 1)).run Tryz.prog W0 = .ok (.value (.int .i64 (ii - 2 : Int))) W0 := run_sub64 (by rw [IntKind.wrap_i64]; omega) (show (opAt ops86_32 1).op = .binOp .sub 3 (.tmp 135) (.const (.int .i64 2)) 3 from (by kernel_rfl)) g0 rfl
   exact op_value ho (by kernel_rfl) hr (made_val (d := 136) (by kernel_rfl) rfl rfl (fun _ _ _ _ h => h))
 | 2, _, h1, hdep, ho =>
   have hw : w = W0 := hst.world
   obtain rfl : W0 = w := hw.symm
   have s11 : a.eval (.tmp 11) = .pointer (some ⟨c, 0, none⟩) := (hst.rest 11 (by kernel_rfl)).trans hs11
   have g1 : a.eval (.tmp 136) = .int .i64 (ii - 2 : Int) := hst.got 1 (hdep 1 (by kernel_rfl))
   have hr : (execOp a.eval (opAt ops86_32 2)).run Tryz.prog W0 = .ok (.value (.pointer (some ⟨c, ii - 2, none⟩))) W0 := (show 0 + (ii - 2) = ii - 2 from Nat.zero_add _) ▸ run_idx186 (b := c) (n := 0) (k := ii - 2) (by first | rfl | omega) (by first | decide | omega) (show (opAt ops86_32 2).op = .indexAddr 186 (.tmp 11) (.tmp 136) from (by kernel_rfl)) s11 g1
   exact op_value ho (by kernel_rfl) hr (made_val (d := 137) (by kernel_rfl) rfl rfl (fun _ _ _ _ h => h))
 | 3, _, h1, hdep, ho =>
   have hw : w = W0 := hst.world
   obtain rfl : W0 = w := hw.symm
   have g2 : a.eval (.tmp 137) = .pointer (some ⟨c, ii - 2, none⟩) := hst.got 2 (hdep 2 (by kernel_rfl))
   have hr : (execOp a.eval (opAt ops86_32 3)).run Tryz.prog W0 = .ok (.value (U w2)) W0 := run_load184 c2 (show (opAt ops86_32 3).op = .load 184 (.tmp 137) from (by kernel_rfl)) g2
   exact op_value ho (by kernel_rfl) hr (made_val (d := 138) (by kernel_rfl) rfl rfl (fun _ _ _ _ h => h))
 | 4, _, h1, hdep, ho =>
   have hw : w = W0 := hst.world
   obtain rfl : W0 = w := hw.symm
   have g3 : a.eval (.tmp 138) = U w2 := hst.got 3 (hdep 3 (by kernel_rfl))
   have hr : (execOp a.eval (opAt ops86_32 4)).run Tryz.prog W0 = .ok (.enter 118 #[U w2, .int .u64 17]) W0 := by
    clear hst hdep hd h1 hs ho
    have hk : ∀ f, a.eval (.func f) = .func (.func f) #[] #[] := fun _ => rfl
    have hc : ∀ v, a.eval (.const v) = v := fun _ => rfl
    generalize a.eval = ρ at g3 hk hc ⊢
    unfold execOp; rw [show (opAt ops86_32 4).op = .call { callee := .value (.func 118), args := #[.tmp 138, .const (.int .u64 17)], argTypes := #[184, 118] } from (by kernel_rfl)]; simp only [g3, hk, hc]
    go_simp
   refine op_call ho (by kernel_rfl) hr ((right_17 w2 W0).mono ?_)
   rintro e w'' ⟨rfl, rfl⟩
   exact ⟨_, rfl, made_val (d := 139) (by kernel_rfl) rfl rfl (fun _ _ _ _ h => h)⟩
 | 5, _, h1, hdep, ho =>
   have hw : w = W0 := hst.world
   obtain rfl : W0 = w := hw.symm
   have s12 : a.eval (.tmp 12) = .int .i64 (ii : Int) := (hst.rest 12 (by kernel_rfl)).trans hs12
   have hr : (execOp a.eval (opAt ops86_32 5)).run Tryz.prog W0 = .ok (.value (.int .i64 (ii : Int))) W0 := run_moved (x := .tmp 12) (by kernel_rfl) s12
   exact op_value ho (by kernel_rfl) hr (made_val (d := 140) (by kernel_rfl) rfl rfl (fun _ _ _ _ h => h))
 | 6, _, h1, hdep, ho =>
   have hw : w = W0 := hst.world
   obtain rfl : W0 = w := hw.symm
   have g5 : a.eval (.tmp 140) = .int .i64 (ii : Int) := hst.got 5 (hdep 5 (by kernel_rfl))
   have hr : (execOp a.eval (opAt ops86_32 6)).run Tryz.prog W0 = .ok (.value (.int .i64 (ii - 2 : Int))) W0 := run_sub64 (by rw [IntKind.wrap_i64]; omega) (show (opAt ops86_32 6).op = .binOp .sub 3 (.tmp 140) (.const (.int .i64 2)) 3 from (by kernel_rfl)) g5 rfl
   exact op_value ho (by kernel_rfl) hr (made_val (d := 141) (by kernel_rfl) rfl rfl (fun _ _ _ _ h => h))
 | 7, _, h1, hdep, ho =>
   have hw : w = W0 := hst.world
   obtain rfl : W0 = w := hw.symm
   have s11 : a.eval (.tmp 11) = .pointer (some ⟨c, 0, none⟩) := (hst.rest 11 (by kernel_rfl)).trans hs11
   have g6 : a.eval (.tmp 141) = .int .i64 (ii - 2 : Int) := hst.got 6 (hdep 6 (by kernel_rfl))
   have hr : (execOp a.eval (opAt ops86_32 7)).run Tryz.prog W0 = .ok (.value (.pointer (some ⟨c, ii - 2, none⟩))) W0 := (show 0 + (ii - 2) = ii - 2 from Nat.zero_add _) ▸ run_idx186 (b := c) (n := 0) (k := ii - 2) (by first | rfl | omega) (by first | decide | omega) (show (opAt ops86_32 7).op = .indexAddr 186 (.tmp 11) (.tmp 141) from (by kernel_rfl)) s11 g6
   exact op_value ho (by kernel_rfl) hr (made_val (d := 142) (by kernel_rfl) rfl rfl (fun _ _ _ _ h => h))
 | 8, _, h1, hdep, ho =>
   have hw : w = W0 := hst.world
   obtain rfl : W0 = w := hw.symm
   have g7 : a.eval (.tmp 142) = .pointer (some ⟨c, ii - 2, none⟩) := hst.got 7 (hdep 7 (by kernel_rfl))
   have hr : (execOp a.eval (opAt ops86_32 8)).run Tryz.prog W0 = .ok (.value (U w2)) W0 := run_load184 c2 (show (opAt ops86_32 8).op = .load 184 (.tmp 142) from (by kernel_rfl)) g7
   exact op_value ho (by kernel_rfl) hr (made_val (d := 143) (by kernel_rfl) rfl rfl (fun _ _ _ _ h => h))
 | 9, _, h1, hdep, ho =>
   have hw : w = W0 := hst.world
   obtain rfl : W0 = w := hw.symm
   have g8 : a.eval (.tmp 143) = U w2 := hst.got 8 (hdep 8 (by kernel_rfl))
   have hr : (execOp a.eval (opAt ops86_32 9)).run Tryz.prog W0 = .ok (.enter 118 #[U w2, .int .u64 19]) W0 := by
    clear hst hdep hd h1 hs ho
    have hk : ∀ f, a.eval (.func f) = .func (.func f) #[] #[] := fun _ => rfl
    have hc : ∀ v, a.eval (.const v) = v := fun _ => rfl
    generalize a.eval = ρ at g8 hk hc ⊢
    unfold execOp; rw [show (opAt ops86_32 9).op = .call { callee := .value (.func 118), args := #[.tmp 143, .const (.int .u64 19)], argTypes := #[184, 118] } from (by kernel_rfl)]; simp only [g8, hk, hc]
    go_simp
   refine op_call ho (by kernel_rfl) hr ((right_19 w2 W0).mono ?_)
   rintro e w'' ⟨rfl, rfl⟩
   exact ⟨_, rfl, made_val (d := 144) (by kernel_rfl) rfl rfl (fun _ _ _ _ h => h)⟩
 | 10, _, h1, hdep, ho =>
   have hw : w = W0 := hst.world
   obtain rfl : W0 = w := hw.symm
   have g4 : a.eval (.tmp 139) = U (rotr w2 17) := hst.got 4 (hdep 4 (by kernel_rfl))
   have g9 : a.eval (.tmp 144) = U (rotr w2 19) := hst.got 9 (hdep 9 (by kernel_rfl))
   have hr : (execOp a.eval (opAt ops86_32 10)).run Tryz.prog W0 = .ok (.value (U ((rotr w2 17) ^^^ (rotr w2 19)))) W0 := run_xor32 (show (opAt ops86_32 10).op = .binOp .xor 184 (.tmp 139) (.tmp 144) 184 from (by kernel_rfl)) g4 g9
   exact op_value ho (by kernel_rfl) hr (made_val (d := 145) (by kernel_rfl) rfl rfl (fun _ _ _ _ h => h))
 | 11, _, h1, hdep, ho =>
   have hw : w = W0 := hst.world
   obtain rfl : W0 = w := hw.symm
   have s12 : a.eval (.tmp 12) = .int .i64 (ii : Int) := (hst.rest 12 (by kernel_rfl)).trans hs12
   have hr : (execOp a.eval (opAt ops86_32 11)).run Tryz.prog W0 = .ok (.value (.int .i64 (ii : Int))) W0 := run_moved (x := .tmp 12) (by kernel_rfl) s12
   exact op_value ho (by kernel_rfl) hr (made_val (d := 146) (by kernel_rfl) rfl rfl (fun _ _ _ _ h => h))
 | 12, _, h1, hdep, ho =>
   have hw : w = W0 := hst.world
   obtain rfl : W0 = w := hw.symm
   have g11 : a.eval (.tmp 146) = .int .i64 (ii : Int) := hst.got 11 (hdep 11 (by kernel_rfl))
   have hr : (execOp a.eval (opAt ops86_32 12)).run Tryz.prog W0 = .ok (.value (.int .i64 (ii - 2 : Int))) W0 := run_sub64 (by rw [IntKind.wrap_i64]; omega) (show (opAt ops86_32 12).op = .binOp .sub 3 (.tmp 146) (.const (.int .i64 2)) 3 from (by kernel_rfl)) g11 rfl
   exact op_value ho (by kernel_rfl) hr (made_val (d := 147) (by kernel_rfl) rfl rfl (fun _ _ _ _ h => h))
 | 13, _, h1, hdep, ho =>
   have hw : w = W0 := hst.world
   obtain rfl : W0 = w := hw.symm
   have s11 : a.eval (.tmp 11) = .pointer (some ⟨c, 0, none⟩) := (hst.rest 11 (by kernel_rfl)).trans hs11
   have g12 : a.eval (.tmp 147) = .int .i64 (ii - 2 : Int) := hst.got 12 (hdep 12 (by kernel_rfl))
   have hr : (execOp a.eval (opAt ops86_32 13)).run Tryz.prog W0 = .ok (.value (.pointer (some ⟨c, ii - 2, none⟩))) W0 := (show 0 + (ii - 2) = ii - 2 from Nat.zero_add _) ▸ run_idx186 (b := c) (n := 0) (k := ii - 2) (by first | rfl | omega) (by first | decide | omega) (show (opAt ops86_32 13).op = .indexAddr 186 (.tmp 11) (.tmp 147) from (by kernel_rfl)) s11 g12
   exact op_value ho (by kernel_rfl) hr (made_val (d := 148) (by kernel_rfl) rfl rfl (fun _ _ _ _ h => h))
 | 14, _, h1, hdep, ho =>
   have hw : w = W0 := hst.world
   obtain rfl : W0 = w := hw.symm
   have g13 : a.eval (.tmp 148) = .pointer (some ⟨c, ii - 2, none⟩) := hst.got 13 (hdep 13 (by kernel_rfl))
   have hr : (execOp a.eval (opAt ops86_32 14)).run Tryz.prog W0 = .ok (.value (U w2)) W0 := run_load184 c2 (show (opAt ops86_32 14).op = .load 184 (.tmp 148) from (by kernel_rfl)) g13
   exact op_value ho (by kernel_rfl) hr (made_val (d := 149) (by kernel_rfl) rfl rfl (fun _ _ _ _ h => h))
 | 15, _, h1, hdep, ho =>
   have hw : w = W0 := hst.world
   obtain rfl : W0 = w := hw.symm
   have g14 : a.eval (.tmp 149) = U w2 := hst.got 14 (hdep 14 (by kernel_rfl))
   have hr : (execOp a.eval (opAt ops86_32 15)).run Tryz.prog W0 = .ok (.value (U (w2 >>> 10))) W0 := run_shr32 (k := 10) (by decide) (show (opAt ops86_32 15).op = .binOp .shr 184 (.tmp 149) (.const (.int .u64 10)) 118 from (by kernel_rfl)) g14 rfl
   exact op_value ho (by kernel_rfl) hr (made_val (d := 150) (by kernel_rfl) rfl rfl (fun _ _ _ _ h => h))
 | 16, _, h1, hdep, ho =>
   have hw : w = W0 := hst.world
   obtain rfl : W0 = w := hw.symm
   have g10 : a.eval (.tmp 145) = U ((rotr w2 17) ^^^ (rotr w2 19)) := hst.got 10 (hdep 10 (by kernel_rfl))
   have g15 : a.eval (.tmp 150) = U (w2 >>> 10) := hst.got 15 (hdep 15 (by kernel_rfl))
   have hr : (execOp a.eval (opAt ops86_32 16)).run Tryz.prog W0 = .ok (.value (U (((rotr w2 17) ^^^ (rotr w2 19)) ^^^ (w2 >>> 10)))) W0 := run_xor32 (show (opAt ops86_32 16).op = .binOp .xor 184 (.tmp 145) (.tmp 150) 184 from (by kernel_rfl)) g10 g15
   exact op_value ho (by kernel_rfl) hr (made_val (d := 151) (by kernel_rfl) rfl rfl (fun _ _ _ _ h => h))
 | 17, _, h1, hdep, ho =>
   have hw : w = W0 := hst.world
   obtain rfl : W0 = w := hw.symm
   have g16 : a.eval (.tmp 151) = U (((rotr w2 17) ^^^ (rotr w2 19)) ^^^ (w2 >>> 10)) := hst.got 16 (hdep 16 (by kernel_rfl))
   have hr : (execOp a.eval (opAt ops86_32 17)).run Tryz.prog W0 = .ok (.value (U (((rotr w2 17) ^^^ (rotr w2 19)) ^^^ (w2 >>> 10)))) W0 := run_moved_as (x := .tmp 151) (by kernel_rfl) g16
   exact op_value ho (by kernel_rfl) hr (made_val (d := 15) (by kernel_rfl) rfl rfl (fun _ _ _ _ h => h))
 | k + 18, hi, _, _, _ => exact absurd hi (by omega)
noncomputable def ops86_33 : Array Oper := (Tryz.f86.body.bind (inCode 33)).getD #[]
def sl86_33 : Nat → Nat
 | 0 => 152
 | 1 => 153
 | 2 => 154
 | 3 => 155
 | 4 => 156
 | 5 => 157
 | 6 => 158
 | 7 => 159
 | 8 => 160
 | 9 => 161
 | 10 => 162
 | 11 => 163
 | 12 => 164
 | 13 => 165
 | 14 => 166
 | 15 => 1000001
 | _ => 0
def R86_33 (c : Nat) (ii : Nat) (w16 : BitVec 32) (w7 : BitVec 32) (pp : BitVec 32) (qq : BitVec 32) (y : Value) : Nat → Value → World → Prop
 | 0, v, _ => v = .int .i64 (ii : Int)
 | 1, v, _ => v = .int .i64 (ii : Int)
 | 2, v, _ => v = .int .i64 (ii - 16 : Int)
 | 3, v, _ => v = .pointer (some ⟨c, ii - 16, none⟩)
 | 4, v, _ => v = U w16
 | 5, v, _ => v = .int .i64 (ii : Int)
 | 6, v, _ => v = .int .i64 (ii - 7 : Int)
 | 7, v, _ => v = .pointer (some ⟨c, ii - 7, none⟩)
 | 8, v, _ => v = U w7
 | 9, v, _ => v = U (w16 + w7)
 | 10, v, _ => v = U pp
 | 11, v, _ => v = U ((w16 + w7) + pp)
 | 12, v, _ => v = U qq
 | 13, v, _ => v = U (((w16 + w7) + pp) + qq)
 | 14, v, _ => v = .pointer (some ⟨c, ii, none⟩)
 | 15, v, _ => True
 | _, _, _ => True
def J86_33 (W0 : World) (c : Nat) (ii : Nat) (w16 : BitVec 32) (w7 : BitVec 32) (pp : BitVec 32) (qq : BitVec 32) (y : Value) (L : Array Bool) (w : World) : Prop := (L.getD 15 false = false → w = W0) ∧ (L.getD 15 false = true → w = W0.setCell ⟨c, ii, none⟩ (U (((w16 + w7) + pp) + qq)))
theorem J86_33_any {W0 : World} {c : Nat} {ii : Nat} {w16 : BitVec 32} {w7 : BitVec 32} {pp : BitVec 32} {qq : BitVec 32} {y : Value} {L : Array Bool} {w : World} (i : Nat) (hi : i ≠ 15) (h : J86_33 W0 c ii w16 w7 pp qq y L w) : J86_33 W0 c ii w16 w7 pp qq y (L.setIfInBounds i true) w := by
 obtain ⟨h0, h1⟩ := h
 exact ⟨fun h => h0 (unset h), fun h => h1 (set_ne (by omega) h)⟩
set_option maxHeartbeats 3200000 in
theorem reg86_33 {ops : Array Oper} (ho : ops = ops86_33) {Q : Exit → Act → World → Prop} {a0 : Act} {w0 W0 : World} (hW : w0.drew = W0) {c : Nat} {ii : Nat} {w16 : BitVec 32} {w7 : BitVec 32} {pp : BitVec 32} {qq : BitVec 32} {y : Value} (h16 : 16 ≤ ii) (hii : ii < 64) (c16 : W0.cell? ⟨c, ii - 16, none⟩ = some (U w16)) (c7 : W0.cell? ⟨c, ii - 7, none⟩ = some (U w7)) (cw : W0.cell? ⟨c, ii, none⟩ = some y) (fw : W0.frozen? ⟨c, ii, none⟩ = false) (hs11 : a0.eval (.tmp 11) = .pointer (some ⟨c, 0, none⟩)) (hs12 : a0.eval (.tmp 12) = .int .i64 (ii : Int)) (hs14 : a0.eval (.tmp 14) = U pp) (hs15 : a0.eval (.tmp 15) = U qq) (hsz : a0.tmps.size = 287)
  (HK : ∀ a, a.defers = a0.defers → a.tmps.size = 287 → (∀ s, freeB ops86_33 s = true → a.eval (.tmp s) = a0.eval (.tmp s)) → (∀ i, i < 16 → R86_33 c ii w16 w7 pp qq y i (a.eval (.tmp (sl86_33 i))) (W0.setCell ⟨c, ii, none⟩ (U (((w16 + w7) + pp) + qq)))) → Q .normal a (W0.setCell ⟨c, ii, none⟩ (U (((w16 + w7) + pp) + qq)))) : (Code.region 33 ops true).wp Tryz.prog Q a0 w0 := by
 subst ho
 refine region_made (n := 16) (sl := sl86_33) (J := J86_33 W0 c ii w16 w7 pp qq y) (R := R86_33 c ii w16 w7 pp qq y) (by kernel_rfl) (by kernel_rfl) (by kernel_rfl) (by rw [hsz]; kernel_rfl) ?_ (by rw [hW]; exact ⟨fun _ => rfl, fun h => by simp [Array.getD] at h⟩) (fun L a w hall hf => ?_)
 rotate_left
 ·have hw1 : w = W0.setCell ⟨c, ii, none⟩ (U (((w16 + w7) + pp) + qq)) := hf.world.2 (hall 15 (by decide))
  subst w
  exact HK a hf.defers (hf.size.trans hsz) hf.rest (fun i hi => hf.got i (hall i hi))
 intro i hi L a w hs h1 hdep hd hst ho
 clear HK
 match i, hi, h1, hdep, ho with
 | 0, _, h1, hdep, ho =>
   have JJ := J86_33_any 0 (by decide) hst.world
   have s12 : a.eval (.tmp 12) = .int .i64 (ii : Int) := (hst.rest 12 (by kernel_rfl)).trans hs12
   have hr : (execOp a.eval (opAt ops86_33 0)).run Tryz.prog w = .ok (.value (.int .i64 (ii : Int))) w := run_moved (x := .tmp 12) (by kernel_rfl) s12
   exact op_value ho (by kernel_rfl) hr (made_val (d := 152) (by kernel_rfl) rfl JJ (fun _ _ _ _ h => h))
 | 1, _, h1, hdep, ho =>
   have JJ := J86_33_any 1 (by decide) hst.world
   have s12 : a.eval (.tmp 12) = .int .i64 (ii : Int) := (hst.rest 12 (by kernel_rfl)).trans hs12
   have hr : (execOp a.eval (opAt ops86_33 1)).run Tryz.prog w = .ok (.value (.int .i64 (ii : Int))) w := run_moved (x := .tmp 12) (by kernel_rfl) s12
   exact op_value ho (by kernel_rfl) hr (made_val (d := 153) (by kernel_rfl) rfl JJ (fun _ _ _ _ h => h))
 | 2, _, h1, hdep, ho =>
   have JJ := J86_33_any 2 (by decide) hst.world
   have g1 : a.eval (.tmp 153) = .int .i64 (ii : Int) := hst.got 1 (hdep 1 (by kernel_rfl))
   have hr : (execOp a.eval (opAt ops86_33 2)).run Tryz.prog w = .ok (.value (.int .i64 (ii - 16 : Int))) w := run_sub64 (by rw [IntKind.wrap_i64]; omega) (show (opAt ops86_33 2).op = .binOp .sub 3 (.tmp 153) (.const (.int .i64 16)) 3 from (by kernel_rfl)) g1 rfl
   exact op_value ho (by kernel_rfl) hr (made_val (d := 154) (by kernel_rfl) rfl JJ (fun _ _ _ _ h => h))
 | 3, _, h1, hdep, ho =>
   have JJ := J86_33_any 3 (by decide) hst.world
   have s11 : a.eval (.tmp 11) = .pointer (some ⟨c, 0, none⟩) := (hst.rest 11 (by kernel_rfl)).trans hs11
   have g2 : a.eval (.tmp 154) = .int .i64 (ii - 16 : Int) := hst.got 2 (hdep 2 (by kernel_rfl))
   have hr : (execOp a.eval (opAt ops86_33 3)).run Tryz.prog w = .ok (.value (.pointer (some ⟨c, ii - 16, none⟩))) w := (show 0 + (ii - 16) = ii - 16 from Nat.zero_add _) ▸ run_idx186 (b := c) (n := 0) (k := ii - 16) (by first | rfl | omega) (by first | decide | omega) (show (opAt ops86_33 3).op = .indexAddr 186 (.tmp 11) (.tmp 154) from (by kernel_rfl)) s11 g2
   exact op_value ho (by kernel_rfl) hr (made_val (d := 155) (by kernel_rfl) rfl JJ (fun _ _ _ _ h => h))
 | 4, _, h1, hdep, ho =>
   have JJ := J86_33_any 4 (by decide) hst.world
   have hw : w = W0 := hst.world.1 (unlisted hs hd h1 (show waits .any ops86_33 15 4 = true from (by kernel_rfl)))
   obtain rfl : W0 = w := hw.symm
   have g3 : a.eval (.tmp 155) = .pointer (some ⟨c, ii - 16, none⟩) := hst.got 3 (hdep 3 (by kernel_rfl))
   have hr : (execOp a.eval (opAt ops86_33 4)).run Tryz.prog W0 = .ok (.value (U w16)) W0 := run_load184 c16 (show (opAt ops86_33 4).op = .load 184 (.tmp 155) from (by kernel_rfl)) g3
   exact op_value ho (by kernel_rfl) hr (made_val (d := 156) (by kernel_rfl) rfl JJ (fun _ _ _ _ h => h))
 | 5, _, h1, hdep, ho =>
   have JJ := J86_33_any 5 (by decide) hst.world
   have s12 : a.eval (.tmp 12) = .int .i64 (ii : Int) := (hst.rest 12 (by kernel_rfl)).trans hs12
   have hr : (execOp a.eval (opAt ops86_33 5)).run Tryz.prog w = .ok (.value (.int .i64 (ii : Int))) w := run_moved (x := .tmp 12) (by kernel_rfl) s12
   exact op_value ho (by kernel_rfl) hr (made_val (d := 157) (by kernel_rfl) rfl JJ (fun _ _ _ _ h => h))
 | 6, _, h1, hdep, ho =>
   have JJ := J86_33_any 6 (by decide) hst.world
   have g5 : a.eval (.tmp 157) = .int .i64 (ii : Int) := hst.got 5 (hdep 5 (by kernel_rfl))
   have hr : (execOp a.eval (opAt ops86_33 6)).run Tryz.prog w = .ok (.value (.int .i64 (ii - 7 : Int))) w := run_sub64 (by rw [IntKind.wrap_i64]; omega) (show (opAt ops86_33 6).op = .binOp .sub 3 (.tmp 157) (.const (.int .i64 7)) 3 from (by kernel_rfl)) g5 rfl
   exact op_value ho (by kernel_rfl) hr (made_val (d := 158) (by kernel_rfl) rfl JJ (fun _ _ _ _ h => h))
 | 7, _, h1, hdep, ho =>
   have JJ := J86_33_any 7 (by decide) hst.world
   have s11 : a.eval (.tmp 11) = .pointer (some ⟨c, 0, none⟩) := (hst.rest 11 (by kernel_rfl)).trans hs11
   have g6 : a.eval (.tmp 158) = .int .i64 (ii - 7 : Int) := hst.got 6 (hdep 6 (by kernel_rfl))
   have hr : (execOp a.eval (opAt ops86_33 7)).run Tryz.prog w = .ok (.value (.pointer (some ⟨c, ii - 7, none⟩))) w := (show 0 + (ii - 7) = ii - 7 from Nat.zero_add _) ▸ run_idx186 (b := c) (n := 0) (k := ii - 7) (by first | rfl | omega) (by first | decide | omega) (show (opAt ops86_33 7).op = .indexAddr 186 (.tmp 11) (.tmp 158) from (by kernel_rfl)) s11 g6
   exact op_value ho (by kernel_rfl) hr (made_val (d := 159) (by kernel_rfl) rfl JJ (fun _ _ _ _ h => h))
 | 8, _, h1, hdep, ho =>
   have JJ := J86_33_any 8 (by decide) hst.world
   have hw : w = W0 := hst.world.1 (unlisted hs hd h1 (show waits .any ops86_33 15 8 = true from (by kernel_rfl)))
   obtain rfl : W0 = w := hw.symm
   have g7 : a.eval (.tmp 159) = .pointer (some ⟨c, ii - 7, none⟩) := hst.got 7 (hdep 7 (by kernel_rfl))
   have hr : (execOp a.eval (opAt ops86_33 8)).run Tryz.prog W0 = .ok (.value (U w7)) W0 := run_load184 c7 (show (opAt ops86_33 8).op = .load 184 (.tmp 159) from (by kernel_rfl)) g7
   exact op_value ho (by kernel_rfl) hr (made_val (d := 160) (by kernel_rfl) rfl JJ (fun _ _ _ _ h => h))
 | 9, _, h1, hdep, ho =>
   have JJ := J86_33_any 9 (by decide) hst.world
   have g4 : a.eval (.tmp 156) = U w16 := hst.got 4 (hdep 4 (by kernel_rfl))
   have g8 : a.eval (.tmp 160) = U w7 := hst.got 8 (hdep 8 (by kernel_rfl))
   have hr : (execOp a.eval (opAt ops86_33 9)).run Tryz.prog w = .ok (.value (U (w16 + w7))) w := run_add32 (show (opAt ops86_33 9).op = .binOp .add 184 (.tmp 156) (.tmp 160) 184 from (by kernel_rfl)) g4 g8
   exact op_value ho (by kernel_rfl) hr (made_val (d := 161) (by kernel_rfl) rfl JJ (fun _ _ _ _ h => h))
 | 10, _, h1, hdep, ho =>
   have JJ := J86_33_any 10 (by decide) hst.world
   have s14 : a.eval (.tmp 14) = U pp := (hst.rest 14 (by kernel_rfl)).trans hs14
   have hr : (execOp a.eval (opAt ops86_33 10)).run Tryz.prog w = .ok (.value (U pp)) w := run_moved (x := .tmp 14) (by kernel_rfl) s14
   exact op_value ho (by kernel_rfl) hr (made_val (d := 162) (by kernel_rfl) rfl JJ (fun _ _ _ _ h => h))
 | 11, _, h1, hdep, ho =>
   have JJ := J86_33_any 11 (by decide) hst.world
   have g9 : a.eval (.tmp 161) = U (w16 + w7) := hst.got 9 (hdep 9 (by kernel_rfl))
   have g10 : a.eval (.tmp 162) = U pp := hst.got 10 (hdep 10 (by kernel_rfl))
   have hr : (execOp a.eval (opAt ops86_33 11)).run Tryz.prog w = .ok (.value (U ((w16 + w7) + pp))) w := run_add32 (show (opAt ops86_33 11).op = .binOp .add 184 (.tmp 161) (.tmp 162) 184 from (by kernel_rfl)) g9 g10
   exact op_value ho (by kernel_rfl) hr (made_val (d := 163) (by kernel_rfl) rfl JJ (fun _ _ _ _ h => h))
 | 12, _, h1, hdep, ho =>
   have JJ := J86_33_any 12 (by decide) hst.world
   have s15 : a.eval (.tmp 15) = U qq := (hst.rest 15 (by kernel_rfl)).trans hs15
   have hr : (execOp a.eval (opAt ops86_33 12)).run Tryz.prog w = .ok (.value (U qq)) w := run_moved (x := .tmp 15) (by kernel_rfl) s15
   exact op_value ho (by kernel_rfl) hr (made_val (d := 164) (by kernel_rfl) rfl JJ (fun _ _ _ _ h => h))
 | 13, _, h1, hdep, ho =>
   have JJ := J86_33_any 13 (by decide) hst.world
   have g11 : a.eval (.tmp 163) = U ((w16 + w7) + pp) := hst.got 11 (hdep 11 (by kernel_rfl))
   have g12 : a.eval (.tmp 164) = U qq := hst.got 12 (hdep 12 (by kernel_rfl))
   have hr : (execOp a.eval (opAt ops86_33 13)).run Tryz.prog w = .ok (.value (U (((w16 + w7) + pp) + qq))) w := run_add32 (show (opAt ops86_33 13).op = .binOp .add 184 (.tmp 163) (.tmp 164) 184 from (by kernel_rfl)) g11 g12
   exact op_value ho (by kernel_rfl) hr (made_val (d := 165) (by kernel_rfl) rfl JJ (fun _ _ _ _ h => h))
 | 14, _, h1, hdep, ho =>
   have JJ := J86_33_any 14 (by decide) hst.world
   have s11 : a.eval (.tmp 11) = .pointer (some ⟨c, 0, none⟩) := (hst.rest 11 (by kernel_rfl)).trans hs11
   have g0 : a.eval (.tmp 152) = .int .i64 (ii : Int) := hst.got 0 (hdep 0 (by kernel_rfl))
   have hr : (execOp a.eval (opAt ops86_33 14)).run Tryz.prog w = .ok (.value (.pointer (some ⟨c, ii, none⟩))) w := (show 0 + (ii) = ii from Nat.zero_add _) ▸ run_idx186 (b := c) (n := 0) (k := ii) (by first | rfl | omega) (by first | decide | omega) (show (opAt ops86_33 14).op = .indexAddr 186 (.tmp 11) (.tmp 152) from (by kernel_rfl)) s11 g0
   exact op_value ho (by kernel_rfl) hr (made_val (d := 166) (by kernel_rfl) rfl JJ (fun _ _ _ _ h => h))
 | 15, _, h1, hdep, ho =>
   have hw : w = W0 := hst.world.1 (unl h1)
   obtain rfl : W0 = w := hw.symm
   have g14 : a.eval (.tmp 166) = .pointer (some ⟨c, ii, none⟩) := hst.got 14 (hdep 14 (by kernel_rfl))
   have g13 : a.eval (.tmp 165) = U (((w16 + w7) + pp) + qq) := hst.got 13 (hdep 13 (by kernel_rfl))
   have hr : (execOp a.eval (opAt ops86_33 15)).run Tryz.prog (W0) = .ok .skip (W0.setCell ⟨c, ii, none⟩ (U (((w16 + w7) + pp) + qq))) := run_store184 cw fw (show (opAt ops86_33 15).op = .store 184 (.tmp 166) (.tmp 165) from (by kernel_rfl)) g14 g13
   refine op_skip ho (by kernel_rfl) hr (made_skip (by kernel_rfl) trivial ⟨fun h => by (rw [set_same (by rw [hs]; decide)] at h; cases h), fun _ => rfl⟩ (fun j _ _ u h => ?_))
   match j, h with
   | 0, h => exact (show _ = _ from h)
   | 1, h => exact (show _ = _ from h)
   | 2, h => exact (show _ = _ from h)
   | 3, h => exact (show _ = _ from h)
   | 4, h => exact (show _ = _ from h)
   | 5, h => exact (show _ = _ from h)
   | 6, h => exact (show _ = _ from h)
   | 7, h => exact (show _ = _ from h)
   | 8, h => exact (show _ = _ from h)
   | 9, h => exact (show _ = _ from h)
   | 10, h => exact (show _ = _ from h)
   | 11, h => exact (show _ = _ from h)
   | 12, h => exact (show _ = _ from h)
   | 13, h => exact (show _ = _ from h)
   | 14, h => exact (show _ = _ from h)
   | 15, h => exact (show True from h)
   | _ + 16, _ => exact trivial
 | k + 16, hi, _, _, _ => exact absurd hi (by omega)
noncomputable def ops86_34 : Array Oper := (Tryz.f86.body.bind (inCode 34)).getD #[]
def sl86_34 : Nat → Nat
 | 0 => 167
 | 1 => 168
 | 2 => 169
 | 3 => 170
 | 4 => 171
 | 5 => 172
 | 6 => 173
 | 7 => 174
 | 8 => 175
 | 9 => 176
 | 10 => 177
 | 11 => 178
 | 12 => 179
 | 13 => 180
 | 14 => 181
 | 15 => 182
 | 16 => 16
 | 17 => 17
 | 18 => 18
 | 19 => 19
 | 20 => 20
 | 21 => 21
 | 22 => 22
 | 23 => 23
 | _ => 0
def R86_34 (sb : Nat) (y0 : BitVec 32) (y1 : BitVec 32) (y2 : BitVec 32) (y3 : BitVec 32) (y4 : BitVec 32) (y5 : BitVec 32) (y6 : BitVec 32) (y7 : BitVec 32) : Nat → Value → World → Prop
 | 0, v, _ => v = .pointer (some ⟨sb, 0, none⟩)
 | 1, v, _ => v = U y0
 | 2, v, _ => v = .pointer (some ⟨sb, 1, none⟩)
 | 3, v, _ => v = U y1
 | 4, v, _ => v = .pointer (some ⟨sb, 2, none⟩)
 | 5, v, _ => v = U y2
 | 6, v, _ => v = .pointer (some ⟨sb, 3, none⟩)
 | 7, v, _ => v = U y3
 | 8, v, _ => v = .pointer (some ⟨sb, 4, none⟩)
 | 9, v, _ => v = U y4
 | 10, v, _ => v = .pointer (some ⟨sb, 5, none⟩)
 | 11, v, _ => v = U y5
 | 12, v, _ => v = .pointer (some ⟨sb, 6, none⟩)
 | 13, v, _ => v = U y6
 | 14, v, _ => v = .pointer (some ⟨sb, 7, none⟩)
 | 15, v, _ => v = U y7
 | 16, v, _ => v = U y0
 | 17, v, _ => v = U y1
 | 18, v, _ => v = U y2
 | 19, v, _ => v = U y3
 | 20, v, _ => v = U y4
 | 21, v, _ => v = U y5
 | 22, v, _ => v = U y6
 | 23, v, _ => v = U y7
 | _, _, _ => True
def J86_34 (W0 : World) (sb : Nat) (y0 : BitVec 32) (y1 : BitVec 32) (y2 : BitVec 32) (y3 : BitVec 32) (y4 : BitVec 32) (y5 : BitVec 32) (y6 : BitVec 32) (y7 : BitVec 32) (L : Array Bool) (w : World) : Prop := w = W0
set_option maxHeartbeats 3200000 in
theorem reg86_34 {ops : Array Oper} (ho : ops = ops86_34) {Q : Exit → Act → World → Prop} {a0 : Act} {w0 W0 : World} (hW : w0.drew = W0) {sb : Nat} {y0 : BitVec 32} {y1 : BitVec 32} {y2 : BitVec 32} {y3 : BitVec 32} {y4 : BitVec 32} {y5 : BitVec 32} {y6 : BitVec 32} {y7 : BitVec 32} (c0 : W0.cell? ⟨sb, 0, none⟩ = some (U y0)) (c1 : W0.cell? ⟨sb, 1, none⟩ = some (U y1)) (c2 : W0.cell? ⟨sb, 2, none⟩ = some (U y2)) (c3 : W0.cell? ⟨sb, 3, none⟩ = some (U y3)) (c4 : W0.cell? ⟨sb, 4, none⟩ = some (U y4)) (c5 : W0.cell? ⟨sb, 5, none⟩ = some (U y5)) (c6 : W0.cell? ⟨sb, 6, none⟩ = some (U y6)) (c7 : W0.cell? ⟨sb, 7, none⟩ = some (U y7)) (hs4 : a0.eval (.tmp 4) = .pointer (some ⟨sb, 0, none⟩)) (hsz : a0.tmps.size = 287)
  (HK : ∀ a, a.defers = a0.defers → a.tmps.size = 287 → (∀ s, freeB ops86_34 s = true → a.eval (.tmp s) = a0.eval (.tmp s)) → (∀ i, i < 24 → R86_34 sb y0 y1 y2 y3 y4 y5 y6 y7 i (a.eval (.tmp (sl86_34 i))) (W0)) → Q .normal a (W0)) : (Code.region 34 ops true).wp Tryz.prog Q a0 w0 := by
 subst ho
 refine region_made (n := 24) (sl := sl86_34) (J := J86_34 W0 sb y0 y1 y2 y3 y4 y5 y6 y7) (R := R86_34 sb y0 y1 y2 y3 y4 y5 y6 y7) (by kernel_rfl) (by kernel_rfl) (by kernel_rfl) (by rw [hsz]; kernel_rfl) ?_ (show _ = _ from hW) (fun L a w hall hf => ?_)
 rotate_left
 ·obtain rfl : w = W0 := hf.world
  exact HK a hf.defers (hf.size.trans hsz) hf.rest (fun i hi => hf.got i (hall i hi))
 intro i hi L a w hs h1 hdep hd hst ho
 clear HK
 match i, hi, h1, hdep, ho with
 | 0, _, h1, hdep, ho =>
   have hw : w = W0 := hst.world
   obtain rfl : W0 = w := hw.symm
   have s4 : a.eval (.tmp 4) = .pointer (some ⟨sb, 0, none⟩) := (hst.rest 4 (by kernel_rfl)).trans hs4
   have hr : (execOp a.eval (opAt ops86_34 0)).run Tryz.prog W0 = .ok (.value (.pointer (some ⟨sb, 0, none⟩))) W0 := (show 0 + (0) = 0 from Nat.zero_add _) ▸ run_idx185 (b := sb) (n := 0) (k := 0) (by first | rfl | omega) (by first | decide | omega) (show (opAt ops86_34 0).op = .indexAddr 185 (.tmp 4) (.const (.int .i64 0)) from (by kernel_rfl)) s4 rfl
   exact op_value ho (by kernel_rfl) hr (made_val (d := 167) (by kernel_rfl) rfl rfl (fun _ _ _ _ h => h))
 | 1, _, h1, hdep, ho =>
   have hw : w = W0 := hst.world
   obtain rfl : W0 = w := hw.symm
   have g0 : a.eval (.tmp 167) = .pointer (some ⟨sb, 0, none⟩) := hst.got 0 (hdep 0 (by kernel_rfl))
   have hr : (execOp a.eval (opAt ops86_34 1)).run Tryz.prog W0 = .ok (.value (U y0)) W0 := run_load184 c0 (show (opAt ops86_34 1).op = .load 184 (.tmp 167) from (by kernel_rfl)) g0
   exact op_value ho (by kernel_rfl) hr (made_val (d := 168) (by kernel_rfl) rfl rfl (fun _ _ _ _ h => h))
 | 2, _, h1, hdep, ho =>
   have hw : w = W0 := hst.world
   obtain rfl : W0 = w := hw.symm
   have s4 : a.eval (.tmp 4) = .pointer (some ⟨sb, 0, none⟩) := (hst.rest 4 (by kernel_rfl)).trans hs4
   have hr : (execOp a.eval (opAt ops86_34 2)).run Tryz.prog W0 = .ok (.value (.pointer (some ⟨sb, 1, none⟩))) W0 := (show 0 + (1) = 1 from Nat.zero_add _) ▸ run_idx185 (b := sb) (n := 0) (k := 1) (by first | rfl | omega) (by first | decide | omega) (show (opAt ops86_34 2).op = .indexAddr 185 (.tmp 4) (.const (.int .i64 1)) from (by kernel_rfl)) s4 rfl
   exact op_value ho (by kernel_rfl) hr (made_val (d := 169) (by kernel_rfl) rfl rfl (fun _ _ _ _ h => h))
 | 3, _, h1, hdep, ho =>
   have hw : w = W0 := hst.world
   obtain rfl : W0 = w := hw.symm
   have g2 : a.eval (.tmp 169) = .pointer (some ⟨sb, 1, none⟩) := hst.got 2 (hdep 2 (by kernel_rfl))
   have hr : (execOp a.eval (opAt ops86_34 3)).run Tryz.prog W0 = .ok (.value (U y1)) W0 := run_load184 c1 (show (opAt ops86_34 3).op = .load 184 (.tmp 169) from (by kernel_rfl)) g2
   exact op_value ho (by kernel_rfl) hr (made_val (d := 170) (by kernel_rfl) rfl rfl (fun _ _ _ _ h => h))
 | 4, _, h1, hdep, ho =>
   have hw : w = W0 := hst.world
   obtain rfl : W0 = w := hw.symm
   have s4 : a.eval (.tmp 4) = .pointer (some ⟨sb, 0, none⟩) := (hst.rest 4 (by kernel_rfl)).trans hs4
   have hr : (execOp a.eval (opAt ops86_34 4)).run Tryz.prog W0 = .ok (.value (.pointer (some ⟨sb, 2, none⟩))) W0 := (show 0 + (2) = 2 from Nat.zero_add _) ▸ run_idx185 (b := sb) (n := 0) (k := 2) (by first | rfl | omega) (by first | decide | omega) (show (opAt ops86_34 4).op = .indexAddr 185 (.tmp 4) (.const (.int .i64 2)) from (by kernel_rfl)) s4 rfl
   exact op_value ho (by kernel_rfl) hr (made_val (d := 171) (by kernel_rfl) rfl rfl (fun _ _ _ _ h => h))
 | 5, _, h1, hdep, ho =>
   have hw : w = W0 := hst.world
   obtain rfl : W0 = w := hw.symm
   have g4 : a.eval (.tmp 171) = .pointer (some ⟨sb, 2, none⟩) := hst.got 4 (hdep 4 (by kernel_rfl))
   have hr : (execOp a.eval (opAt ops86_34 5)).run Tryz.prog W0 = .ok (.value (U y2)) W0 := run_load184 c2 (show (opAt ops86_34 5).op = .load 184 (.tmp 171) from (by kernel_rfl)) g4
   exact op_value ho (by kernel_rfl) hr (made_val (d := 172) (by kernel_rfl) rfl rfl (fun _ _ _ _ h => h))
 | 6, _, h1, hdep, ho =>
   have hw : w = W0 := hst.world
   obtain rfl : W0 = w := hw.symm
   have s4 : a.eval (.tmp 4) = .pointer (some ⟨sb, 0, none⟩) := (hst.rest 4 (by kernel_rfl)).trans hs4
   have hr : (execOp a.eval (opAt ops86_34 6)).run Tryz.prog W0 = .ok (.value (.pointer (some ⟨sb, 3, none⟩))) W0 := (show 0 + (3) = 3 from Nat.zero_add _) ▸ run_idx185 (b := sb) (n := 0) (k := 3) (by first | rfl | omega) (by first | decide | omega) (show (opAt ops86_34 6).op = .indexAddr 185 (.tmp 4) (.const (.int .i64 3)) from (by kernel_rfl)) s4 rfl
   exact op_value ho (by kernel_rfl) hr (made_val (d := 173) (by kernel_rfl) rfl rfl (fun _ _ _ _ h => h))
 | 7, _, h1, hdep, ho =>
   have hw : w = W0 := hst.world
   obtain rfl : W0 = w := hw.symm
   have g6 : a.eval (.tmp 173) = .pointer (some ⟨sb, 3, none⟩) := hst.got 6 (hdep 6 (by kernel_rfl))
   have hr : (execOp a.eval (opAt ops86_34 7)).run Tryz.prog W0 = .ok (.value (U y3)) W0 := run_load184 c3 (show (opAt ops86_34 7).op = .load 184 (.tmp 173) from (by kernel_rfl)) g6
   exact op_value ho (by kernel_rfl) hr (made_val (d := 174) (by kernel_rfl) rfl rfl (fun _ _ _ _ h => h))
 | 8, _, h1, hdep, ho =>
   have hw : w = W0 := hst.world
   obtain rfl : W0 = w := hw.symm
   have s4 : a.eval (.tmp 4) = .pointer (some ⟨sb, 0, none⟩) := (hst.rest 4 (by kernel_rfl)).trans hs4
   have hr : (execOp a.eval (opAt ops86_34 8)).run Tryz.prog W0 = .ok (.value (.pointer (some ⟨sb, 4, none⟩))) W0 := (show 0 + (4) = 4 from Nat.zero_add _) ▸ run_idx185 (b := sb) (n := 0) (k := 4) (by first | rfl | omega) (by first | decide | omega) (show (opAt ops86_34 8).op = .indexAddr 185 (.tmp 4) (.const (.int .i64 4)) from (by kernel_rfl)) s4 rfl
   exact op_value ho (by kernel_rfl) hr (made_val (d := 175) (by kernel_rfl) rfl rfl (fun _ _ _ _ h => h))
 | 9, _, h1, hdep, ho =>
   have hw : w = W0 := hst.world
   obtain rfl : W0 = w := hw.symm
   have g8 : a.eval (.tmp 175) = .pointer (some ⟨sb, 4, none⟩) := hst.got 8 (hdep 8 (by kernel_rfl))
   have hr : (execOp a.eval (opAt ops86_34 9)).run Tryz.prog W0 = .ok (.value (U y4)) W0 := run_load184 c4 (show (opAt ops86_34 9).op = .load 184 (.tmp 175) from (by kernel_rfl)) g8
   exact op_value ho (by kernel_rfl) hr (made_val (d := 176) (by kernel_rfl) rfl rfl (fun _ _ _ _ h => h))
 | 10, _, h1, hdep, ho =>
   have hw : w = W0 := hst.world
   obtain rfl : W0 = w := hw.symm
   have s4 : a.eval (.tmp 4) = .pointer (some ⟨sb, 0, none⟩) := (hst.rest 4 (by kernel_rfl)).trans hs4
   have hr : (execOp a.eval (opAt ops86_34 10)).run Tryz.prog W0 = .ok (.value (.pointer (some ⟨sb, 5, none⟩))) W0 := (show 0 + (5) = 5 from Nat.zero_add _) ▸ run_idx185 (b := sb) (n := 0) (k := 5) (by first | rfl | omega) (by first | decide | omega) (show (opAt ops86_34 10).op = .indexAddr 185 (.tmp 4) (.const (.int .i64 5)) from (by kernel_rfl)) s4 rfl
   exact op_value ho (by kernel_rfl) hr (made_val (d := 177) (by kernel_rfl) rfl rfl (fun _ _ _ _ h => h))
 | 11, _, h1, hdep, ho =>
   have hw : w = W0 := hst.world
   obtain rfl : W0 = w := hw.symm
   have g10 : a.eval (.tmp 177) = .pointer (some ⟨sb, 5, none⟩) := hst.got 10 (hdep 10 (by kernel_rfl))
   have hr : (execOp a.eval (opAt ops86_34 11)).run Tryz.prog W0 = .ok (.value (U y5)) W0 := run_load184 c5 (show (opAt ops86_34 11).op = .load 184 (.tmp 177) from (by kernel_rfl)) g10
   exact op_value ho (by kernel_rfl) hr (made_val (d := 178) (by kernel_rfl) rfl rfl (fun _ _ _ _ h => h))
 | 12, _, h1, hdep, ho =>
   have hw : w = W0 := hst.world
   obtain rfl : W0 = w := hw.symm
   have s4 : a.eval (.tmp 4) = .pointer (some ⟨sb, 0, none⟩) := (hst.rest 4 (by kernel_rfl)).trans hs4
   have hr : (execOp a.eval (opAt ops86_34 12)).run Tryz.prog W0 = .ok (.value (.pointer (some ⟨sb, 6, none⟩))) W0 := (show 0 + (6) = 6 from Nat.zero_add _) ▸ run_idx185 (b := sb) (n := 0) (k := 6) (by first | rfl | omega) (by first | decide | omega) (show (opAt ops86_34 12).op = .indexAddr 185 (.tmp 4) (.const (.int .i64 6)) from (by kernel_rfl)) s4 rfl
   exact op_value ho (by kernel_rfl) hr (made_val (d := 179) (by kernel_rfl) rfl rfl (fun _ _ _ _ h => h))
 | 13, _, h1, hdep, ho =>
   have hw : w = W0 := hst.world
   obtain rfl : W0 = w := hw.symm
   have g12 : a.eval (.tmp 179) = .pointer (some ⟨sb, 6, none⟩) := hst.got 12 (hdep 12 (by kernel_rfl))
   have hr : (execOp a.eval (opAt ops86_34 13)).run Tryz.prog W0 = .ok (.value (U y6)) W0 := run_load184 c6 (show (opAt ops86_34 13).op = .load 184 (.tmp 179) from (by kernel_rfl)) g12
   exact op_value ho (by kernel_rfl) hr (made_val (d := 180) (by kernel_rfl) rfl rfl (fun _ _ _ _ h => h))
 | 14, _, h1, hdep, ho =>
   have hw : w = W0 := hst.world
   obtain rfl : W0 = w := hw.symm
   have s4 : a.eval (.tmp 4) = .pointer (some ⟨sb, 0, none⟩) := (hst.rest 4 (by kernel_rfl)).trans hs4
   have hr : (execOp a.eval (opAt ops86_34 14)).run Tryz.prog W0 = .ok (.value (.pointer (some ⟨sb, 7, none⟩))) W0 := (show 0 + (7) = 7 from Nat.zero_add _) ▸ run_idx185 (b := sb) (n := 0) (k := 7) (by first | rfl | omega) (by first | decide | omega) (show (opAt ops86_34 14).op = .indexAddr 185 (.tmp 4) (.const (.int .i64 7)) from (by kernel_rfl)) s4 rfl
   exact op_value ho (by kernel_rfl) hr (made_val (d := 181) (by kernel_rfl) rfl rfl (fun _ _ _ _ h => h))
 | 15, _, h1, hdep, ho =>
   have hw : w = W0 := hst.world
   obtain rfl : W0 = w := hw.symm
   have g14 : a.eval (.tmp 181) = .pointer (some ⟨sb, 7, none⟩) := hst.got 14 (hdep 14 (by kernel_rfl))
   have hr : (execOp a.eval (opAt ops86_34 15)).run Tryz.prog W0 = .ok (.value (U y7)) W0 := run_load184 c7 (show (opAt ops86_34 15).op = .load 184 (.tmp 181) from (by kernel_rfl)) g14
   exact op_value ho (by kernel_rfl) hr (made_val (d := 182) (by kernel_rfl) rfl rfl (fun _ _ _ _ h => h))
 | 16, _, h1, hdep, ho =>
   have hw : w = W0 := hst.world
   obtain rfl : W0 = w := hw.symm
   have g1 : a.eval (.tmp 168) = U y0 := hst.got 1 (hdep 1 (by kernel_rfl))
   have hr : (execOp a.eval (opAt ops86_34 16)).run Tryz.prog W0 = .ok (.value (U y0)) W0 := run_moved_as (x := .tmp 168) (by kernel_rfl) g1
   exact op_value ho (by kernel_rfl) hr (made_val (d := 16) (by kernel_rfl) rfl rfl (fun _ _ _ _ h => h))
 | 17, _, h1, hdep, ho =>
   have hw : w = W0 := hst.world
   obtain rfl : W0 = w := hw.symm
   have g3 : a.eval (.tmp 170) = U y1 := hst.got 3 (hdep 3 (by kernel_rfl))
   have hr : (execOp a.eval (opAt ops86_34 17)).run Tryz.prog W0 = .ok (.value (U y1)) W0 := run_moved_as (x := .tmp 170) (by kernel_rfl) g3
   exact op_value ho (by kernel_rfl) hr (made_val (d := 17) (by kernel_rfl) rfl rfl (fun _ _ _ _ h => h))
 | 18, _, h1, hdep, ho =>
   have hw : w = W0 := hst.world
   obtain rfl : W0 = w := hw.symm
   have g5 : a.eval (.tmp 172) = U y2 := hst.got 5 (hdep 5 (by kernel_rfl))
   have hr : (execOp a.eval (opAt ops86_34 18)).run Tryz.prog W0 = .ok (.value (U y2)) W0 := run_moved_as (x := .tmp 172) (by kernel_rfl) g5
   exact op_value ho (by kernel_rfl) hr (made_val (d := 18) (by kernel_rfl) rfl rfl (fun _ _ _ _ h => h))
 | 19, _, h1, hdep, ho =>
   have hw : w = W0 := hst.world
   obtain rfl : W0 = w := hw.symm
   have g7 : a.eval (.tmp 174) = U y3 := hst.got 7 (hdep 7 (by kernel_rfl))
   have hr : (execOp a.eval (opAt ops86_34 19)).run Tryz.prog W0 = .ok (.value (U y3)) W0 := run_moved_as (x := .tmp 174) (by kernel_rfl) g7
   exact op_value ho (by kernel_rfl) hr (made_val (d := 19) (by kernel_rfl) rfl rfl (fun _ _ _ _ h => h))
 | 20, _, h1, hdep, ho =>
   have hw : w = W0 := hst.world
   obtain rfl : W0 = w := hw.symm
   have g9 : a.eval (.tmp 176) = U y4 := hst.got 9 (hdep 9 (by kernel_rfl))
   have hr : (execOp a.eval (opAt ops86_34 20)).run Tryz.prog W0 = .ok (.value (U y4)) W0 := run_moved_as (x := .tmp 176) (by kernel_rfl) g9
   exact op_value ho (by kernel_rfl) hr (made_val (d := 20) (by kernel_rfl) rfl rfl (fun _ _ _ _ h => h))
 | 21, _, h1, hdep, ho =>
   have hw : w = W0 := hst.world
   obtain rfl : W0 = w := hw.symm
   have g11 : a.eval (.tmp 178) = U y5 := hst.got 11 (hdep 11 (by kernel_rfl))
   have hr : (execOp a.eval (opAt ops86_34 21)).run Tryz.prog W0 = .ok (.value (U y5)) W0 := run_moved_as (x := .tmp 178) (by kernel_rfl) g11
   exact op_value ho (by kernel_rfl) hr (made_val (d := 21) (by kernel_rfl) rfl rfl (fun _ _ _ _ h => h))
 | 22, _, h1, hdep, ho =>
   have hw : w = W0 := hst.world
   obtain rfl : W0 = w := hw.symm
   have g13 : a.eval (.tmp 180) = U y6 := hst.got 13 (hdep 13 (by kernel_rfl))
   have hr : (execOp a.eval (opAt ops86_34 22)).run Tryz.prog W0 = .ok (.value (U y6)) W0 := run_moved_as (x := .tmp 180) (by kernel_rfl) g13
   exact op_value ho (by kernel_rfl) hr (made_val (d := 22) (by kernel_rfl) rfl rfl (fun _ _ _ _ h => h))
 | 23, _, h1, hdep, ho =>
   have hw : w = W0 := hst.world
   obtain rfl : W0 = w := hw.symm
   have g15 : a.eval (.tmp 182) = U y7 := hst.got 15 (hdep 15 (by kernel_rfl))
   have hr : (execOp a.eval (opAt ops86_34 23)).run Tryz.prog W0 = .ok (.value (U y7)) W0 := run_moved_as (x := .tmp 182) (by kernel_rfl) g15
   exact op_value ho (by kernel_rfl) hr (made_val (d := 23) (by kernel_rfl) rfl rfl (fun _ _ _ _ h => h))
 | k + 24, hi, _, _, _ => exact absurd hi (by omega)
noncomputable def ops86_38 : Array Oper := (Tryz.f86.body.bind (inCode 38)).getD #[]
def sl86_38 : Nat → Nat
 | 0 => 187
 | 1 => 188
 | 2 => 189
 | 3 => 190
 | 4 => 191
 | 5 => 192
 | 6 => 193
 | 7 => 194
 | 8 => 195
 | 9 => 196
 | 10 => 197
 | 11 => 198
 | 12 => 199
 | 13 => 200
 | 14 => 201
 | 15 => 202
 | 16 => 203
 | 17 => 204
 | 18 => 205
 | 19 => 206
 | 20 => 207
 | 21 => 208
 | 22 => 209
 | 23 => 210
 | 24 => 211
 | 25 => 212
 | 26 => 213
 | 27 => 25
 | _ => 0
def R86_38 (c : Nat) (kb : Nat) (ii : Nat) (ye : BitVec 32) (yf : BitVec 32) (yg : BitVec 32) (yh : BitVec 32) (kk : BitVec 32) (ww : BitVec 32) : Nat → Value → World → Prop
 | 0, v, _ => v = U yh
 | 1, v, _ => v = U ye
 | 2, v, _ => v = U (rotr ye 6)
 | 3, v, _ => v = U ye
 | 4, v, _ => v = U (rotr ye 11)
 | 5, v, _ => v = U ((rotr ye 6) ^^^ (rotr ye 11))
 | 6, v, _ => v = U ye
 | 7, v, _ => v = U (rotr ye 25)
 | 8, v, _ => v = U (((rotr ye 6) ^^^ (rotr ye 11)) ^^^ (rotr ye 25))
 | 9, v, _ => v = U (yh + (((rotr ye 6) ^^^ (rotr ye 11)) ^^^ (rotr ye 25)))
 | 10, v, _ => v = U ye
 | 11, v, _ => v = U yf
 | 12, v, _ => v = U (ye &&& yf)
 | 13, v, _ => v = U ye
 | 14, v, _ => v = U (~~~ye)
 | 15, v, _ => v = U yg
 | 16, v, _ => v = U ((~~~ye) &&& yg)
 | 17, v, _ => v = U ((ye &&& yf) ||| ((~~~ye) &&& yg))
 | 18, v, _ => v = U ((yh + (((rotr ye 6) ^^^ (rotr ye 11)) ^^^ (rotr ye 25))) + ((ye &&& yf) ||| ((~~~ye) &&& yg)))
 | 19, v, _ => v = .int .i64 (ii : Int)
 | 20, v, _ => v = .pointer (some ⟨kb, ii, none⟩)
 | 21, v, _ => v = U kk
 | 22, v, _ => v = U (((yh + (((rotr ye 6) ^^^ (rotr ye 11)) ^^^ (rotr ye 25))) + ((ye &&& yf) ||| ((~~~ye) &&& yg))) + kk)
 | 23, v, _ => v = .int .i64 (ii : Int)
 | 24, v, _ => v = .pointer (some ⟨c, ii, none⟩)
 | 25, v, _ => v = U ww
 | 26, v, _ => v = U ((((yh + (((rotr ye 6) ^^^ (rotr ye 11)) ^^^ (rotr ye 25))) + ((ye &&& yf) ||| ((~~~ye) &&& yg))) + kk) + ww)
 | 27, v, _ => v = U ((((yh + (((rotr ye 6) ^^^ (rotr ye 11)) ^^^ (rotr ye 25))) + ((ye &&& yf) ||| ((~~~ye) &&& yg))) + kk) + ww)
 | _, _, _ => True
def J86_38 (W0 : World) (c : Nat) (kb : Nat) (ii : Nat) (ye : BitVec 32) (yf : BitVec 32) (yg : BitVec 32) (yh : BitVec 32) (kk : BitVec 32) (ww : BitVec 32) (L : Array Bool) (w : World) : Prop := w = W0
set_option maxHeartbeats 3200000 in
theorem reg86_38 {ops : Array Oper} (ho : ops = ops86_38) {Q : Exit → Act → World → Prop} {a0 : Act} {w0 W0 : World} (hW : w0.drew = W0) {c : Nat} {kb : Nat} {ii : Nat} {ye : BitVec 32} {yf : BitVec 32} {yg : BitVec 32} {yh : BitVec 32} {kk : BitVec 32} {ww : BitVec 32} (hii : ii < 64) (ck : W0.cell? ⟨kb, ii, none⟩ = some (U kk)) (cw : W0.cell? ⟨c, ii, none⟩ = some (U ww)) (hs5 : a0.eval (.tmp 5) = .pointer (some ⟨kb, 0, none⟩)) (hs11 : a0.eval (.tmp 11) = .pointer (some ⟨c, 0, none⟩)) (hs24 : a0.eval (.tmp 24) = .int .i64 (ii : Int)) (hs20 : a0.eval (.tmp 20) = U ye) (hs21 : a0.eval (.tmp 21) = U yf) (hs22 : a0.eval (.tmp 22) = U yg) (hs23 : a0.eval (.tmp 23) = U yh) (hsz : a0.tmps.size = 287)
  (HK : ∀ a, a.defers = a0.defers → a.tmps.size = 287 → (∀ s, freeB ops86_38 s = true → a.eval (.tmp s) = a0.eval (.tmp s)) → (∀ i, i < 28 → R86_38 c kb ii ye yf yg yh kk ww i (a.eval (.tmp (sl86_38 i))) (W0)) → Q .normal a (W0)) : (Code.region 38 ops true).wp Tryz.prog Q a0 w0 := by
 subst ho
 refine region_made (n := 28) (sl := sl86_38) (J := J86_38 W0 c kb ii ye yf yg yh kk ww) (R := R86_38 c kb ii ye yf yg yh kk ww) (by kernel_rfl) (by kernel_rfl) (by kernel_rfl) (by rw [hsz]; kernel_rfl) ?_ (show _ = _ from hW) (fun L a w hall hf => ?_)
 rotate_left
 ·obtain rfl : w = W0 := hf.world
  exact HK a hf.defers (hf.size.trans hsz) hf.rest (fun i hi => hf.got i (hall i hi))
 intro i hi L a w hs h1 hdep hd hst ho
 clear HK
 match i, hi, h1, hdep, ho with
 | 0, _, h1, hdep, ho =>
   have hw : w = W0 := hst.world
   obtain rfl : W0 = w := hw.symm
   have s23 : a.eval (.tmp 23) = U yh := (hst.rest 23 (by kernel_rfl)).trans hs23
   have hr : (execOp a.eval (opAt ops86_38 0)).run Tryz.prog W0 = .ok (.value (U yh)) W0 := run_moved (x := .tmp 23) (by kernel_rfl) s23
   exact op_value ho (by kernel_rfl) hr (made_val (d := 187) (by kernel_rfl) rfl rfl (fun _ _ _ _ h => h))
 | 1, _, h1, hdep, ho =>
   have hw : w = W0 := hst.world
   obtain rfl : W0 = w := hw.symm
   have s20 : a.eval (.tmp 20) = U ye := (hst.rest 20 (by kernel_rfl)).trans hs20
   have hr : (execOp a.eval (opAt ops86_38 1)).run Tryz.prog W0 = .ok (.value (U ye)) W0 := run_moved (x := .tmp 20) (by kernel_rfl) s20
   exact op_value ho (by kernel_rfl) hr (made_val (d := 188) (by kernel_rfl) rfl rfl (fun _ _ _ _ h => h))
 | 2, _, h1, hdep, ho =>
   have hw : w = W0 := hst.world
   obtain rfl : W0 = w := hw.symm
   have g1 : a.eval (.tmp 188) = U ye := hst.got 1 (hdep 1 (by kernel_rfl))
   have hr : (execOp a.eval (opAt ops86_38 2)).run Tryz.prog W0 = .ok (.enter 118 #[U ye, .int .u64 6]) W0 := by
    clear hst hdep hd h1 hs ho
    have hk : ∀ f, a.eval (.func f) = .func (.func f) #[] #[] := fun _ => rfl
    have hc : ∀ v, a.eval (.const v) = v := fun _ => rfl
    generalize a.eval = ρ at g1 hk hc ⊢
    unfold execOp; rw [show (opAt ops86_38 2).op = .call { callee := .value (.func 118), args := #[.tmp 188, .const (.int .u64 6)], argTypes := #[184, 118] } from (by kernel_rfl)]; simp only [g1, hk, hc]
    go_simp
   refine op_call ho (by kernel_rfl) hr ((right_6 ye W0).mono ?_)
   rintro e w'' ⟨rfl, rfl⟩
   exact ⟨_, rfl, made_val (d := 189) (by kernel_rfl) rfl rfl (fun _ _ _ _ h => h)⟩
 | 3, _, h1, hdep, ho =>
   have hw : w = W0 := hst.world
   obtain rfl : W0 = w := hw.symm
   have s20 : a.eval (.tmp 20) = U ye := (hst.rest 20 (by kernel_rfl)).trans hs20
   have hr : (execOp a.eval (opAt ops86_38 3)).run Tryz.prog W0 = .ok (.value (U ye)) W0 := run_moved (x := .tmp 20) (by kernel_rfl) s20
   exact op_value ho (by kernel_rfl) hr (made_val (d := 190) (by kernel_rfl) rfl rfl (fun _ _ _ _ h => h))
 | 4, _, h1, hdep, ho =>
   have hw : w = W0 := hst.world
   obtain rfl : W0 = w := hw.symm
   have g3 : a.eval (.tmp 190) = U ye := hst.got 3 (hdep 3 (by kernel_rfl))
   have hr : (execOp a.eval (opAt ops86_38 4)).run Tryz.prog W0 = .ok (.enter 118 #[U ye, .int .u64 11]) W0 := by
    clear hst hdep hd h1 hs ho
    have hk : ∀ f, a.eval (.func f) = .func (.func f) #[] #[] := fun _ => rfl
    have hc : ∀ v, a.eval (.const v) = v := fun _ => rfl
    generalize a.eval = ρ at g3 hk hc ⊢
    unfold execOp; rw [show (opAt ops86_38 4).op = .call { callee := .value (.func 118), args := #[.tmp 190, .const (.int .u64 11)], argTypes := #[184, 118] } from (by kernel_rfl)]; simp only [g3, hk, hc]
    go_simp
   refine op_call ho (by kernel_rfl) hr ((right_11 ye W0).mono ?_)
   rintro e w'' ⟨rfl, rfl⟩
   exact ⟨_, rfl, made_val (d := 191) (by kernel_rfl) rfl rfl (fun _ _ _ _ h => h)⟩
 | 5, _, h1, hdep, ho =>
   have hw : w = W0 := hst.world
   obtain rfl : W0 = w := hw.symm
   have g2 : a.eval (.tmp 189) = U (rotr ye 6) := hst.got 2 (hdep 2 (by kernel_rfl))
   have g4 : a.eval (.tmp 191) = U (rotr ye 11) := hst.got 4 (hdep 4 (by kernel_rfl))
   have hr : (execOp a.eval (opAt ops86_38 5)).run Tryz.prog W0 = .ok (.value (U ((rotr ye 6) ^^^ (rotr ye 11)))) W0 := run_xor32 (show (opAt ops86_38 5).op = .binOp .xor 184 (.tmp 189) (.tmp 191) 184 from (by kernel_rfl)) g2 g4
   exact op_value ho (by kernel_rfl) hr (made_val (d := 192) (by kernel_rfl) rfl rfl (fun _ _ _ _ h => h))
 | 6, _, h1, hdep, ho =>
   have hw : w = W0 := hst.world
   obtain rfl : W0 = w := hw.symm
   have s20 : a.eval (.tmp 20) = U ye := (hst.rest 20 (by kernel_rfl)).trans hs20
   have hr : (execOp a.eval (opAt ops86_38 6)).run Tryz.prog W0 = .ok (.value (U ye)) W0 := run_moved (x := .tmp 20) (by kernel_rfl) s20
   exact op_value ho (by kernel_rfl) hr (made_val (d := 193) (by kernel_rfl) rfl rfl (fun _ _ _ _ h => h))
 | 7, _, h1, hdep, ho =>
   have hw : w = W0 := hst.world
   obtain rfl : W0 = w := hw.symm
   have g6 : a.eval (.tmp 193) = U ye := hst.got 6 (hdep 6 (by kernel_rfl))
   have hr : (execOp a.eval (opAt ops86_38 7)).run Tryz.prog W0 = .ok (.enter 118 #[U ye, .int .u64 25]) W0 := by
    clear hst hdep hd h1 hs ho
    have hk : ∀ f, a.eval (.func f) = .func (.func f) #[] #[] := fun _ => rfl
    have hc : ∀ v, a.eval (.const v) = v := fun _ => rfl
    generalize a.eval = ρ at g6 hk hc ⊢
    unfold execOp; rw [show (opAt ops86_38 7).op = .call { callee := .value (.func 118), args := #[.tmp 193, .const (.int .u64 25)], argTypes := #[184, 118] } from (by kernel_rfl)]; simp only [g6, hk, hc]
    go_simp
   refine op_call ho (by kernel_rfl) hr ((right_25 ye W0).mono ?_)
   rintro e w'' ⟨rfl, rfl⟩
   exact ⟨_, rfl, made_val (d := 194) (by kernel_rfl) rfl rfl (fun _ _ _ _ h => h)⟩
 | 8, _, h1, hdep, ho =>
   have hw : w = W0 := hst.world
   obtain rfl : W0 = w := hw.symm
   have g5 : a.eval (.tmp 192) = U ((rotr ye 6) ^^^ (rotr ye 11)) := hst.got 5 (hdep 5 (by kernel_rfl))
   have g7 : a.eval (.tmp 194) = U (rotr ye 25) := hst.got 7 (hdep 7 (by kernel_rfl))
   have hr : (execOp a.eval (opAt ops86_38 8)).run Tryz.prog W0 = .ok (.value (U (((rotr ye 6) ^^^ (rotr ye 11)) ^^^ (rotr ye 25)))) W0 := run_xor32 (show (opAt ops86_38 8).op = .binOp .xor 184 (.tmp 192) (.tmp 194) 184 from (by kernel_rfl)) g5 g7
   exact op_value ho (by kernel_rfl) hr (made_val (d := 195) (by kernel_rfl) rfl rfl (fun _ _ _ _ h => h))
 | 9, _, h1, hdep, ho =>
   have hw : w = W0 := hst.world
   obtain rfl : W0 = w := hw.symm
   have g0 : a.eval (.tmp 187) = U yh := hst.got 0 (hdep 0 (by kernel_rfl))
   have g8 : a.eval (.tmp 195) = U (((rotr ye 6) ^^^ (rotr ye 11)) ^^^ (rotr ye 25)) := hst.got 8 (hdep 8 (by kernel_rfl))
   have hr : (execOp a.eval (opAt ops86_38 9)).run Tryz.prog W0 = .ok (.value (U (yh + (((rotr ye 6) ^^^ (rotr ye 11)) ^^^ (rotr ye 25))))) W0 := run_add32 (show (opAt ops86_38 9).op = .binOp .add 184 (.tmp 187) (.tmp 195) 184 from (by kernel_rfl)) g0 g8
   exact op_value ho (by kernel_rfl) hr (made_val (d := 196) (by kernel_rfl) rfl rfl (fun _ _ _ _ h => h))
 | 10, _, h1, hdep, ho =>
   have hw : w = W0 := hst.world
   obtain rfl : W0 = w := hw.symm
   have s20 : a.eval (.tmp 20) = U ye := (hst.rest 20 (by kernel_rfl)).trans hs20
   have hr : (execOp a.eval (opAt ops86_38 10)).run Tryz.prog W0 = .ok (.value (U ye)) W0 := run_moved (x := .tmp 20) (by kernel_rfl) s20
   exact op_value ho (by kernel_rfl) hr (made_val (d := 197) (by kernel_rfl) rfl rfl (fun _ _ _ _ h => h))
 | 11, _, h1, hdep, ho =>
   have hw : w = W0 := hst.world
   obtain rfl : W0 = w := hw.symm
   have s21 : a.eval (.tmp 21) = U yf := (hst.rest 21 (by kernel_rfl)).trans hs21
   have hr : (execOp a.eval (opAt ops86_38 11)).run Tryz.prog W0 = .ok (.value (U yf)) W0 := run_moved (x := .tmp 21) (by kernel_rfl) s21
   exact op_value ho (by kernel_rfl) hr (made_val (d := 198) (by kernel_rfl) rfl rfl (fun _ _ _ _ h => h))
 | 12, _, h1, hdep, ho =>
   have hw : w = W0 := hst.world
   obtain rfl : W0 = w := hw.symm
   have g10 : a.eval (.tmp 197) = U ye := hst.got 10 (hdep 10 (by kernel_rfl))
   have g11 : a.eval (.tmp 198) = U yf := hst.got 11 (hdep 11 (by kernel_rfl))
   have hr : (execOp a.eval (opAt ops86_38 12)).run Tryz.prog W0 = .ok (.value (U (ye &&& yf))) W0 := run_and32 (show (opAt ops86_38 12).op = .binOp .and 184 (.tmp 197) (.tmp 198) 184 from (by kernel_rfl)) g10 g11
   exact op_value ho (by kernel_rfl) hr (made_val (d := 199) (by kernel_rfl) rfl rfl (fun _ _ _ _ h => h))
 | 13, _, h1, hdep, ho =>
   have hw : w = W0 := hst.world
   obtain rfl : W0 = w := hw.symm
   have s20 : a.eval (.tmp 20) = U ye := (hst.rest 20 (by kernel_rfl)).trans hs20
   have hr : (execOp a.eval (opAt ops86_38 13)).run Tryz.prog W0 = .ok (.value (U ye)) W0 := run_moved (x := .tmp 20) (by kernel_rfl) s20
   exact op_value ho (by kernel_rfl) hr (made_val (d := 200) (by kernel_rfl) rfl rfl (fun _ _ _ _ h => h))
 | 14, _, h1, hdep, ho =>
   have hw : w = W0 := hst.world
   obtain rfl : W0 = w := hw.symm
   have g13 : a.eval (.tmp 200) = U ye := hst.got 13 (hdep 13 (by kernel_rfl))
   have hr : (execOp a.eval (opAt ops86_38 14)).run Tryz.prog W0 = .ok (.value (U (~~~ye))) W0 := run_not32 (show (opAt ops86_38 14).op = .unOp .xor 184 (.tmp 200) from (by kernel_rfl)) g13
   exact op_value ho (by kernel_rfl) hr (made_val (d := 201) (by kernel_rfl) rfl rfl (fun _ _ _ _ h => h))
 | 15, _, h1, hdep, ho =>
   have hw : w = W0 := hst.world
   obtain rfl : W0 = w := hw.symm
   have s22 : a.eval (.tmp 22) = U yg := (hst.rest 22 (by kernel_rfl)).trans hs22
   have hr : (execOp a.eval (opAt ops86_38 15)).run Tryz.prog W0 = .ok (.value (U yg)) W0 := run_moved (x := .tmp 22) (by kernel_rfl) s22
   exact op_value ho (by kernel_rfl) hr (made_val (d := 202) (by kernel_rfl) rfl rfl (fun _ _ _ _ h => h))
 | 16, _, h1, hdep, ho =>
   have hw : w = W0 := hst.world
   obtain rfl : W0 = w := hw.symm
   have g14 : a.eval (.tmp 201) = U (~~~ye) := hst.got 14 (hdep 14 (by kernel_rfl))
   have g15 : a.eval (.tmp 202) = U yg := hst.got 15 (hdep 15 (by kernel_rfl))
   have hr : (execOp a.eval (opAt ops86_38 16)).run Tryz.prog W0 = .ok (.value (U ((~~~ye) &&& yg))) W0 := run_and32 (show (opAt ops86_38 16).op = .binOp .and 184 (.tmp 201) (.tmp 202) 184 from (by kernel_rfl)) g14 g15
   exact op_value ho (by kernel_rfl) hr (made_val (d := 203) (by kernel_rfl) rfl rfl (fun _ _ _ _ h => h))
 | 17, _, h1, hdep, ho =>
   have hw : w = W0 := hst.world
   obtain rfl : W0 = w := hw.symm
   have g12 : a.eval (.tmp 199) = U (ye &&& yf) := hst.got 12 (hdep 12 (by kernel_rfl))
   have g16 : a.eval (.tmp 203) = U ((~~~ye) &&& yg) := hst.got 16 (hdep 16 (by kernel_rfl))
   have hr : (execOp a.eval (opAt ops86_38 17)).run Tryz.prog W0 = .ok (.value (U ((ye &&& yf) ||| ((~~~ye) &&& yg)))) W0 := run_or32 (show (opAt ops86_38 17).op = .binOp .or 184 (.tmp 199) (.tmp 203) 184 from (by kernel_rfl)) g12 g16
   exact op_value ho (by kernel_rfl) hr (made_val (d := 204) (by kernel_rfl) rfl rfl (fun _ _ _ _ h => h))
 | 18, _, h1, hdep, ho =>
   have hw : w = W0 := hst.world
   obtain rfl : W0 = w := hw.symm
   have g9 : a.eval (.tmp 196) = U (yh + (((rotr ye 6) ^^^ (rotr ye 11)) ^^^ (rotr ye 25))) := hst.got 9 (hdep 9 (by kernel_rfl))
   have g17 : a.eval (.tmp 204) = U ((ye &&& yf) ||| ((~~~ye) &&& yg)) := hst.got 17 (hdep 17 (by kernel_rfl))
   have hr : (execOp a.eval (opAt ops86_38 18)).run Tryz.prog W0 = .ok (.value (U ((yh + (((rotr ye 6) ^^^ (rotr ye 11)) ^^^ (rotr ye 25))) + ((ye &&& yf) ||| ((~~~ye) &&& yg))))) W0 := run_add32 (show (opAt ops86_38 18).op = .binOp .add 184 (.tmp 196) (.tmp 204) 184 from (by kernel_rfl)) g9 g17
   exact op_value ho (by kernel_rfl) hr (made_val (d := 205) (by kernel_rfl) rfl rfl (fun _ _ _ _ h => h))
 | 19, _, h1, hdep, ho =>
   have hw : w = W0 := hst.world
   obtain rfl : W0 = w := hw.symm
   have s24 : a.eval (.tmp 24) = .int .i64 (ii : Int) := (hst.rest 24 (by kernel_rfl)).trans hs24
   have hr : (execOp a.eval (opAt ops86_38 19)).run Tryz.prog W0 = .ok (.value (.int .i64 (ii : Int))) W0 := run_moved (x := .tmp 24) (by kernel_rfl) s24
   exact op_value ho (by kernel_rfl) hr (made_val (d := 206) (by kernel_rfl) rfl rfl (fun _ _ _ _ h => h))
 | 20, _, h1, hdep, ho =>
   have hw : w = W0 := hst.world
   obtain rfl : W0 = w := hw.symm
   have s5 : a.eval (.tmp 5) = .pointer (some ⟨kb, 0, none⟩) := (hst.rest 5 (by kernel_rfl)).trans hs5
   have g19 : a.eval (.tmp 206) = .int .i64 (ii : Int) := hst.got 19 (hdep 19 (by kernel_rfl))
   have hr : (execOp a.eval (opAt ops86_38 20)).run Tryz.prog W0 = .ok (.value (.pointer (some ⟨kb, ii, none⟩))) W0 := (show 0 + (ii) = ii from Nat.zero_add _) ▸ run_idx186 (b := kb) (n := 0) (k := ii) (by first | rfl | omega) (by first | decide | omega) (show (opAt ops86_38 20).op = .indexAddr 186 (.tmp 5) (.tmp 206) from (by kernel_rfl)) s5 g19
   exact op_value ho (by kernel_rfl) hr (made_val (d := 207) (by kernel_rfl) rfl rfl (fun _ _ _ _ h => h))
 | 21, _, h1, hdep, ho =>
   have hw : w = W0 := hst.world
   obtain rfl : W0 = w := hw.symm
   have g20 : a.eval (.tmp 207) = .pointer (some ⟨kb, ii, none⟩) := hst.got 20 (hdep 20 (by kernel_rfl))
   have hr : (execOp a.eval (opAt ops86_38 21)).run Tryz.prog W0 = .ok (.value (U kk)) W0 := run_load184 ck (show (opAt ops86_38 21).op = .load 184 (.tmp 207) from (by kernel_rfl)) g20
   exact op_value ho (by kernel_rfl) hr (made_val (d := 208) (by kernel_rfl) rfl rfl (fun _ _ _ _ h => h))
 | 22, _, h1, hdep, ho =>
   have hw : w = W0 := hst.world
   obtain rfl : W0 = w := hw.symm
   have g18 : a.eval (.tmp 205) = U ((yh + (((rotr ye 6) ^^^ (rotr ye 11)) ^^^ (rotr ye 25))) + ((ye &&& yf) ||| ((~~~ye) &&& yg))) := hst.got 18 (hdep 18 (by kernel_rfl))
   have g21 : a.eval (.tmp 208) = U kk := hst.got 21 (hdep 21 (by kernel_rfl))
   have hr : (execOp a.eval (opAt ops86_38 22)).run Tryz.prog W0 = .ok (.value (U (((yh + (((rotr ye 6) ^^^ (rotr ye 11)) ^^^ (rotr ye 25))) + ((ye &&& yf) ||| ((~~~ye) &&& yg))) + kk))) W0 := run_add32 (show (opAt ops86_38 22).op = .binOp .add 184 (.tmp 205) (.tmp 208) 184 from (by kernel_rfl)) g18 g21
   exact op_value ho (by kernel_rfl) hr (made_val (d := 209) (by kernel_rfl) rfl rfl (fun _ _ _ _ h => h))
 | 23, _, h1, hdep, ho =>
   have hw : w = W0 := hst.world
   obtain rfl : W0 = w := hw.symm
   have s24 : a.eval (.tmp 24) = .int .i64 (ii : Int) := (hst.rest 24 (by kernel_rfl)).trans hs24
   have hr : (execOp a.eval (opAt ops86_38 23)).run Tryz.prog W0 = .ok (.value (.int .i64 (ii : Int))) W0 := run_moved (x := .tmp 24) (by kernel_rfl) s24
   exact op_value ho (by kernel_rfl) hr (made_val (d := 210) (by kernel_rfl) rfl rfl (fun _ _ _ _ h => h))
 | 24, _, h1, hdep, ho =>
   have hw : w = W0 := hst.world
   obtain rfl : W0 = w := hw.symm
   have s11 : a.eval (.tmp 11) = .pointer (some ⟨c, 0, none⟩) := (hst.rest 11 (by kernel_rfl)).trans hs11
   have g23 : a.eval (.tmp 210) = .int .i64 (ii : Int) := hst.got 23 (hdep 23 (by kernel_rfl))
   have hr : (execOp a.eval (opAt ops86_38 24)).run Tryz.prog W0 = .ok (.value (.pointer (some ⟨c, ii, none⟩))) W0 := (show 0 + (ii) = ii from Nat.zero_add _) ▸ run_idx186 (b := c) (n := 0) (k := ii) (by first | rfl | omega) (by first | decide | omega) (show (opAt ops86_38 24).op = .indexAddr 186 (.tmp 11) (.tmp 210) from (by kernel_rfl)) s11 g23
   exact op_value ho (by kernel_rfl) hr (made_val (d := 211) (by kernel_rfl) rfl rfl (fun _ _ _ _ h => h))
 | 25, _, h1, hdep, ho =>
   have hw : w = W0 := hst.world
   obtain rfl : W0 = w := hw.symm
   have g24 : a.eval (.tmp 211) = .pointer (some ⟨c, ii, none⟩) := hst.got 24 (hdep 24 (by kernel_rfl))
   have hr : (execOp a.eval (opAt ops86_38 25)).run Tryz.prog W0 = .ok (.value (U ww)) W0 := run_load184 cw (show (opAt ops86_38 25).op = .load 184 (.tmp 211) from (by kernel_rfl)) g24
   exact op_value ho (by kernel_rfl) hr (made_val (d := 212) (by kernel_rfl) rfl rfl (fun _ _ _ _ h => h))
 | 26, _, h1, hdep, ho =>
   have hw : w = W0 := hst.world
   obtain rfl : W0 = w := hw.symm
   have g22 : a.eval (.tmp 209) = U (((yh + (((rotr ye 6) ^^^ (rotr ye 11)) ^^^ (rotr ye 25))) + ((ye &&& yf) ||| ((~~~ye) &&& yg))) + kk) := hst.got 22 (hdep 22 (by kernel_rfl))
   have g25 : a.eval (.tmp 212) = U ww := hst.got 25 (hdep 25 (by kernel_rfl))
   have hr : (execOp a.eval (opAt ops86_38 26)).run Tryz.prog W0 = .ok (.value (U ((((yh + (((rotr ye 6) ^^^ (rotr ye 11)) ^^^ (rotr ye 25))) + ((ye &&& yf) ||| ((~~~ye) &&& yg))) + kk) + ww))) W0 := run_add32 (show (opAt ops86_38 26).op = .binOp .add 184 (.tmp 209) (.tmp 212) 184 from (by kernel_rfl)) g22 g25
   exact op_value ho (by kernel_rfl) hr (made_val (d := 213) (by kernel_rfl) rfl rfl (fun _ _ _ _ h => h))
 | 27, _, h1, hdep, ho =>
   have hw : w = W0 := hst.world
   obtain rfl : W0 = w := hw.symm
   have g26 : a.eval (.tmp 213) = U ((((yh + (((rotr ye 6) ^^^ (rotr ye 11)) ^^^ (rotr ye 25))) + ((ye &&& yf) ||| ((~~~ye) &&& yg))) + kk) + ww) := hst.got 26 (hdep 26 (by kernel_rfl))
   have hr : (execOp a.eval (opAt ops86_38 27)).run Tryz.prog W0 = .ok (.value (U ((((yh + (((rotr ye 6) ^^^ (rotr ye 11)) ^^^ (rotr ye 25))) + ((ye &&& yf) ||| ((~~~ye) &&& yg))) + kk) + ww))) W0 := run_moved_as (x := .tmp 213) (by kernel_rfl) g26
   exact op_value ho (by kernel_rfl) hr (made_val (d := 25) (by kernel_rfl) rfl rfl (fun _ _ _ _ h => h))
 | k + 28, hi, _, _, _ => exact absurd hi (by omega)
noncomputable def ops86_39 : Array Oper := (Tryz.f86.body.bind (inCode 39)).getD #[]
def sl86_39 : Nat → Nat
 | 0 => 214
 | 1 => 215
 | 2 => 216
 | 3 => 217
 | 4 => 218
 | 5 => 219
 | 6 => 220
 | 7 => 221
 | 8 => 222
 | 9 => 223
 | 10 => 224
 | 11 => 225
 | 12 => 226
 | 13 => 227
 | 14 => 228
 | 15 => 229
 | 16 => 230
 | 17 => 231
 | 18 => 232
 | 19 => 233
 | 20 => 26
 | _ => 0
def R86_39 (ya : BitVec 32) (yb : BitVec 32) (yc : BitVec 32) : Nat → Value → World → Prop
 | 0, v, _ => v = U ya
 | 1, v, _ => v = U (rotr ya 2)
 | 2, v, _ => v = U ya
 | 3, v, _ => v = U (rotr ya 13)
 | 4, v, _ => v = U ((rotr ya 2) ^^^ (rotr ya 13))
 | 5, v, _ => v = U ya
 | 6, v, _ => v = U (rotr ya 22)
 | 7, v, _ => v = U (((rotr ya 2) ^^^ (rotr ya 13)) ^^^ (rotr ya 22))
 | 8, v, _ => v = U ya
 | 9, v, _ => v = U yb
 | 10, v, _ => v = U (ya &&& yb)
 | 11, v, _ => v = U ya
 | 12, v, _ => v = U yc
 | 13, v, _ => v = U (ya &&& yc)
 | 14, v, _ => v = U ((ya &&& yb) ||| (ya &&& yc))
 | 15, v, _ => v = U yb
 | 16, v, _ => v = U yc
 | 17, v, _ => v = U (yb &&& yc)
 | 18, v, _ => v = U (((ya &&& yb) ||| (ya &&& yc)) ||| (yb &&& yc))
 | 19, v, _ => v = U ((((rotr ya 2) ^^^ (rotr ya 13)) ^^^ (rotr ya 22)) + (((ya &&& yb) ||| (ya &&& yc)) ||| (yb &&& yc)))
 | 20, v, _ => v = U ((((rotr ya 2) ^^^ (rotr ya 13)) ^^^ (rotr ya 22)) + (((ya &&& yb) ||| (ya &&& yc)) ||| (yb &&& yc)))
 | _, _, _ => True
def J86_39 (W0 : World) (ya : BitVec 32) (yb : BitVec 32) (yc : BitVec 32) (L : Array Bool) (w : World) : Prop := w = W0
set_option maxHeartbeats 3200000 in
theorem reg86_39 {ops : Array Oper} (ho : ops = ops86_39) {Q : Exit → Act → World → Prop} {a0 : Act} {w0 W0 : World} (hW : w0 = W0) {ya : BitVec 32} {yb : BitVec 32} {yc : BitVec 32}  (hs16 : a0.eval (.tmp 16) = U ya) (hs17 : a0.eval (.tmp 17) = U yb) (hs18 : a0.eval (.tmp 18) = U yc) (hsz : a0.tmps.size = 287)
  (HK : ∀ a, a.defers = a0.defers → a.tmps.size = 287 → (∀ s, freeB ops86_39 s = true → a.eval (.tmp s) = a0.eval (.tmp s)) → (∀ i, i < 21 → R86_39 ya yb yc i (a.eval (.tmp (sl86_39 i))) (W0)) → Q .normal a (W0)) : (Code.region 39 ops false).wp Tryz.prog Q a0 w0 := by
 subst ho
 refine region_made_seq (n := 21) (sl := sl86_39) (J := J86_39 W0 ya yb yc) (R := R86_39 ya yb yc) (by kernel_rfl) (by kernel_rfl) (by kernel_rfl) (by rw [hsz]; kernel_rfl) ?_ (show _ = _ from hW) (fun L a w hall hf => ?_)
 rotate_left
 ·obtain rfl : w = W0 := hf.world
  exact HK a hf.defers (hf.size.trans hsz) hf.rest (fun i hi => hf.got i (hall i hi))
 intro i hi L a w hs h1 hdep hd hst ho
 clear HK
 match i, hi, h1, hdep, ho with
 | 0, _, h1, hdep, ho =>
   have hw : w = W0 := hst.world
   obtain rfl : W0 = w := hw.symm
   have s16 : a.eval (.tmp 16) = U ya := (hst.rest 16 (by kernel_rfl)).trans hs16
   have hr : (execOp a.eval (opAt ops86_39 0)).run Tryz.prog W0 = .ok (.value (U ya)) W0 := run_moved (x := .tmp 16) (by kernel_rfl) s16
   exact op_value ho (by kernel_rfl) hr (made_val (d := 214) (by kernel_rfl) rfl rfl (fun _ _ _ _ h => h))
 | 1, _, h1, hdep, ho =>
   have hw : w = W0 := hst.world
   obtain rfl : W0 = w := hw.symm
   have g0 : a.eval (.tmp 214) = U ya := hst.got 0 (hdep 0 (by kernel_rfl))
   have hr : (execOp a.eval (opAt ops86_39 1)).run Tryz.prog W0 = .ok (.enter 118 #[U ya, .int .u64 2]) W0 := by
    clear hst hdep hd h1 hs ho
    have hk : ∀ f, a.eval (.func f) = .func (.func f) #[] #[] := fun _ => rfl
    have hc : ∀ v, a.eval (.const v) = v := fun _ => rfl
    generalize a.eval = ρ at g0 hk hc ⊢
    unfold execOp; rw [show (opAt ops86_39 1).op = .call { callee := .value (.func 118), args := #[.tmp 214, .const (.int .u64 2)], argTypes := #[184, 118] } from (by kernel_rfl)]; simp only [g0, hk, hc]
    go_simp
   refine op_call ho (by kernel_rfl) hr ((right_2 ya W0).mono ?_)
   rintro e w'' ⟨rfl, rfl⟩
   exact ⟨_, rfl, made_val (d := 215) (by kernel_rfl) rfl rfl (fun _ _ _ _ h => h)⟩
 | 2, _, h1, hdep, ho =>
   have hw : w = W0 := hst.world
   obtain rfl : W0 = w := hw.symm
   have s16 : a.eval (.tmp 16) = U ya := (hst.rest 16 (by kernel_rfl)).trans hs16
   have hr : (execOp a.eval (opAt ops86_39 2)).run Tryz.prog W0 = .ok (.value (U ya)) W0 := run_moved (x := .tmp 16) (by kernel_rfl) s16
   exact op_value ho (by kernel_rfl) hr (made_val (d := 216) (by kernel_rfl) rfl rfl (fun _ _ _ _ h => h))
 | 3, _, h1, hdep, ho =>
   have hw : w = W0 := hst.world
   obtain rfl : W0 = w := hw.symm
   have g2 : a.eval (.tmp 216) = U ya := hst.got 2 (hdep 2 (by kernel_rfl))
   have hr : (execOp a.eval (opAt ops86_39 3)).run Tryz.prog W0 = .ok (.enter 118 #[U ya, .int .u64 13]) W0 := by
    clear hst hdep hd h1 hs ho
    have hk : ∀ f, a.eval (.func f) = .func (.func f) #[] #[] := fun _ => rfl
    have hc : ∀ v, a.eval (.const v) = v := fun _ => rfl
    generalize a.eval = ρ at g2 hk hc ⊢
    unfold execOp; rw [show (opAt ops86_39 3).op = .call { callee := .value (.func 118), args := #[.tmp 216, .const (.int .u64 13)], argTypes := #[184, 118] } from (by kernel_rfl)]; simp only [g2, hk, hc]
    go_simp
   refine op_call ho (by kernel_rfl) hr ((right_13 ya W0).mono ?_)
   rintro e w'' ⟨rfl, rfl⟩
   exact ⟨_, rfl, made_val (d := 217) (by kernel_rfl) rfl rfl (fun _ _ _ _ h => h)⟩
 | 4, _, h1, hdep, ho =>
   have hw : w = W0 := hst.world
   obtain rfl : W0 = w := hw.symm
   have g1 : a.eval (.tmp 215) = U (rotr ya 2) := hst.got 1 (hdep 1 (by kernel_rfl))
   have g3 : a.eval (.tmp 217) = U (rotr ya 13) := hst.got 3 (hdep 3 (by kernel_rfl))
   have hr : (execOp a.eval (opAt ops86_39 4)).run Tryz.prog W0 = .ok (.value (U ((rotr ya 2) ^^^ (rotr ya 13)))) W0 := run_xor32 (show (opAt ops86_39 4).op = .binOp .xor 184 (.tmp 215) (.tmp 217) 184 from (by kernel_rfl)) g1 g3
   exact op_value ho (by kernel_rfl) hr (made_val (d := 218) (by kernel_rfl) rfl rfl (fun _ _ _ _ h => h))
 | 5, _, h1, hdep, ho =>
   have hw : w = W0 := hst.world
   obtain rfl : W0 = w := hw.symm
   have s16 : a.eval (.tmp 16) = U ya := (hst.rest 16 (by kernel_rfl)).trans hs16
   have hr : (execOp a.eval (opAt ops86_39 5)).run Tryz.prog W0 = .ok (.value (U ya)) W0 := run_moved (x := .tmp 16) (by kernel_rfl) s16
   exact op_value ho (by kernel_rfl) hr (made_val (d := 219) (by kernel_rfl) rfl rfl (fun _ _ _ _ h => h))
 | 6, _, h1, hdep, ho =>
   have hw : w = W0 := hst.world
   obtain rfl : W0 = w := hw.symm
   have g5 : a.eval (.tmp 219) = U ya := hst.got 5 (hdep 5 (by kernel_rfl))
   have hr : (execOp a.eval (opAt ops86_39 6)).run Tryz.prog W0 = .ok (.enter 118 #[U ya, .int .u64 22]) W0 := by
    clear hst hdep hd h1 hs ho
    have hk : ∀ f, a.eval (.func f) = .func (.func f) #[] #[] := fun _ => rfl
    have hc : ∀ v, a.eval (.const v) = v := fun _ => rfl
    generalize a.eval = ρ at g5 hk hc ⊢
    unfold execOp; rw [show (opAt ops86_39 6).op = .call { callee := .value (.func 118), args := #[.tmp 219, .const (.int .u64 22)], argTypes := #[184, 118] } from (by kernel_rfl)]; simp only [g5, hk, hc]
    go_simp
   refine op_call ho (by kernel_rfl) hr ((right_22 ya W0).mono ?_)
   rintro e w'' ⟨rfl, rfl⟩
   exact ⟨_, rfl, made_val (d := 220) (by kernel_rfl) rfl rfl (fun _ _ _ _ h => h)⟩
 | 7, _, h1, hdep, ho =>
   have hw : w = W0 := hst.world
   obtain rfl : W0 = w := hw.symm
   have g4 : a.eval (.tmp 218) = U ((rotr ya 2) ^^^ (rotr ya 13)) := hst.got 4 (hdep 4 (by kernel_rfl))
   have g6 : a.eval (.tmp 220) = U (rotr ya 22) := hst.got 6 (hdep 6 (by kernel_rfl))
   have hr : (execOp a.eval (opAt ops86_39 7)).run Tryz.prog W0 = .ok (.value (U (((rotr ya 2) ^^^ (rotr ya 13)) ^^^ (rotr ya 22)))) W0 := run_xor32 (show (opAt ops86_39 7).op = .binOp .xor 184 (.tmp 218) (.tmp 220) 184 from (by kernel_rfl)) g4 g6
   exact op_value ho (by kernel_rfl) hr (made_val (d := 221) (by kernel_rfl) rfl rfl (fun _ _ _ _ h => h))
 | 8, _, h1, hdep, ho =>
   have hw : w = W0 := hst.world
   obtain rfl : W0 = w := hw.symm
   have s16 : a.eval (.tmp 16) = U ya := (hst.rest 16 (by kernel_rfl)).trans hs16
   have hr : (execOp a.eval (opAt ops86_39 8)).run Tryz.prog W0 = .ok (.value (U ya)) W0 := run_moved (x := .tmp 16) (by kernel_rfl) s16
   exact op_value ho (by kernel_rfl) hr (made_val (d := 222) (by kernel_rfl) rfl rfl (fun _ _ _ _ h => h))
 | 9, _, h1, hdep, ho =>
   have hw : w = W0 := hst.world
   obtain rfl : W0 = w := hw.symm
   have s17 : a.eval (.tmp 17) = U yb := (hst.rest 17 (by kernel_rfl)).trans hs17
   have hr : (execOp a.eval (opAt ops86_39 9)).run Tryz.prog W0 = .ok (.value (U yb)) W0 := run_moved (x := .tmp 17) (by kernel_rfl) s17
   exact op_value ho (by kernel_rfl) hr (made_val (d := 223) (by kernel_rfl) rfl rfl (fun _ _ _ _ h => h))
 | 10, _, h1, hdep, ho =>
   have hw : w = W0 := hst.world
   obtain rfl : W0 = w := hw.symm
   have g8 : a.eval (.tmp 222) = U ya := hst.got 8 (hdep 8 (by kernel_rfl))
   have g9 : a.eval (.tmp 223) = U yb := hst.got 9 (hdep 9 (by kernel_rfl))
   have hr : (execOp a.eval (opAt ops86_39 10)).run Tryz.prog W0 = .ok (.value (U (ya &&& yb))) W0 := run_and32 (show (opAt ops86_39 10).op = .binOp .and 184 (.tmp 222) (.tmp 223) 184 from (by kernel_rfl)) g8 g9
   exact op_value ho (by kernel_rfl) hr (made_val (d := 224) (by kernel_rfl) rfl rfl (fun _ _ _ _ h => h))
 | 11, _, h1, hdep, ho =>
   have hw : w = W0 := hst.world
   obtain rfl : W0 = w := hw.symm
   have s16 : a.eval (.tmp 16) = U ya := (hst.rest 16 (by kernel_rfl)).trans hs16
   have hr : (execOp a.eval (opAt ops86_39 11)).run Tryz.prog W0 = .ok (.value (U ya)) W0 := run_moved (x := .tmp 16) (by kernel_rfl) s16
   exact op_value ho (by kernel_rfl) hr (made_val (d := 225) (by kernel_rfl) rfl rfl (fun _ _ _ _ h => h))
 | 12, _, h1, hdep, ho =>
   have hw : w = W0 := hst.world
   obtain rfl : W0 = w := hw.symm
   have s18 : a.eval (.tmp 18) = U yc := (hst.rest 18 (by kernel_rfl)).trans hs18
   have hr : (execOp a.eval (opAt ops86_39 12)).run Tryz.prog W0 = .ok (.value (U yc)) W0 := run_moved (x := .tmp 18) (by kernel_rfl) s18
   exact op_value ho (by kernel_rfl) hr (made_val (d := 226) (by kernel_rfl) rfl rfl (fun _ _ _ _ h => h))
 | 13, _, h1, hdep, ho =>
   have hw : w = W0 := hst.world
   obtain rfl : W0 = w := hw.symm
   have g11 : a.eval (.tmp 225) = U ya := hst.got 11 (hdep 11 (by kernel_rfl))
   have g12 : a.eval (.tmp 226) = U yc := hst.got 12 (hdep 12 (by kernel_rfl))
   have hr : (execOp a.eval (opAt ops86_39 13)).run Tryz.prog W0 = .ok (.value (U (ya &&& yc))) W0 := run_and32 (show (opAt ops86_39 13).op = .binOp .and 184 (.tmp 225) (.tmp 226) 184 from (by kernel_rfl)) g11 g12
   exact op_value ho (by kernel_rfl) hr (made_val (d := 227) (by kernel_rfl) rfl rfl (fun _ _ _ _ h => h))
 | 14, _, h1, hdep, ho =>
   have hw : w = W0 := hst.world
   obtain rfl : W0 = w := hw.symm
   have g10 : a.eval (.tmp 224) = U (ya &&& yb) := hst.got 10 (hdep 10 (by kernel_rfl))
   have g13 : a.eval (.tmp 227) = U (ya &&& yc) := hst.got 13 (hdep 13 (by kernel_rfl))
   have hr : (execOp a.eval (opAt ops86_39 14)).run Tryz.prog W0 = .ok (.value (U ((ya &&& yb) ||| (ya &&& yc)))) W0 := run_or32 (show (opAt ops86_39 14).op = .binOp .or 184 (.tmp 224) (.tmp 227) 184 from (by kernel_rfl)) g10 g13
   exact op_value ho (by kernel_rfl) hr (made_val (d := 228) (by kernel_rfl) rfl rfl (fun _ _ _ _ h => h))
 | 15, _, h1, hdep, ho =>
   have hw : w = W0 := hst.world
   obtain rfl : W0 = w := hw.symm
   have s17 : a.eval (.tmp 17) = U yb := (hst.rest 17 (by kernel_rfl)).trans hs17
   have hr : (execOp a.eval (opAt ops86_39 15)).run Tryz.prog W0 = .ok (.value (U yb)) W0 := run_moved (x := .tmp 17) (by kernel_rfl) s17
   exact op_value ho (by kernel_rfl) hr (made_val (d := 229) (by kernel_rfl) rfl rfl (fun _ _ _ _ h => h))
 | 16, _, h1, hdep, ho =>
   have hw : w = W0 := hst.world
   obtain rfl : W0 = w := hw.symm
   have s18 : a.eval (.tmp 18) = U yc := (hst.rest 18 (by kernel_rfl)).trans hs18
   have hr : (execOp a.eval (opAt ops86_39 16)).run Tryz.prog W0 = .ok (.value (U yc)) W0 := run_moved (x := .tmp 18) (by kernel_rfl) s18
   exact op_value ho (by kernel_rfl) hr (made_val (d := 230) (by kernel_rfl) rfl rfl (fun _ _ _ _ h => h))
 | 17, _, h1, hdep, ho =>
   have hw : w = W0 := hst.world
   obtain rfl : W0 = w := hw.symm
   have g15 : a.eval (.tmp 229) = U yb := hst.got 15 (hdep 15 (by kernel_rfl))
   have g16 : a.eval (.tmp 230) = U yc := hst.got 16 (hdep 16 (by kernel_rfl))
   have hr : (execOp a.eval (opAt ops86_39 17)).run Tryz.prog W0 = .ok (.value (U (yb &&& yc))) W0 := run_and32 (show (opAt ops86_39 17).op = .binOp .and 184 (.tmp 229) (.tmp 230) 184 from (by kernel_rfl)) g15 g16
   exact op_value ho (by kernel_rfl) hr (made_val (d := 231) (by kernel_rfl) rfl rfl (fun _ _ _ _ h => h))
 | 18, _, h1, hdep, ho =>
   have hw : w = W0 := hst.world
   obtain rfl : W0 = w := hw.symm
   have g14 : a.eval (.tmp 228) = U ((ya &&& yb) ||| (ya &&& yc)) := hst.got 14 (hdep 14 (by kernel_rfl))
   have g17 : a.eval (.tmp 231) = U (yb &&& yc) := hst.got 17 (hdep 17 (by kernel_rfl))
   have hr : (execOp a.eval (opAt ops86_39 18)).run Tryz.prog W0 = .ok (.value (U (((ya &&& yb) ||| (ya &&& yc)) ||| (yb &&& yc)))) W0 := run_or32 (show (opAt ops86_39 18).op = .binOp .or 184 (.tmp 228) (.tmp 231) 184 from (by kernel_rfl)) g14 g17
   exact op_value ho (by kernel_rfl) hr (made_val (d := 232) (by kernel_rfl) rfl rfl (fun _ _ _ _ h => h))
 | 19, _, h1, hdep, ho =>
   have hw : w = W0 := hst.world
   obtain rfl : W0 = w := hw.symm
   have g7 : a.eval (.tmp 221) = U (((rotr ya 2) ^^^ (rotr ya 13)) ^^^ (rotr ya 22)) := hst.got 7 (hdep 7 (by kernel_rfl))
   have g18 : a.eval (.tmp 232) = U (((ya &&& yb) ||| (ya &&& yc)) ||| (yb &&& yc)) := hst.got 18 (hdep 18 (by kernel_rfl))
   have hr : (execOp a.eval (opAt ops86_39 19)).run Tryz.prog W0 = .ok (.value (U ((((rotr ya 2) ^^^ (rotr ya 13)) ^^^ (rotr ya 22)) + (((ya &&& yb) ||| (ya &&& yc)) ||| (yb &&& yc))))) W0 := run_add32 (show (opAt ops86_39 19).op = .binOp .add 184 (.tmp 221) (.tmp 232) 184 from (by kernel_rfl)) g7 g18
   exact op_value ho (by kernel_rfl) hr (made_val (d := 233) (by kernel_rfl) rfl rfl (fun _ _ _ _ h => h))
 | 20, _, h1, hdep, ho =>
   have hw : w = W0 := hst.world
   obtain rfl : W0 = w := hw.symm
   have g19 : a.eval (.tmp 233) = U ((((rotr ya 2) ^^^ (rotr ya 13)) ^^^ (rotr ya 22)) + (((ya &&& yb) ||| (ya &&& yc)) ||| (yb &&& yc))) := hst.got 19 (hdep 19 (by kernel_rfl))
   have hr : (execOp a.eval (opAt ops86_39 20)).run Tryz.prog W0 = .ok (.value (U ((((rotr ya 2) ^^^ (rotr ya 13)) ^^^ (rotr ya 22)) + (((ya &&& yb) ||| (ya &&& yc)) ||| (yb &&& yc))))) W0 := run_moved_as (x := .tmp 233) (by kernel_rfl) g19
   exact op_value ho (by kernel_rfl) hr (made_val (d := 26) (by kernel_rfl) rfl rfl (fun _ _ _ _ h => h))
 | k + 21, hi, _, _, _ => exact absurd hi (by omega)
noncomputable def ops86_44 : Array Oper := (Tryz.f86.body.bind (inCode 44)).getD #[]
def sl86_44 : Nat → Nat
 | 0 => 261
 | 1 => 262
 | 2 => 263
 | 3 => 264
 | 4 => 265
 | 5 => 266
 | 6 => 1000001
 | _ => 0
def R86_44 (sb : Nat) (ii : Nat) (xk : BitVec 32) (nk : BitVec 32) : Nat → Value → World → Prop
 | 0, v, _ => v = .int .i64 (ii : Int)
 | 1, v, _ => v = .pointer (some ⟨sb, ii, none⟩)
 | 2, v, _ => v = U xk
 | 3, v, _ => v = U nk
 | 4, v, _ => v = U (xk + nk)
 | 5, v, _ => v = .pointer (some ⟨sb, ii, none⟩)
 | 6, v, _ => True
 | _, _, _ => True
def J86_44 (W0 : World) (sb : Nat) (ii : Nat) (xk : BitVec 32) (nk : BitVec 32) (L : Array Bool) (w : World) : Prop := (L.getD 6 false = false → w = W0) ∧ (L.getD 6 false = true → w = W0.setCell ⟨sb, ii, none⟩ (U (xk + nk)))
theorem J86_44_any {W0 : World} {sb : Nat} {ii : Nat} {xk : BitVec 32} {nk : BitVec 32} {L : Array Bool} {w : World} (i : Nat) (hi : i ≠ 6) (h : J86_44 W0 sb ii xk nk L w) : J86_44 W0 sb ii xk nk (L.setIfInBounds i true) w := by
 obtain ⟨h0, h1⟩ := h
 exact ⟨fun h => h0 (unset h), fun h => h1 (set_ne (by omega) h)⟩
set_option maxHeartbeats 3200000 in
theorem reg86_44 {ops : Array Oper} (ho : ops = ops86_44) {Q : Exit → Act → World → Prop} {a0 : Act} {w0 W0 : World} (hW : w0 = W0) {sb : Nat} {ii : Nat} {xk : BitVec 32} {nk : BitVec 32} (hii : ii < 8) (cw : W0.cell? ⟨sb, ii, none⟩ = some (U xk)) (fw : W0.frozen? ⟨sb, ii, none⟩ = false) (hs4 : a0.eval (.tmp 4) = .pointer (some ⟨sb, 0, none⟩)) (hs27 : a0.eval (.tmp 27) = .int .i64 (ii : Int)) (hs28 : a0.eval (.tmp 28) = U nk) (hsz : a0.tmps.size = 287)
  (HK : ∀ a, a.defers = a0.defers → a.tmps.size = 287 → (∀ s, freeB ops86_44 s = true → a.eval (.tmp s) = a0.eval (.tmp s)) → (∀ i, i < 7 → R86_44 sb ii xk nk i (a.eval (.tmp (sl86_44 i))) (W0.setCell ⟨sb, ii, none⟩ (U (xk + nk)))) → Q .normal a (W0.setCell ⟨sb, ii, none⟩ (U (xk + nk)))) : (Code.region 44 ops false).wp Tryz.prog Q a0 w0 := by
 subst ho
 refine region_made_seq (n := 7) (sl := sl86_44) (J := J86_44 W0 sb ii xk nk) (R := R86_44 sb ii xk nk) (by kernel_rfl) (by kernel_rfl) (by kernel_rfl) (by rw [hsz]; kernel_rfl) ?_ (by rw [hW]; exact ⟨fun _ => rfl, fun h => by simp [Array.getD] at h⟩) (fun L a w hall hf => ?_)
 rotate_left
 ·have hw1 : w = W0.setCell ⟨sb, ii, none⟩ (U (xk + nk)) := hf.world.2 (hall 6 (by decide))
  subst w
  exact HK a hf.defers (hf.size.trans hsz) hf.rest (fun i hi => hf.got i (hall i hi))
 intro i hi L a w hs h1 hdep hd hst ho
 clear HK
 match i, hi, h1, hdep, ho with
 | 0, _, h1, hdep, ho =>
   have JJ := J86_44_any 0 (by decide) hst.world
   have s27 : a.eval (.tmp 27) = .int .i64 (ii : Int) := (hst.rest 27 (by kernel_rfl)).trans hs27
   have hr : (execOp a.eval (opAt ops86_44 0)).run Tryz.prog w = .ok (.value (.int .i64 (ii : Int))) w := run_moved (x := .tmp 27) (by kernel_rfl) s27
   exact op_value ho (by kernel_rfl) hr (made_val (d := 261) (by kernel_rfl) rfl JJ (fun _ _ _ _ h => h))
 | 1, _, h1, hdep, ho =>
   have JJ := J86_44_any 1 (by decide) hst.world
   have s4 : a.eval (.tmp 4) = .pointer (some ⟨sb, 0, none⟩) := (hst.rest 4 (by kernel_rfl)).trans hs4
   have g0 : a.eval (.tmp 261) = .int .i64 (ii : Int) := hst.got 0 (hdep 0 (by kernel_rfl))
   have hr : (execOp a.eval (opAt ops86_44 1)).run Tryz.prog w = .ok (.value (.pointer (some ⟨sb, ii, none⟩))) w := (show 0 + (ii) = ii from Nat.zero_add _) ▸ run_idx185 (b := sb) (n := 0) (k := ii) (by first | rfl | omega) (by first | decide | omega) (show (opAt ops86_44 1).op = .indexAddr 185 (.tmp 4) (.tmp 261) from (by kernel_rfl)) s4 g0
   exact op_value ho (by kernel_rfl) hr (made_val (d := 262) (by kernel_rfl) rfl JJ (fun _ _ _ _ h => h))
 | 2, _, h1, hdep, ho =>
   have JJ := J86_44_any 2 (by decide) hst.world
   have hw : w = W0 := hst.world.1 (unlisted hs hd h1 (show waits .any ops86_44 6 2 = true from (by kernel_rfl)))
   obtain rfl : W0 = w := hw.symm
   have g1 : a.eval (.tmp 262) = .pointer (some ⟨sb, ii, none⟩) := hst.got 1 (hdep 1 (by kernel_rfl))
   have hr : (execOp a.eval (opAt ops86_44 2)).run Tryz.prog W0 = .ok (.value (U xk)) W0 := run_load184 cw (show (opAt ops86_44 2).op = .load 184 (.tmp 262) from (by kernel_rfl)) g1
   exact op_value ho (by kernel_rfl) hr (made_val (d := 263) (by kernel_rfl) rfl JJ (fun _ _ _ _ h => h))
 | 3, _, h1, hdep, ho =>
   have JJ := J86_44_any 3 (by decide) hst.world
   have s28 : a.eval (.tmp 28) = U nk := (hst.rest 28 (by kernel_rfl)).trans hs28
   have hr : (execOp a.eval (opAt ops86_44 3)).run Tryz.prog w = .ok (.value (U nk)) w := run_moved (x := .tmp 28) (by kernel_rfl) s28
   exact op_value ho (by kernel_rfl) hr (made_val (d := 264) (by kernel_rfl) rfl JJ (fun _ _ _ _ h => h))
 | 4, _, h1, hdep, ho =>
   have JJ := J86_44_any 4 (by decide) hst.world
   have g2 : a.eval (.tmp 263) = U xk := hst.got 2 (hdep 2 (by kernel_rfl))
   have g3 : a.eval (.tmp 264) = U nk := hst.got 3 (hdep 3 (by kernel_rfl))
   have hr : (execOp a.eval (opAt ops86_44 4)).run Tryz.prog w = .ok (.value (U (xk + nk))) w := run_add32 (show (opAt ops86_44 4).op = .binOp .add 184 (.tmp 263) (.tmp 264) 184 from (by kernel_rfl)) g2 g3
   exact op_value ho (by kernel_rfl) hr (made_val (d := 265) (by kernel_rfl) rfl JJ (fun _ _ _ _ h => h))
 | 5, _, h1, hdep, ho =>
   have JJ := J86_44_any 5 (by decide) hst.world
   have s4 : a.eval (.tmp 4) = .pointer (some ⟨sb, 0, none⟩) := (hst.rest 4 (by kernel_rfl)).trans hs4
   have g0 : a.eval (.tmp 261) = .int .i64 (ii : Int) := hst.got 0 (hdep 0 (by kernel_rfl))
   have hr : (execOp a.eval (opAt ops86_44 5)).run Tryz.prog w = .ok (.value (.pointer (some ⟨sb, ii, none⟩))) w := (show 0 + (ii) = ii from Nat.zero_add _) ▸ run_idx185 (b := sb) (n := 0) (k := ii) (by first | rfl | omega) (by first | decide | omega) (show (opAt ops86_44 5).op = .indexAddr 185 (.tmp 4) (.tmp 261) from (by kernel_rfl)) s4 g0
   exact op_value ho (by kernel_rfl) hr (made_val (d := 266) (by kernel_rfl) rfl JJ (fun _ _ _ _ h => h))
 | 6, _, h1, hdep, ho =>
   have hw : w = W0 := hst.world.1 (unl h1)
   obtain rfl : W0 = w := hw.symm
   have g5 : a.eval (.tmp 266) = .pointer (some ⟨sb, ii, none⟩) := hst.got 5 (hdep 5 (by kernel_rfl))
   have g4 : a.eval (.tmp 265) = U (xk + nk) := hst.got 4 (hdep 4 (by kernel_rfl))
   have hr : (execOp a.eval (opAt ops86_44 6)).run Tryz.prog (W0) = .ok .skip (W0.setCell ⟨sb, ii, none⟩ (U (xk + nk))) := run_store184 cw fw (show (opAt ops86_44 6).op = .store 184 (.tmp 266) (.tmp 265) from (by kernel_rfl)) g5 g4
   refine op_skip ho (by kernel_rfl) hr (made_skip (by kernel_rfl) trivial ⟨fun h => by (rw [set_same (by rw [hs]; decide)] at h; cases h), fun _ => rfl⟩ (fun j _ _ u h => ?_))
   match j, h with
   | 0, h => exact (show _ = _ from h)
   | 1, h => exact (show _ = _ from h)
   | 2, h => exact (show _ = _ from h)
   | 3, h => exact (show _ = _ from h)
   | 4, h => exact (show _ = _ from h)
   | 5, h => exact (show _ = _ from h)
   | 6, h => exact (show True from h)
   | _ + 7, _ => exact trivial
 | k + 7, hi, _, _, _ => exact absurd hi (by omega)
noncomputable def ops86_50 : Array Oper := (Tryz.f86.body.bind (inCode 50)).getD #[]
def sl86_50 : Nat → Nat
 | 0 => 273
 | 1 => 274
 | 2 => 275
 | 3 => 276
 | 4 => 277
 | 5 => 278
 | 6 => 279
 | 7 => 280
 | 8 => 281
 | 9 => 282
 | 10 => 283
 | 11 => 284
 | 12 => 285
 | 13 => 1000001
 | _ => 0
def R86_50 (sb : Nat) (ob : Nat) (kk : Nat) (xk : BitVec 32) (y : Value) : Nat → Value → World → Prop
 | 0, v, _ => v = .int .i64 (kk : Int)
 | 1, v, _ => v = .int .i64 (kk : Int)
 | 2, v, _ => v = .int .i64 ((kk / 4 : Nat) : Int)
 | 3, v, _ => v = .pointer (some ⟨sb, kk / 4, none⟩)
 | 4, v, _ => v = U xk
 | 5, v, _ => v = .int .i64 (kk : Int)
 | 6, v, _ => v = .int .i64 ((kk % 4 : Nat) : Int)
 | 7, v, _ => v = .int .u64 ((kk % 4 : Nat) : Int)
 | 8, v, _ => v = .int .u64 ((kk % 4 * 8 : Nat) : Int)
 | 9, v, _ => v = .int .u64 ((24 - kk % 4 * 8 : Nat) : Int)
 | 10, v, _ => v = U (xk >>> (24 - kk % 4 * 8))
 | 11, v, _ => v = .int .u8 ((((xk >>> (24 - kk % 4 * 8))).toNat % 256 : Nat) : Int)
 | 12, v, _ => v = .pointer (some ⟨ob, kk, none⟩)
 | 13, v, _ => True
 | _, _, _ => True
def J86_50 (W0 : World) (sb : Nat) (ob : Nat) (kk : Nat) (xk : BitVec 32) (y : Value) (L : Array Bool) (w : World) : Prop := (L.getD 13 false = false → w = W0) ∧ (L.getD 13 false = true → w = W0.setCell ⟨ob, kk, none⟩ (.int .u8 ((((xk >>> (24 - kk % 4 * 8))).toNat % 256 : Nat) : Int)))
theorem J86_50_any {W0 : World} {sb : Nat} {ob : Nat} {kk : Nat} {xk : BitVec 32} {y : Value} {L : Array Bool} {w : World} (i : Nat) (hi : i ≠ 13) (h : J86_50 W0 sb ob kk xk y L w) : J86_50 W0 sb ob kk xk y (L.setIfInBounds i true) w := by
 obtain ⟨h0, h1⟩ := h
 exact ⟨fun h => h0 (unset h), fun h => h1 (set_ne (by omega) h)⟩
set_option maxHeartbeats 3200000 in
theorem reg86_50 {ops : Array Oper} (ho : ops = ops86_50) {Q : Exit → Act → World → Prop} {a0 : Act} {w0 W0 : World} (hW : w0 = W0) {sb : Nat} {ob : Nat} {kk : Nat} {xk : BitVec 32} {y : Value} (hkk : kk < 32) (cx : W0.cell? ⟨sb, kk / 4, none⟩ = some (U xk)) (cw : W0.cell? ⟨ob, kk, none⟩ = some y) (fw : W0.frozen? ⟨ob, kk, none⟩ = false) (hs4 : a0.eval (.tmp 4) = .pointer (some ⟨sb, 0, none⟩)) (hs29 : a0.eval (.tmp 29) = .pointer (some ⟨ob, 0, none⟩)) (hs30 : a0.eval (.tmp 30) = .int .i64 (kk : Int)) (hsz : a0.tmps.size = 287)
  (HK : ∀ a, a.defers = a0.defers → a.tmps.size = 287 → (∀ s, freeB ops86_50 s = true → a.eval (.tmp s) = a0.eval (.tmp s)) → (∀ i, i < 14 → R86_50 sb ob kk xk y i (a.eval (.tmp (sl86_50 i))) (W0.setCell ⟨ob, kk, none⟩ (.int .u8 ((((xk >>> (24 - kk % 4 * 8))).toNat % 256 : Nat) : Int)))) → Q .normal a (W0.setCell ⟨ob, kk, none⟩ (.int .u8 ((((xk >>> (24 - kk % 4 * 8))).toNat % 256 : Nat) : Int)))) : (Code.region 50 ops false).wp Tryz.prog Q a0 w0 := by
 subst ho
 refine region_made_seq (n := 14) (sl := sl86_50) (J := J86_50 W0 sb ob kk xk y) (R := R86_50 sb ob kk xk y) (by kernel_rfl) (by kernel_rfl) (by kernel_rfl) (by rw [hsz]; kernel_rfl) ?_ (by rw [hW]; exact ⟨fun _ => rfl, fun h => by simp [Array.getD] at h⟩) (fun L a w hall hf => ?_)
 rotate_left
 ·have hw1 : w = W0.setCell ⟨ob, kk, none⟩ (.int .u8 ((((xk >>> (24 - kk % 4 * 8))).toNat % 256 : Nat) : Int)) := hf.world.2 (hall 13 (by decide))
  subst w
  exact HK a hf.defers (hf.size.trans hsz) hf.rest (fun i hi => hf.got i (hall i hi))
 intro i hi L a w hs h1 hdep hd hst ho
 clear HK
 match i, hi, h1, hdep, ho with
 | 0, _, h1, hdep, ho =>
   have JJ := J86_50_any 0 (by decide) hst.world
   have s30 : a.eval (.tmp 30) = .int .i64 (kk : Int) := (hst.rest 30 (by kernel_rfl)).trans hs30
   have hr : (execOp a.eval (opAt ops86_50 0)).run Tryz.prog w = .ok (.value (.int .i64 (kk : Int))) w := run_moved (x := .tmp 30) (by kernel_rfl) s30
   exact op_value ho (by kernel_rfl) hr (made_val (d := 273) (by kernel_rfl) rfl JJ (fun _ _ _ _ h => h))
 | 1, _, h1, hdep, ho =>
   have JJ := J86_50_any 1 (by decide) hst.world
   have s30 : a.eval (.tmp 30) = .int .i64 (kk : Int) := (hst.rest 30 (by kernel_rfl)).trans hs30
   have hr : (execOp a.eval (opAt ops86_50 1)).run Tryz.prog w = .ok (.value (.int .i64 (kk : Int))) w := run_moved (x := .tmp 30) (by kernel_rfl) s30
   exact op_value ho (by kernel_rfl) hr (made_val (d := 274) (by kernel_rfl) rfl JJ (fun _ _ _ _ h => h))
 | 2, _, h1, hdep, ho =>
   have JJ := J86_50_any 2 (by decide) hst.world
   have g1 : a.eval (.tmp 274) = .int .i64 (kk : Int) := hst.got 1 (hdep 1 (by kernel_rfl))
   have hr : (execOp a.eval (opAt ops86_50 2)).run Tryz.prog w = .ok (.value (.int .i64 ((kk / 4 : Nat) : Int))) w := run_quo4 (show (opAt ops86_50 2).op = .binOp .quo 3 (.tmp 274) (.const (.int .i64 4)) 3 from (by kernel_rfl)) g1 rfl hkk
   exact op_value ho (by kernel_rfl) hr (made_val (d := 275) (by kernel_rfl) rfl JJ (fun _ _ _ _ h => h))
 | 3, _, h1, hdep, ho =>
   have JJ := J86_50_any 3 (by decide) hst.world
   have s4 : a.eval (.tmp 4) = .pointer (some ⟨sb, 0, none⟩) := (hst.rest 4 (by kernel_rfl)).trans hs4
   have g2 : a.eval (.tmp 275) = .int .i64 ((kk / 4 : Nat) : Int) := hst.got 2 (hdep 2 (by kernel_rfl))
   have hr : (execOp a.eval (opAt ops86_50 3)).run Tryz.prog w = .ok (.value (.pointer (some ⟨sb, kk / 4, none⟩))) w := (show 0 + (kk / 4) = kk / 4 from Nat.zero_add _) ▸ run_idx185 (b := sb) (n := 0) (k := kk / 4) (by first | rfl | omega) (by first | decide | omega) (show (opAt ops86_50 3).op = .indexAddr 185 (.tmp 4) (.tmp 275) from (by kernel_rfl)) s4 g2
   exact op_value ho (by kernel_rfl) hr (made_val (d := 276) (by kernel_rfl) rfl JJ (fun _ _ _ _ h => h))
 | 4, _, h1, hdep, ho =>
   have JJ := J86_50_any 4 (by decide) hst.world
   have hw : w = W0 := hst.world.1 (unlisted hs hd h1 (show waits .any ops86_50 13 4 = true from (by kernel_rfl)))
   obtain rfl : W0 = w := hw.symm
   have g3 : a.eval (.tmp 276) = .pointer (some ⟨sb, kk / 4, none⟩) := hst.got 3 (hdep 3 (by kernel_rfl))
   have hr : (execOp a.eval (opAt ops86_50 4)).run Tryz.prog W0 = .ok (.value (U xk)) W0 := run_load184 cx (show (opAt ops86_50 4).op = .load 184 (.tmp 276) from (by kernel_rfl)) g3
   exact op_value ho (by kernel_rfl) hr (made_val (d := 277) (by kernel_rfl) rfl JJ (fun _ _ _ _ h => h))
 | 5, _, h1, hdep, ho =>
   have JJ := J86_50_any 5 (by decide) hst.world
   have s30 : a.eval (.tmp 30) = .int .i64 (kk : Int) := (hst.rest 30 (by kernel_rfl)).trans hs30
   have hr : (execOp a.eval (opAt ops86_50 5)).run Tryz.prog w = .ok (.value (.int .i64 (kk : Int))) w := run_moved (x := .tmp 30) (by kernel_rfl) s30
   exact op_value ho (by kernel_rfl) hr (made_val (d := 278) (by kernel_rfl) rfl JJ (fun _ _ _ _ h => h))
 | 6, _, h1, hdep, ho =>
   have JJ := J86_50_any 6 (by decide) hst.world
   have g5 : a.eval (.tmp 278) = .int .i64 (kk : Int) := hst.got 5 (hdep 5 (by kernel_rfl))
   have hr : (execOp a.eval (opAt ops86_50 6)).run Tryz.prog w = .ok (.value (.int .i64 ((kk % 4 : Nat) : Int))) w := run_rem4 (show (opAt ops86_50 6).op = .binOp .rem 3 (.tmp 278) (.const (.int .i64 4)) 3 from (by kernel_rfl)) g5 rfl hkk
   exact op_value ho (by kernel_rfl) hr (made_val (d := 279) (by kernel_rfl) rfl JJ (fun _ _ _ _ h => h))
 | 7, _, h1, hdep, ho =>
   have JJ := J86_50_any 7 (by decide) hst.world
   have g6 : a.eval (.tmp 279) = .int .i64 ((kk % 4 : Nat) : Int) := hst.got 6 (hdep 6 (by kernel_rfl))
   have hr : (execOp a.eval (opAt ops86_50 7)).run Tryz.prog w = .ok (.value (.int .u64 ((kk % 4 : Nat) : Int))) w := run_conv118 (show (opAt ops86_50 7).op = .convert 3 118 (.tmp 279) from (by kernel_rfl)) g6 (by omega)
   exact op_value ho (by kernel_rfl) hr (made_val (d := 280) (by kernel_rfl) rfl JJ (fun _ _ _ _ h => h))
 | 8, _, h1, hdep, ho =>
   have JJ := J86_50_any 8 (by decide) hst.world
   have g7 : a.eval (.tmp 280) = .int .u64 ((kk % 4 : Nat) : Int) := hst.got 7 (hdep 7 (by kernel_rfl))
   have hr : (execOp a.eval (opAt ops86_50 8)).run Tryz.prog w = .ok (.value (.int .u64 ((kk % 4 * 8 : Nat) : Int))) w := run_mul118 (show (opAt ops86_50 8).op = .binOp .mul 118 (.tmp 280) (.const (.int .u64 8)) 118 from (by kernel_rfl)) g7 rfl (by omega)
   exact op_value ho (by kernel_rfl) hr (made_val (d := 281) (by kernel_rfl) rfl JJ (fun _ _ _ _ h => h))
 | 9, _, h1, hdep, ho =>
   have JJ := J86_50_any 9 (by decide) hst.world
   have g8 : a.eval (.tmp 281) = .int .u64 ((kk % 4 * 8 : Nat) : Int) := hst.got 8 (hdep 8 (by kernel_rfl))
   have hr : (execOp a.eval (opAt ops86_50 9)).run Tryz.prog w = .ok (.value (.int .u64 ((24 - kk % 4 * 8 : Nat) : Int))) w := run_sub118 (show (opAt ops86_50 9).op = .binOp .sub 118 (.const (.int .u64 24)) (.tmp 281) 118 from (by kernel_rfl)) rfl g8 (by omega)
   exact op_value ho (by kernel_rfl) hr (made_val (d := 282) (by kernel_rfl) rfl JJ (fun _ _ _ _ h => h))
 | 10, _, h1, hdep, ho =>
   have JJ := J86_50_any 10 (by decide) hst.world
   have g4 : a.eval (.tmp 277) = U xk := hst.got 4 (hdep 4 (by kernel_rfl))
   have g9 : a.eval (.tmp 282) = .int .u64 ((24 - kk % 4 * 8 : Nat) : Int) := hst.got 9 (hdep 9 (by kernel_rfl))
   have hr : (execOp a.eval (opAt ops86_50 10)).run Tryz.prog w = .ok (.value (U (xk >>> (24 - kk % 4 * 8)))) w := run_shr32 (k := 24 - kk % 4 * 8) (by omega) (show (opAt ops86_50 10).op = .binOp .shr 184 (.tmp 277) (.tmp 282) 118 from (by kernel_rfl)) g4 g9
   exact op_value ho (by kernel_rfl) hr (made_val (d := 283) (by kernel_rfl) rfl JJ (fun _ _ _ _ h => h))
 | 11, _, h1, hdep, ho =>
   have JJ := J86_50_any 11 (by decide) hst.world
   have g10 : a.eval (.tmp 283) = U (xk >>> (24 - kk % 4 * 8)) := hst.got 10 (hdep 10 (by kernel_rfl))
   have hr : (execOp a.eval (opAt ops86_50 11)).run Tryz.prog w = .ok (.value (.int .u8 ((((xk >>> (24 - kk % 4 * 8))).toNat % 256 : Nat) : Int))) w := run_conv8 (show (opAt ops86_50 11).op = .convert 184 5 (.tmp 283) from (by kernel_rfl)) g10
   exact op_value ho (by kernel_rfl) hr (made_val (d := 284) (by kernel_rfl) rfl JJ (fun _ _ _ _ h => h))
 | 12, _, h1, hdep, ho =>
   have JJ := J86_50_any 12 (by decide) hst.world
   have s29 : a.eval (.tmp 29) = .pointer (some ⟨ob, 0, none⟩) := (hst.rest 29 (by kernel_rfl)).trans hs29
   have g0 : a.eval (.tmp 273) = .int .i64 (kk : Int) := hst.got 0 (hdep 0 (by kernel_rfl))
   have hr : (execOp a.eval (opAt ops86_50 12)).run Tryz.prog w = .ok (.value (.pointer (some ⟨ob, kk, none⟩))) w := (show 0 + (kk) = kk from Nat.zero_add _) ▸ run_idx147 (b := ob) (n := 0) (k := kk) (by first | rfl | omega) (by first | decide | omega) (show (opAt ops86_50 12).op = .indexAddr 147 (.tmp 29) (.tmp 273) from (by kernel_rfl)) s29 g0
   exact op_value ho (by kernel_rfl) hr (made_val (d := 285) (by kernel_rfl) rfl JJ (fun _ _ _ _ h => h))
 | 13, _, h1, hdep, ho =>
   have hw : w = W0 := hst.world.1 (unl h1)
   obtain rfl : W0 = w := hw.symm
   have g12 : a.eval (.tmp 285) = .pointer (some ⟨ob, kk, none⟩) := hst.got 12 (hdep 12 (by kernel_rfl))
   have g11 : a.eval (.tmp 284) = .int .u8 ((((xk >>> (24 - kk % 4 * 8))).toNat % 256 : Nat) : Int) := hst.got 11 (hdep 11 (by kernel_rfl))
   have hr : (execOp a.eval (opAt ops86_50 13)).run Tryz.prog (W0) = .ok .skip (W0.setCell ⟨ob, kk, none⟩ (.int .u8 ((((xk >>> (24 - kk % 4 * 8))).toNat % 256 : Nat) : Int))) := run_store5 cw fw (show (opAt ops86_50 13).op = .store 5 (.tmp 285) (.tmp 284) from (by kernel_rfl)) g12 g11
   refine op_skip ho (by kernel_rfl) hr (made_skip (by kernel_rfl) trivial ⟨fun h => by (rw [set_same (by rw [hs]; decide)] at h; cases h), fun _ => rfl⟩ (fun j _ _ u h => ?_))
   match j, h with
   | 0, h => exact (show _ = _ from h)
   | 1, h => exact (show _ = _ from h)
   | 2, h => exact (show _ = _ from h)
   | 3, h => exact (show _ = _ from h)
   | 4, h => exact (show _ = _ from h)
   | 5, h => exact (show _ = _ from h)
   | 6, h => exact (show _ = _ from h)
   | 7, h => exact (show _ = _ from h)
   | 8, h => exact (show _ = _ from h)
   | 9, h => exact (show _ = _ from h)
   | 10, h => exact (show _ = _ from h)
   | 11, h => exact (show _ = _ from h)
   | 12, h => exact (show _ = _ from h)
   | 13, h => exact (show True from h)
   | _ + 14, _ => exact trivial
 | k + 14, hi, _, _, _ => exact absurd hi (by omega)
set_option maxHeartbeats 3200000 in
theorem turn86_30 {x0 x1 x2 x3 x4 x5 x6 x7 x8 x9 x10 x11 x12 x13 x14 x15 x16 x17 x18 x19 x20 x21 x22 x23 x24 x25 x26 x27 x28 x29 x30 x31 x32 x33 x34 x35 x36 x37 x38 x39 x40 x41 x42 x43 x44 x45 x46 x47 x48 x49 x50 x51 x52 x53 x54 x55 x56 x57 x58 x59 x60 x61 x62 x63 x64 x65 x66 x67 x68 x69 x70 x71 x72 x73 x74 x75 x76 x77 x78 x79 x80 x81 x82 x83 x84 x85 x86 x87 x88 x89 x90 x91 x92 x93 x94 x95 x96 x97 x98 x99 x100 x101 x102 x103 x104 x105 x106 x107 x108 x109 x110 x111 x112 x113 x114 x115 x116 x117 x118 x119 x120 x121 x122 x123 x124 x125 x126 x127 x128 x129 x130 x131 x132 x133 x134 x135 x136 x137 x138 x139 x140 x141 x142 x143 x144 x145 x146 x147 x148 x149 x150 x151 x152 x153 x154 x155 x156 x157 x158 x159 x160 x161 x162 x163 x164 x165 x166 x167 x168 x169 x170 x171 x172 x173 x174 x175 x176 x177 x178 x179 x180 x181 x182 x183 x184 x185 x186 x187 x188 x189 x190 x191 x192 x193 x194 x195 x196 x197 x198 x199 x200 x201 x202 x203 x204 x205 x206 x207 x208 x209 x210 x211 x212 x213 x214 x215 x216 x217 x218 x219 x220 x221 x222 x223 x224 x225 x226 x227 x228 x229 x230 x231 x232 x233 x234 x235 x236 x237 x238 x239 x240 x241 x242 x243 x244 x245 x246 x247 x248 x249 x250 x251 x252 x253 x254 x255 x256 x257 x258 x259 x260 x261 x262 x263 x264 x265 x266 x267 x268 x269 x270 x271 x272 x273 x274 x275 x276 x277 x278 x279 x280 x281 x282 x283 x284 x285 x286 : Value} {D : _} {a : Act} (hl : Left 287 ops86_30 a (Act.mk #[x0, x1, x2, x3, x4, x5, x6, x7, x8, x9, x10, x11, x12, x13, x14, x15, x16, x17, x18, x19, x20, x21, x22, x23, x24, x25, x26, x27, x28, x29, x30, x31, x32, x33, x34, x35, x36, x37, x38, x39, x40, x41, x42, x43, x44, x45, x46, x47, x48, x49, x50, x51, x52, x53, x54, x55, x56, x57, x58, x59, x60, x61, x62, x63, x64, x65, x66, x67, x68, x69, x70, x71, x72, x73, x74, x75, x76, x77, x78, x79, x80, x81, x82, x83, x84, x85, x86, x87, x88, x89, x90, x91, x92, x93, x94, x95, x96, x97, x98, x99, x100, x101, x102, x103, x104, x105, x106, x107, x108, x109, x110, x111, x112, x113, x114, x115, x116, x117, x118, x119, x120, x121, x122, x123, x124, x125, x126, x127, x128, x129, x130, x131, x132, x133, x134, x135, x136, x137, x138, x139, x140, x141, x142, x143, x144, x145, x146, x147, x148, x149, x150, x151, x152, x153, x154, x155, x156, x157, x158, x159, x160, x161, x162, x163, x164, x165, x166, x167, x168, x169, x170, x171, x172, x173, x174, x175, x176, x177, x178, x179, x180, x181, x182, x183, x184, x185, x186, x187, x188, x189, x190, x191, x192, x193, x194, x195, x196, x197, x198, x199, x200, x201, x202, x203, x204, x205, x206, x207, x208, x209, x210, x211, x212, x213, x214, x215, x216, x217, x218, x219, x220, x221, x222, x223, x224, x225, x226, x227, x228, x229, x230, x231, x232, x233, x234, x235, x236, x237, x238, x239, x240, x241, x242, x243, x244, x245, x246, x247, x248, x249, x250, x251, x252, x253, x254, x255, x256, x257, x258, x259, x260, x261, x262, x263, x264, x265, x266, x267, x268, x269, x270, x271, x272, x273, x274, x275, x276, x277, x278, x279, x280, x281, x282, x283, x284, x285, x286] D)) : ∃ z101 z102 z103 z104 z105 z106 z107 z108 z109 z110 z111 z112 z113 z114 z115 z116 z117, a = ⟨#[x0, x1, x2, x3, x4, x5, x6, x7, x8, x9, x10, x11, x12, x13, x14, x15, x16, x17, x18, x19, x20, x21, x22, x23, x24, x25, x26, x27, x28, x29, x30, x31, x32, x33, x34, x35, x36, x37, x38, x39, x40, x41, x42, x43, x44, x45, x46, x47, x48, x49, x50, x51, x52, x53, x54, x55, x56, x57, x58, x59, x60, x61, x62, x63, x64, x65, x66, x67, x68, x69, x70, x71, x72, x73, x74, x75, x76, x77, x78, x79, x80, x81, x82, x83, x84, x85, x86, x87, x88, x89, x90, x91, x92, x93, x94, x95, x96, x97, x98, x99, x100, z101, z102, z103, z104, z105, z106, z107, z108, z109, z110, z111, z112, z113, z114, z115, z116, z117, x118, x119, x120, x121, x122, x123, x124, x125, x126, x127, x128, x129, x130, x131, x132, x133, x134, x135, x136, x137, x138, x139, x140, x141, x142, x143, x144, x145, x146, x147, x148, x149, x150, x151, x152, x153, x154, x155, x156, x157, x158, x159, x160, x161, x162, x163, x164, x165, x166, x167, x168, x169, x170, x171, x172, x173, x174, x175, x176, x177, x178, x179, x180, x181, x182, x183, x184, x185, x186, x187, x188, x189, x190, x191, x192, x193, x194, x195, x196, x197, x198, x199, x200, x201, x202, x203, x204, x205, x206, x207, x208, x209, x210, x211, x212, x213, x214, x215, x216, x217, x218, x219, x220, x221, x222, x223, x224, x225, x226, x227, x228, x229, x230, x231, x232, x233, x234, x235, x236, x237, x238, x239, x240, x241, x242, x243, x244, x245, x246, x247, x248, x249, x250, x251, x252, x253, x254, x255, x256, x257, x258, x259, x260, x261, x262, x263, x264, x265, x266, x267, x268, x269, x270, x271, x272, x273, x274, x275, x276, x277, x278, x279, x280, x281, x282, x283, x284, x285, x286], D⟩ := by
 exact ⟨a.eval (.tmp 101), a.eval (.tmp 102), a.eval (.tmp 103), a.eval (.tmp 104), a.eval (.tmp 105), a.eval (.tmp 106), a.eval (.tmp 107), a.eval (.tmp 108), a.eval (.tmp 109), a.eval (.tmp 110), a.eval (.tmp 111), a.eval (.tmp 112), a.eval (.tmp 113), a.eval (.tmp 114), a.eval (.tmp 115), a.eval (.tmp 116), a.eval (.tmp 117), (turn_gen [101, 102, 103, 104, 105, 106, 107, 108, 109, 110, 111, 112, 113, 114, 115, 116, 117] (by kernel_rfl) (by kernel_rfl) hl.1 hl.2.1 hl.2.2).trans (by kernel_rfl)⟩
set_option maxHeartbeats 3200000 in
theorem turn86_31 {x0 x1 x2 x3 x4 x5 x6 x7 x8 x9 x10 x11 x12 x13 x14 x15 x16 x17 x18 x19 x20 x21 x22 x23 x24 x25 x26 x27 x28 x29 x30 x31 x32 x33 x34 x35 x36 x37 x38 x39 x40 x41 x42 x43 x44 x45 x46 x47 x48 x49 x50 x51 x52 x53 x54 x55 x56 x57 x58 x59 x60 x61 x62 x63 x64 x65 x66 x67 x68 x69 x70 x71 x72 x73 x74 x75 x76 x77 x78 x79 x80 x81 x82 x83 x84 x85 x86 x87 x88 x89 x90 x91 x92 x93 x94 x95 x96 x97 x98 x99 x100 x101 x102 x103 x104 x105 x106 x107 x108 x109 x110 x111 x112 x113 x114 x115 x116 x117 x118 x119 x120 x121 x122 x123 x124 x125 x126 x127 x128 x129 x130 x131 x132 x133 x134 x135 x136 x137 x138 x139 x140 x141 x142 x143 x144 x145 x146 x147 x148 x149 x150 x151 x152 x153 x154 x155 x156 x157 x158 x159 x160 x161 x162 x163 x164 x165 x166 x167 x168 x169 x170 x171 x172 x173 x174 x175 x176 x177 x178 x179 x180 x181 x182 x183 x184 x185 x186 x187 x188 x189 x190 x191 x192 x193 x194 x195 x196 x197 x198 x199 x200 x201 x202 x203 x204 x205 x206 x207 x208 x209 x210 x211 x212 x213 x214 x215 x216 x217 x218 x219 x220 x221 x222 x223 x224 x225 x226 x227 x228 x229 x230 x231 x232 x233 x234 x235 x236 x237 x238 x239 x240 x241 x242 x243 x244 x245 x246 x247 x248 x249 x250 x251 x252 x253 x254 x255 x256 x257 x258 x259 x260 x261 x262 x263 x264 x265 x266 x267 x268 x269 x270 x271 x272 x273 x274 x275 x276 x277 x278 x279 x280 x281 x282 x283 x284 x285 x286 z14 : Value} {D : _} {a : Act} (hl : Left 287 ops86_31 a (Act.mk #[x0, x1, x2, x3, x4, x5, x6, x7, x8, x9, x10, x11, x12, x13, x14, x15, x16, x17, x18, x19, x20, x21, x22, x23, x24, x25, x26, x27, x28, x29, x30, x31, x32, x33, x34, x35, x36, x37, x38, x39, x40, x41, x42, x43, x44, x45, x46, x47, x48, x49, x50, x51, x52, x53, x54, x55, x56, x57, x58, x59, x60, x61, x62, x63, x64, x65, x66, x67, x68, x69, x70, x71, x72, x73, x74, x75, x76, x77, x78, x79, x80, x81, x82, x83, x84, x85, x86, x87, x88, x89, x90, x91, x92, x93, x94, x95, x96, x97, x98, x99, x100, x101, x102, x103, x104, x105, x106, x107, x108, x109, x110, x111, x112, x113, x114, x115, x116, x117, x118, x119, x120, x121, x122, x123, x124, x125, x126, x127, x128, x129, x130, x131, x132, x133, x134, x135, x136, x137, x138, x139, x140, x141, x142, x143, x144, x145, x146, x147, x148, x149, x150, x151, x152, x153, x154, x155, x156, x157, x158, x159, x160, x161, x162, x163, x164, x165, x166, x167, x168, x169, x170, x171, x172, x173, x174, x175, x176, x177, x178, x179, x180, x181, x182, x183, x184, x185, x186, x187, x188, x189, x190, x191, x192, x193, x194, x195, x196, x197, x198, x199, x200, x201, x202, x203, x204, x205, x206, x207, x208, x209, x210, x211, x212, x213, x214, x215, x216, x217, x218, x219, x220, x221, x222, x223, x224, x225, x226, x227, x228, x229, x230, x231, x232, x233, x234, x235, x236, x237, x238, x239, x240, x241, x242, x243, x244, x245, x246, x247, x248, x249, x250, x251, x252, x253, x254, x255, x256, x257, x258, x259, x260, x261, x262, x263, x264, x265, x266, x267, x268, x269, x270, x271, x272, x273, x274, x275, x276, x277, x278, x279, x280, x281, x282, x283, x284, x285, x286] D)) (h14 : a.eval (.tmp 14) = z14) : ∃ z118 z119 z120 z121 z122 z123 z124 z125 z126 z127 z128 z129 z130 z131 z132 z133 z134, a = ⟨#[x0, x1, x2, x3, x4, x5, x6, x7, x8, x9, x10, x11, x12, x13, z14, x15, x16, x17, x18, x19, x20, x21, x22, x23, x24, x25, x26, x27, x28, x29, x30, x31, x32, x33, x34, x35, x36, x37, x38, x39, x40, x41, x42, x43, x44, x45, x46, x47, x48, x49, x50, x51, x52, x53, x54, x55, x56, x57, x58, x59, x60, x61, x62, x63, x64, x65, x66, x67, x68, x69, x70, x71, x72, x73, x74, x75, x76, x77, x78, x79, x80, x81, x82, x83, x84, x85, x86, x87, x88, x89, x90, x91, x92, x93, x94, x95, x96, x97, x98, x99, x100, x101, x102, x103, x104, x105, x106, x107, x108, x109, x110, x111, x112, x113, x114, x115, x116, x117, z118, z119, z120, z121, z122, z123, z124, z125, z126, z127, z128, z129, z130, z131, z132, z133, z134, x135, x136, x137, x138, x139, x140, x141, x142, x143, x144, x145, x146, x147, x148, x149, x150, x151, x152, x153, x154, x155, x156, x157, x158, x159, x160, x161, x162, x163, x164, x165, x166, x167, x168, x169, x170, x171, x172, x173, x174, x175, x176, x177, x178, x179, x180, x181, x182, x183, x184, x185, x186, x187, x188, x189, x190, x191, x192, x193, x194, x195, x196, x197, x198, x199, x200, x201, x202, x203, x204, x205, x206, x207, x208, x209, x210, x211, x212, x213, x214, x215, x216, x217, x218, x219, x220, x221, x222, x223, x224, x225, x226, x227, x228, x229, x230, x231, x232, x233, x234, x235, x236, x237, x238, x239, x240, x241, x242, x243, x244, x245, x246, x247, x248, x249, x250, x251, x252, x253, x254, x255, x256, x257, x258, x259, x260, x261, x262, x263, x264, x265, x266, x267, x268, x269, x270, x271, x272, x273, x274, x275, x276, x277, x278, x279, x280, x281, x282, x283, x284, x285, x286], D⟩ := by
 subst h14
 exact ⟨a.eval (.tmp 118), a.eval (.tmp 119), a.eval (.tmp 120), a.eval (.tmp 121), a.eval (.tmp 122), a.eval (.tmp 123), a.eval (.tmp 124), a.eval (.tmp 125), a.eval (.tmp 126), a.eval (.tmp 127), a.eval (.tmp 128), a.eval (.tmp 129), a.eval (.tmp 130), a.eval (.tmp 131), a.eval (.tmp 132), a.eval (.tmp 133), a.eval (.tmp 134), (turn_gen [14, 118, 119, 120, 121, 122, 123, 124, 125, 126, 127, 128, 129, 130, 131, 132, 133, 134] (by kernel_rfl) (by kernel_rfl) hl.1 hl.2.1 hl.2.2).trans (by kernel_rfl)⟩
set_option maxHeartbeats 3200000 in
theorem turn86_32 {x0 x1 x2 x3 x4 x5 x6 x7 x8 x9 x10 x11 x12 x13 x14 x15 x16 x17 x18 x19 x20 x21 x22 x23 x24 x25 x26 x27 x28 x29 x30 x31 x32 x33 x34 x35 x36 x37 x38 x39 x40 x41 x42 x43 x44 x45 x46 x47 x48 x49 x50 x51 x52 x53 x54 x55 x56 x57 x58 x59 x60 x61 x62 x63 x64 x65 x66 x67 x68 x69 x70 x71 x72 x73 x74 x75 x76 x77 x78 x79 x80 x81 x82 x83 x84 x85 x86 x87 x88 x89 x90 x91 x92 x93 x94 x95 x96 x97 x98 x99 x100 x101 x102 x103 x104 x105 x106 x107 x108 x109 x110 x111 x112 x113 x114 x115 x116 x117 x118 x119 x120 x121 x122 x123 x124 x125 x126 x127 x128 x129 x130 x131 x132 x133 x134 x135 x136 x137 x138 x139 x140 x141 x142 x143 x144 x145 x146 x147 x148 x149 x150 x151 x152 x153 x154 x155 x156 x157 x158 x159 x160 x161 x162 x163 x164 x165 x166 x167 x168 x169 x170 x171 x172 x173 x174 x175 x176 x177 x178 x179 x180 x181 x182 x183 x184 x185 x186 x187 x188 x189 x190 x191 x192 x193 x194 x195 x196 x197 x198 x199 x200 x201 x202 x203 x204 x205 x206 x207 x208 x209 x210 x211 x212 x213 x214 x215 x216 x217 x218 x219 x220 x221 x222 x223 x224 x225 x226 x227 x228 x229 x230 x231 x232 x233 x234 x235 x236 x237 x238 x239 x240 x241 x242 x243 x244 x245 x246 x247 x248 x249 x250 x251 x252 x253 x254 x255 x256 x257 x258 x259 x260 x261 x262 x263 x264 x265 x266 x267 x268 x269 x270 x271 x272 x273 x274 x275 x276 x277 x278 x279 x280 x281 x282 x283 x284 x285 x286 z15 : Value} {D : _} {a : Act} (hl : Left 287 ops86_32 a (Act.mk #[x0, x1, x2, x3, x4, x5, x6, x7, x8, x9, x10, x11, x12, x13, x14, x15, x16, x17, x18, x19, x20, x21, x22, x23, x24, x25, x26, x27, x28, x29, x30, x31, x32, x33, x34, x35, x36, x37, x38, x39, x40, x41, x42, x43, x44, x45, x46, x47, x48, x49, x50, x51, x52, x53, x54, x55, x56, x57, x58, x59, x60, x61, x62, x63, x64, x65, x66, x67, x68, x69, x70, x71, x72, x73, x74, x75, x76, x77, x78, x79, x80, x81, x82, x83, x84, x85, x86, x87, x88, x89, x90, x91, x92, x93, x94, x95, x96, x97, x98, x99, x100, x101, x102, x103, x104, x105, x106, x107, x108, x109, x110, x111, x112, x113, x114, x115, x116, x117, x118, x119, x120, x121, x122, x123, x124, x125, x126, x127, x128, x129, x130, x131, x132, x133, x134, x135, x136, x137, x138, x139, x140, x141, x142, x143, x144, x145, x146, x147, x148, x149, x150, x151, x152, x153, x154, x155, x156, x157, x158, x159, x160, x161, x162, x163, x164, x165, x166, x167, x168, x169, x170, x171, x172, x173, x174, x175, x176, x177, x178, x179, x180, x181, x182, x183, x184, x185, x186, x187, x188, x189, x190, x191, x192, x193, x194, x195, x196, x197, x198, x199, x200, x201, x202, x203, x204, x205, x206, x207, x208, x209, x210, x211, x212, x213, x214, x215, x216, x217, x218, x219, x220, x221, x222, x223, x224, x225, x226, x227, x228, x229, x230, x231, x232, x233, x234, x235, x236, x237, x238, x239, x240, x241, x242, x243, x244, x245, x246, x247, x248, x249, x250, x251, x252, x253, x254, x255, x256, x257, x258, x259, x260, x261, x262, x263, x264, x265, x266, x267, x268, x269, x270, x271, x272, x273, x274, x275, x276, x277, x278, x279, x280, x281, x282, x283, x284, x285, x286] D)) (h15 : a.eval (.tmp 15) = z15) : ∃ z135 z136 z137 z138 z139 z140 z141 z142 z143 z144 z145 z146 z147 z148 z149 z150 z151, a = ⟨#[x0, x1, x2, x3, x4, x5, x6, x7, x8, x9, x10, x11, x12, x13, x14, z15, x16, x17, x18, x19, x20, x21, x22, x23, x24, x25, x26, x27, x28, x29, x30, x31, x32, x33, x34, x35, x36, x37, x38, x39, x40, x41, x42, x43, x44, x45, x46, x47, x48, x49, x50, x51, x52, x53, x54, x55, x56, x57, x58, x59, x60, x61, x62, x63, x64, x65, x66, x67, x68, x69, x70, x71, x72, x73, x74, x75, x76, x77, x78, x79, x80, x81, x82, x83, x84, x85, x86, x87, x88, x89, x90, x91, x92, x93, x94, x95, x96, x97, x98, x99, x100, x101, x102, x103, x104, x105, x106, x107, x108, x109, x110, x111, x112, x113, x114, x115, x116, x117, x118, x119, x120, x121, x122, x123, x124, x125, x126, x127, x128, x129, x130, x131, x132, x133, x134, z135, z136, z137, z138, z139, z140, z141, z142, z143, z144, z145, z146, z147, z148, z149, z150, z151, x152, x153, x154, x155, x156, x157, x158, x159, x160, x161, x162, x163, x164, x165, x166, x167, x168, x169, x170, x171, x172, x173, x174, x175, x176, x177, x178, x179, x180, x181, x182, x183, x184, x185, x186, x187, x188, x189, x190, x191, x192, x193, x194, x195, x196, x197, x198, x199, x200, x201, x202, x203, x204, x205, x206, x207, x208, x209, x210, x211, x212, x213, x214, x215, x216, x217, x218, x219, x220, x221, x222, x223, x224, x225, x226, x227, x228, x229, x230, x231, x232, x233, x234, x235, x236, x237, x238, x239, x240, x241, x242, x243, x244, x245, x246, x247, x248, x249, x250, x251, x252, x253, x254, x255, x256, x257, x258, x259, x260, x261, x262, x263, x264, x265, x266, x267, x268, x269, x270, x271, x272, x273, x274, x275, x276, x277, x278, x279, x280, x281, x282, x283, x284, x285, x286], D⟩ := by
 subst h15
 exact ⟨a.eval (.tmp 135), a.eval (.tmp 136), a.eval (.tmp 137), a.eval (.tmp 138), a.eval (.tmp 139), a.eval (.tmp 140), a.eval (.tmp 141), a.eval (.tmp 142), a.eval (.tmp 143), a.eval (.tmp 144), a.eval (.tmp 145), a.eval (.tmp 146), a.eval (.tmp 147), a.eval (.tmp 148), a.eval (.tmp 149), a.eval (.tmp 150), a.eval (.tmp 151), (turn_gen [15, 135, 136, 137, 138, 139, 140, 141, 142, 143, 144, 145, 146, 147, 148, 149, 150, 151] (by kernel_rfl) (by kernel_rfl) hl.1 hl.2.1 hl.2.2).trans (by kernel_rfl)⟩
set_option maxHeartbeats 3200000 in
theorem turn86_33 {x0 x1 x2 x3 x4 x5 x6 x7 x8 x9 x10 x11 x12 x13 x14 x15 x16 x17 x18 x19 x20 x21 x22 x23 x24 x25 x26 x27 x28 x29 x30 x31 x32 x33 x34 x35 x36 x37 x38 x39 x40 x41 x42 x43 x44 x45 x46 x47 x48 x49 x50 x51 x52 x53 x54 x55 x56 x57 x58 x59 x60 x61 x62 x63 x64 x65 x66 x67 x68 x69 x70 x71 x72 x73 x74 x75 x76 x77 x78 x79 x80 x81 x82 x83 x84 x85 x86 x87 x88 x89 x90 x91 x92 x93 x94 x95 x96 x97 x98 x99 x100 x101 x102 x103 x104 x105 x106 x107 x108 x109 x110 x111 x112 x113 x114 x115 x116 x117 x118 x119 x120 x121 x122 x123 x124 x125 x126 x127 x128 x129 x130 x131 x132 x133 x134 x135 x136 x137 x138 x139 x140 x141 x142 x143 x144 x145 x146 x147 x148 x149 x150 x151 x152 x153 x154 x155 x156 x157 x158 x159 x160 x161 x162 x163 x164 x165 x166 x167 x168 x169 x170 x171 x172 x173 x174 x175 x176 x177 x178 x179 x180 x181 x182 x183 x184 x185 x186 x187 x188 x189 x190 x191 x192 x193 x194 x195 x196 x197 x198 x199 x200 x201 x202 x203 x204 x205 x206 x207 x208 x209 x210 x211 x212 x213 x214 x215 x216 x217 x218 x219 x220 x221 x222 x223 x224 x225 x226 x227 x228 x229 x230 x231 x232 x233 x234 x235 x236 x237 x238 x239 x240 x241 x242 x243 x244 x245 x246 x247 x248 x249 x250 x251 x252 x253 x254 x255 x256 x257 x258 x259 x260 x261 x262 x263 x264 x265 x266 x267 x268 x269 x270 x271 x272 x273 x274 x275 x276 x277 x278 x279 x280 x281 x282 x283 x284 x285 x286 : Value} {D : _} {a : Act} (hl : Left 287 ops86_33 a (Act.mk #[x0, x1, x2, x3, x4, x5, x6, x7, x8, x9, x10, x11, x12, x13, x14, x15, x16, x17, x18, x19, x20, x21, x22, x23, x24, x25, x26, x27, x28, x29, x30, x31, x32, x33, x34, x35, x36, x37, x38, x39, x40, x41, x42, x43, x44, x45, x46, x47, x48, x49, x50, x51, x52, x53, x54, x55, x56, x57, x58, x59, x60, x61, x62, x63, x64, x65, x66, x67, x68, x69, x70, x71, x72, x73, x74, x75, x76, x77, x78, x79, x80, x81, x82, x83, x84, x85, x86, x87, x88, x89, x90, x91, x92, x93, x94, x95, x96, x97, x98, x99, x100, x101, x102, x103, x104, x105, x106, x107, x108, x109, x110, x111, x112, x113, x114, x115, x116, x117, x118, x119, x120, x121, x122, x123, x124, x125, x126, x127, x128, x129, x130, x131, x132, x133, x134, x135, x136, x137, x138, x139, x140, x141, x142, x143, x144, x145, x146, x147, x148, x149, x150, x151, x152, x153, x154, x155, x156, x157, x158, x159, x160, x161, x162, x163, x164, x165, x166, x167, x168, x169, x170, x171, x172, x173, x174, x175, x176, x177, x178, x179, x180, x181, x182, x183, x184, x185, x186, x187, x188, x189, x190, x191, x192, x193, x194, x195, x196, x197, x198, x199, x200, x201, x202, x203, x204, x205, x206, x207, x208, x209, x210, x211, x212, x213, x214, x215, x216, x217, x218, x219, x220, x221, x222, x223, x224, x225, x226, x227, x228, x229, x230, x231, x232, x233, x234, x235, x236, x237, x238, x239, x240, x241, x242, x243, x244, x245, x246, x247, x248, x249, x250, x251, x252, x253, x254, x255, x256, x257, x258, x259, x260, x261, x262, x263, x264, x265, x266, x267, x268, x269, x270, x271, x272, x273, x274, x275, x276, x277, x278, x279, x280, x281, x282, x283, x284, x285, x286] D)) : ∃ z152 z153 z154 z155 z156 z157 z158 z159 z160 z161 z162 z163 z164 z165 z166, a = ⟨#[x0, x1, x2, x3, x4, x5, x6, x7, x8, x9, x10, x11, x12, x13, x14, x15, x16, x17, x18, x19, x20, x21, x22, x23, x24, x25, x26, x27, x28, x29, x30, x31, x32, x33, x34, x35, x36, x37, x38, x39, x40, x41, x42, x43, x44, x45, x46, x47, x48, x49, x50, x51, x52, x53, x54, x55, x56, x57, x58, x59, x60, x61, x62, x63, x64, x65, x66, x67, x68, x69, x70, x71, x72, x73, x74, x75, x76, x77, x78, x79, x80, x81, x82, x83, x84, x85, x86, x87, x88, x89, x90, x91, x92, x93, x94, x95, x96, x97, x98, x99, x100, x101, x102, x103, x104, x105, x106, x107, x108, x109, x110, x111, x112, x113, x114, x115, x116, x117, x118, x119, x120, x121, x122, x123, x124, x125, x126, x127, x128, x129, x130, x131, x132, x133, x134, x135, x136, x137, x138, x139, x140, x141, x142, x143, x144, x145, x146, x147, x148, x149, x150, x151, z152, z153, z154, z155, z156, z157, z158, z159, z160, z161, z162, z163, z164, z165, z166, x167, x168, x169, x170, x171, x172, x173, x174, x175, x176, x177, x178, x179, x180, x181, x182, x183, x184, x185, x186, x187, x188, x189, x190, x191, x192, x193, x194, x195, x196, x197, x198, x199, x200, x201, x202, x203, x204, x205, x206, x207, x208, x209, x210, x211, x212, x213, x214, x215, x216, x217, x218, x219, x220, x221, x222, x223, x224, x225, x226, x227, x228, x229, x230, x231, x232, x233, x234, x235, x236, x237, x238, x239, x240, x241, x242, x243, x244, x245, x246, x247, x248, x249, x250, x251, x252, x253, x254, x255, x256, x257, x258, x259, x260, x261, x262, x263, x264, x265, x266, x267, x268, x269, x270, x271, x272, x273, x274, x275, x276, x277, x278, x279, x280, x281, x282, x283, x284, x285, x286], D⟩ := by
 exact ⟨a.eval (.tmp 152), a.eval (.tmp 153), a.eval (.tmp 154), a.eval (.tmp 155), a.eval (.tmp 156), a.eval (.tmp 157), a.eval (.tmp 158), a.eval (.tmp 159), a.eval (.tmp 160), a.eval (.tmp 161), a.eval (.tmp 162), a.eval (.tmp 163), a.eval (.tmp 164), a.eval (.tmp 165), a.eval (.tmp 166), (turn_gen [152, 153, 154, 155, 156, 157, 158, 159, 160, 161, 162, 163, 164, 165, 166] (by kernel_rfl) (by kernel_rfl) hl.1 hl.2.1 hl.2.2).trans (by kernel_rfl)⟩
set_option maxHeartbeats 3200000 in
theorem turn86_34 {x0 x1 x2 x3 x4 x5 x6 x7 x8 x9 x10 x11 x12 x13 x14 x15 x16 x17 x18 x19 x20 x21 x22 x23 x24 x25 x26 x27 x28 x29 x30 x31 x32 x33 x34 x35 x36 x37 x38 x39 x40 x41 x42 x43 x44 x45 x46 x47 x48 x49 x50 x51 x52 x53 x54 x55 x56 x57 x58 x59 x60 x61 x62 x63 x64 x65 x66 x67 x68 x69 x70 x71 x72 x73 x74 x75 x76 x77 x78 x79 x80 x81 x82 x83 x84 x85 x86 x87 x88 x89 x90 x91 x92 x93 x94 x95 x96 x97 x98 x99 x100 x101 x102 x103 x104 x105 x106 x107 x108 x109 x110 x111 x112 x113 x114 x115 x116 x117 x118 x119 x120 x121 x122 x123 x124 x125 x126 x127 x128 x129 x130 x131 x132 x133 x134 x135 x136 x137 x138 x139 x140 x141 x142 x143 x144 x145 x146 x147 x148 x149 x150 x151 x152 x153 x154 x155 x156 x157 x158 x159 x160 x161 x162 x163 x164 x165 x166 x167 x168 x169 x170 x171 x172 x173 x174 x175 x176 x177 x178 x179 x180 x181 x182 x183 x184 x185 x186 x187 x188 x189 x190 x191 x192 x193 x194 x195 x196 x197 x198 x199 x200 x201 x202 x203 x204 x205 x206 x207 x208 x209 x210 x211 x212 x213 x214 x215 x216 x217 x218 x219 x220 x221 x222 x223 x224 x225 x226 x227 x228 x229 x230 x231 x232 x233 x234 x235 x236 x237 x238 x239 x240 x241 x242 x243 x244 x245 x246 x247 x248 x249 x250 x251 x252 x253 x254 x255 x256 x257 x258 x259 x260 x261 x262 x263 x264 x265 x266 x267 x268 x269 x270 x271 x272 x273 x274 x275 x276 x277 x278 x279 x280 x281 x282 x283 x284 x285 x286 z16 z17 z18 z19 z20 z21 z22 z23 : Value} {D : _} {a : Act} (hl : Left 287 ops86_34 a (Act.mk #[x0, x1, x2, x3, x4, x5, x6, x7, x8, x9, x10, x11, x12, x13, x14, x15, x16, x17, x18, x19, x20, x21, x22, x23, x24, x25, x26, x27, x28, x29, x30, x31, x32, x33, x34, x35, x36, x37, x38, x39, x40, x41, x42, x43, x44, x45, x46, x47, x48, x49, x50, x51, x52, x53, x54, x55, x56, x57, x58, x59, x60, x61, x62, x63, x64, x65, x66, x67, x68, x69, x70, x71, x72, x73, x74, x75, x76, x77, x78, x79, x80, x81, x82, x83, x84, x85, x86, x87, x88, x89, x90, x91, x92, x93, x94, x95, x96, x97, x98, x99, x100, x101, x102, x103, x104, x105, x106, x107, x108, x109, x110, x111, x112, x113, x114, x115, x116, x117, x118, x119, x120, x121, x122, x123, x124, x125, x126, x127, x128, x129, x130, x131, x132, x133, x134, x135, x136, x137, x138, x139, x140, x141, x142, x143, x144, x145, x146, x147, x148, x149, x150, x151, x152, x153, x154, x155, x156, x157, x158, x159, x160, x161, x162, x163, x164, x165, x166, x167, x168, x169, x170, x171, x172, x173, x174, x175, x176, x177, x178, x179, x180, x181, x182, x183, x184, x185, x186, x187, x188, x189, x190, x191, x192, x193, x194, x195, x196, x197, x198, x199, x200, x201, x202, x203, x204, x205, x206, x207, x208, x209, x210, x211, x212, x213, x214, x215, x216, x217, x218, x219, x220, x221, x222, x223, x224, x225, x226, x227, x228, x229, x230, x231, x232, x233, x234, x235, x236, x237, x238, x239, x240, x241, x242, x243, x244, x245, x246, x247, x248, x249, x250, x251, x252, x253, x254, x255, x256, x257, x258, x259, x260, x261, x262, x263, x264, x265, x266, x267, x268, x269, x270, x271, x272, x273, x274, x275, x276, x277, x278, x279, x280, x281, x282, x283, x284, x285, x286] D)) (h16 : a.eval (.tmp 16) = z16) (h17 : a.eval (.tmp 17) = z17) (h18 : a.eval (.tmp 18) = z18) (h19 : a.eval (.tmp 19) = z19) (h20 : a.eval (.tmp 20) = z20) (h21 : a.eval (.tmp 21) = z21) (h22 : a.eval (.tmp 22) = z22) (h23 : a.eval (.tmp 23) = z23) : ∃ z167 z168 z169 z170 z171 z172 z173 z174 z175 z176 z177 z178 z179 z180 z181 z182, a = ⟨#[x0, x1, x2, x3, x4, x5, x6, x7, x8, x9, x10, x11, x12, x13, x14, x15, z16, z17, z18, z19, z20, z21, z22, z23, x24, x25, x26, x27, x28, x29, x30, x31, x32, x33, x34, x35, x36, x37, x38, x39, x40, x41, x42, x43, x44, x45, x46, x47, x48, x49, x50, x51, x52, x53, x54, x55, x56, x57, x58, x59, x60, x61, x62, x63, x64, x65, x66, x67, x68, x69, x70, x71, x72, x73, x74, x75, x76, x77, x78, x79, x80, x81, x82, x83, x84, x85, x86, x87, x88, x89, x90, x91, x92, x93, x94, x95, x96, x97, x98, x99, x100, x101, x102, x103, x104, x105, x106, x107, x108, x109, x110, x111, x112, x113, x114, x115, x116, x117, x118, x119, x120, x121, x122, x123, x124, x125, x126, x127, x128, x129, x130, x131, x132, x133, x134, x135, x136, x137, x138, x139, x140, x141, x142, x143, x144, x145, x146, x147, x148, x149, x150, x151, x152, x153, x154, x155, x156, x157, x158, x159, x160, x161, x162, x163, x164, x165, x166, z167, z168, z169, z170, z171, z172, z173, z174, z175, z176, z177, z178, z179, z180, z181, z182, x183, x184, x185, x186, x187, x188, x189, x190, x191, x192, x193, x194, x195, x196, x197, x198, x199, x200, x201, x202, x203, x204, x205, x206, x207, x208, x209, x210, x211, x212, x213, x214, x215, x216, x217, x218, x219, x220, x221, x222, x223, x224, x225, x226, x227, x228, x229, x230, x231, x232, x233, x234, x235, x236, x237, x238, x239, x240, x241, x242, x243, x244, x245, x246, x247, x248, x249, x250, x251, x252, x253, x254, x255, x256, x257, x258, x259, x260, x261, x262, x263, x264, x265, x266, x267, x268, x269, x270, x271, x272, x273, x274, x275, x276, x277, x278, x279, x280, x281, x282, x283, x284, x285, x286], D⟩ := by
 subst h16
 subst h17
 subst h18
 subst h19
 subst h20
 subst h21
 subst h22
 subst h23
 exact ⟨a.eval (.tmp 167), a.eval (.tmp 168), a.eval (.tmp 169), a.eval (.tmp 170), a.eval (.tmp 171), a.eval (.tmp 172), a.eval (.tmp 173), a.eval (.tmp 174), a.eval (.tmp 175), a.eval (.tmp 176), a.eval (.tmp 177), a.eval (.tmp 178), a.eval (.tmp 179), a.eval (.tmp 180), a.eval (.tmp 181), a.eval (.tmp 182), (turn_gen [16, 17, 18, 19, 20, 21, 22, 23, 167, 168, 169, 170, 171, 172, 173, 174, 175, 176, 177, 178, 179, 180, 181, 182] (by kernel_rfl) (by kernel_rfl) hl.1 hl.2.1 hl.2.2).trans (by kernel_rfl)⟩
set_option maxHeartbeats 3200000 in
theorem turn86_38 {x0 x1 x2 x3 x4 x5 x6 x7 x8 x9 x10 x11 x12 x13 x14 x15 x16 x17 x18 x19 x20 x21 x22 x23 x24 x25 x26 x27 x28 x29 x30 x31 x32 x33 x34 x35 x36 x37 x38 x39 x40 x41 x42 x43 x44 x45 x46 x47 x48 x49 x50 x51 x52 x53 x54 x55 x56 x57 x58 x59 x60 x61 x62 x63 x64 x65 x66 x67 x68 x69 x70 x71 x72 x73 x74 x75 x76 x77 x78 x79 x80 x81 x82 x83 x84 x85 x86 x87 x88 x89 x90 x91 x92 x93 x94 x95 x96 x97 x98 x99 x100 x101 x102 x103 x104 x105 x106 x107 x108 x109 x110 x111 x112 x113 x114 x115 x116 x117 x118 x119 x120 x121 x122 x123 x124 x125 x126 x127 x128 x129 x130 x131 x132 x133 x134 x135 x136 x137 x138 x139 x140 x141 x142 x143 x144 x145 x146 x147 x148 x149 x150 x151 x152 x153 x154 x155 x156 x157 x158 x159 x160 x161 x162 x163 x164 x165 x166 x167 x168 x169 x170 x171 x172 x173 x174 x175 x176 x177 x178 x179 x180 x181 x182 x183 x184 x185 x186 x187 x188 x189 x190 x191 x192 x193 x194 x195 x196 x197 x198 x199 x200 x201 x202 x203 x204 x205 x206 x207 x208 x209 x210 x211 x212 x213 x214 x215 x216 x217 x218 x219 x220 x221 x222 x223 x224 x225 x226 x227 x228 x229 x230 x231 x232 x233 x234 x235 x236 x237 x238 x239 x240 x241 x242 x243 x244 x245 x246 x247 x248 x249 x250 x251 x252 x253 x254 x255 x256 x257 x258 x259 x260 x261 x262 x263 x264 x265 x266 x267 x268 x269 x270 x271 x272 x273 x274 x275 x276 x277 x278 x279 x280 x281 x282 x283 x284 x285 x286 z25 : Value} {D : _} {a : Act} (hl : Left 287 ops86_38 a (Act.mk #[x0, x1, x2, x3, x4, x5, x6, x7, x8, x9, x10, x11, x12, x13, x14, x15, x16, x17, x18, x19, x20, x21, x22, x23, x24, x25, x26, x27, x28, x29, x30, x31, x32, x33, x34, x35, x36, x37, x38, x39, x40, x41, x42, x43, x44, x45, x46, x47, x48, x49, x50, x51, x52, x53, x54, x55, x56, x57, x58, x59, x60, x61, x62, x63, x64, x65, x66, x67, x68, x69, x70, x71, x72, x73, x74, x75, x76, x77, x78, x79, x80, x81, x82, x83, x84, x85, x86, x87, x88, x89, x90, x91, x92, x93, x94, x95, x96, x97, x98, x99, x100, x101, x102, x103, x104, x105, x106, x107, x108, x109, x110, x111, x112, x113, x114, x115, x116, x117, x118, x119, x120, x121, x122, x123, x124, x125, x126, x127, x128, x129, x130, x131, x132, x133, x134, x135, x136, x137, x138, x139, x140, x141, x142, x143, x144, x145, x146, x147, x148, x149, x150, x151, x152, x153, x154, x155, x156, x157, x158, x159, x160, x161, x162, x163, x164, x165, x166, x167, x168, x169, x170, x171, x172, x173, x174, x175, x176, x177, x178, x179, x180, x181, x182, x183, x184, x185, x186, x187, x188, x189, x190, x191, x192, x193, x194, x195, x196, x197, x198, x199, x200, x201, x202, x203, x204, x205, x206, x207, x208, x209, x210, x211, x212, x213, x214, x215, x216, x217, x218, x219, x220, x221, x222, x223, x224, x225, x226, x227, x228, x229, x230, x231, x232, x233, x234, x235, x236, x237, x238, x239, x240, x241, x242, x243, x244, x245, x246, x247, x248, x249, x250, x251, x252, x253, x254, x255, x256, x257, x258, x259, x260, x261, x262, x263, x264, x265, x266, x267, x268, x269, x270, x271, x272, x273, x274, x275, x276, x277, x278, x279, x280, x281, x282, x283, x284, x285, x286] D)) (h25 : a.eval (.tmp 25) = z25) : ∃ z187 z188 z189 z190 z191 z192 z193 z194 z195 z196 z197 z198 z199 z200 z201 z202 z203 z204 z205 z206 z207 z208 z209 z210 z211 z212 z213, a = ⟨#[x0, x1, x2, x3, x4, x5, x6, x7, x8, x9, x10, x11, x12, x13, x14, x15, x16, x17, x18, x19, x20, x21, x22, x23, x24, z25, x26, x27, x28, x29, x30, x31, x32, x33, x34, x35, x36, x37, x38, x39, x40, x41, x42, x43, x44, x45, x46, x47, x48, x49, x50, x51, x52, x53, x54, x55, x56, x57, x58, x59, x60, x61, x62, x63, x64, x65, x66, x67, x68, x69, x70, x71, x72, x73, x74, x75, x76, x77, x78, x79, x80, x81, x82, x83, x84, x85, x86, x87, x88, x89, x90, x91, x92, x93, x94, x95, x96, x97, x98, x99, x100, x101, x102, x103, x104, x105, x106, x107, x108, x109, x110, x111, x112, x113, x114, x115, x116, x117, x118, x119, x120, x121, x122, x123, x124, x125, x126, x127, x128, x129, x130, x131, x132, x133, x134, x135, x136, x137, x138, x139, x140, x141, x142, x143, x144, x145, x146, x147, x148, x149, x150, x151, x152, x153, x154, x155, x156, x157, x158, x159, x160, x161, x162, x163, x164, x165, x166, x167, x168, x169, x170, x171, x172, x173, x174, x175, x176, x177, x178, x179, x180, x181, x182, x183, x184, x185, x186, z187, z188, z189, z190, z191, z192, z193, z194, z195, z196, z197, z198, z199, z200, z201, z202, z203, z204, z205, z206, z207, z208, z209, z210, z211, z212, z213, x214, x215, x216, x217, x218, x219, x220, x221, x222, x223, x224, x225, x226, x227, x228, x229, x230, x231, x232, x233, x234, x235, x236, x237, x238, x239, x240, x241, x242, x243, x244, x245, x246, x247, x248, x249, x250, x251, x252, x253, x254, x255, x256, x257, x258, x259, x260, x261, x262, x263, x264, x265, x266, x267, x268, x269, x270, x271, x272, x273, x274, x275, x276, x277, x278, x279, x280, x281, x282, x283, x284, x285, x286], D⟩ := by
 subst h25
 exact ⟨a.eval (.tmp 187), a.eval (.tmp 188), a.eval (.tmp 189), a.eval (.tmp 190), a.eval (.tmp 191), a.eval (.tmp 192), a.eval (.tmp 193), a.eval (.tmp 194), a.eval (.tmp 195), a.eval (.tmp 196), a.eval (.tmp 197), a.eval (.tmp 198), a.eval (.tmp 199), a.eval (.tmp 200), a.eval (.tmp 201), a.eval (.tmp 202), a.eval (.tmp 203), a.eval (.tmp 204), a.eval (.tmp 205), a.eval (.tmp 206), a.eval (.tmp 207), a.eval (.tmp 208), a.eval (.tmp 209), a.eval (.tmp 210), a.eval (.tmp 211), a.eval (.tmp 212), a.eval (.tmp 213), (turn_gen [25, 187, 188, 189, 190, 191, 192, 193, 194, 195, 196, 197, 198, 199, 200, 201, 202, 203, 204, 205, 206, 207, 208, 209, 210, 211, 212, 213] (by kernel_rfl) (by kernel_rfl) hl.1 hl.2.1 hl.2.2).trans (by kernel_rfl)⟩
set_option maxHeartbeats 3200000 in
theorem turn86_39 {x0 x1 x2 x3 x4 x5 x6 x7 x8 x9 x10 x11 x12 x13 x14 x15 x16 x17 x18 x19 x20 x21 x22 x23 x24 x25 x26 x27 x28 x29 x30 x31 x32 x33 x34 x35 x36 x37 x38 x39 x40 x41 x42 x43 x44 x45 x46 x47 x48 x49 x50 x51 x52 x53 x54 x55 x56 x57 x58 x59 x60 x61 x62 x63 x64 x65 x66 x67 x68 x69 x70 x71 x72 x73 x74 x75 x76 x77 x78 x79 x80 x81 x82 x83 x84 x85 x86 x87 x88 x89 x90 x91 x92 x93 x94 x95 x96 x97 x98 x99 x100 x101 x102 x103 x104 x105 x106 x107 x108 x109 x110 x111 x112 x113 x114 x115 x116 x117 x118 x119 x120 x121 x122 x123 x124 x125 x126 x127 x128 x129 x130 x131 x132 x133 x134 x135 x136 x137 x138 x139 x140 x141 x142 x143 x144 x145 x146 x147 x148 x149 x150 x151 x152 x153 x154 x155 x156 x157 x158 x159 x160 x161 x162 x163 x164 x165 x166 x167 x168 x169 x170 x171 x172 x173 x174 x175 x176 x177 x178 x179 x180 x181 x182 x183 x184 x185 x186 x187 x188 x189 x190 x191 x192 x193 x194 x195 x196 x197 x198 x199 x200 x201 x202 x203 x204 x205 x206 x207 x208 x209 x210 x211 x212 x213 x214 x215 x216 x217 x218 x219 x220 x221 x222 x223 x224 x225 x226 x227 x228 x229 x230 x231 x232 x233 x234 x235 x236 x237 x238 x239 x240 x241 x242 x243 x244 x245 x246 x247 x248 x249 x250 x251 x252 x253 x254 x255 x256 x257 x258 x259 x260 x261 x262 x263 x264 x265 x266 x267 x268 x269 x270 x271 x272 x273 x274 x275 x276 x277 x278 x279 x280 x281 x282 x283 x284 x285 x286 z26 : Value} {D : _} {a : Act} (hl : Left 287 ops86_39 a (Act.mk #[x0, x1, x2, x3, x4, x5, x6, x7, x8, x9, x10, x11, x12, x13, x14, x15, x16, x17, x18, x19, x20, x21, x22, x23, x24, x25, x26, x27, x28, x29, x30, x31, x32, x33, x34, x35, x36, x37, x38, x39, x40, x41, x42, x43, x44, x45, x46, x47, x48, x49, x50, x51, x52, x53, x54, x55, x56, x57, x58, x59, x60, x61, x62, x63, x64, x65, x66, x67, x68, x69, x70, x71, x72, x73, x74, x75, x76, x77, x78, x79, x80, x81, x82, x83, x84, x85, x86, x87, x88, x89, x90, x91, x92, x93, x94, x95, x96, x97, x98, x99, x100, x101, x102, x103, x104, x105, x106, x107, x108, x109, x110, x111, x112, x113, x114, x115, x116, x117, x118, x119, x120, x121, x122, x123, x124, x125, x126, x127, x128, x129, x130, x131, x132, x133, x134, x135, x136, x137, x138, x139, x140, x141, x142, x143, x144, x145, x146, x147, x148, x149, x150, x151, x152, x153, x154, x155, x156, x157, x158, x159, x160, x161, x162, x163, x164, x165, x166, x167, x168, x169, x170, x171, x172, x173, x174, x175, x176, x177, x178, x179, x180, x181, x182, x183, x184, x185, x186, x187, x188, x189, x190, x191, x192, x193, x194, x195, x196, x197, x198, x199, x200, x201, x202, x203, x204, x205, x206, x207, x208, x209, x210, x211, x212, x213, x214, x215, x216, x217, x218, x219, x220, x221, x222, x223, x224, x225, x226, x227, x228, x229, x230, x231, x232, x233, x234, x235, x236, x237, x238, x239, x240, x241, x242, x243, x244, x245, x246, x247, x248, x249, x250, x251, x252, x253, x254, x255, x256, x257, x258, x259, x260, x261, x262, x263, x264, x265, x266, x267, x268, x269, x270, x271, x272, x273, x274, x275, x276, x277, x278, x279, x280, x281, x282, x283, x284, x285, x286] D)) (h26 : a.eval (.tmp 26) = z26) : ∃ z214 z215 z216 z217 z218 z219 z220 z221 z222 z223 z224 z225 z226 z227 z228 z229 z230 z231 z232 z233, a = ⟨#[x0, x1, x2, x3, x4, x5, x6, x7, x8, x9, x10, x11, x12, x13, x14, x15, x16, x17, x18, x19, x20, x21, x22, x23, x24, x25, z26, x27, x28, x29, x30, x31, x32, x33, x34, x35, x36, x37, x38, x39, x40, x41, x42, x43, x44, x45, x46, x47, x48, x49, x50, x51, x52, x53, x54, x55, x56, x57, x58, x59, x60, x61, x62, x63, x64, x65, x66, x67, x68, x69, x70, x71, x72, x73, x74, x75, x76, x77, x78, x79, x80, x81, x82, x83, x84, x85, x86, x87, x88, x89, x90, x91, x92, x93, x94, x95, x96, x97, x98, x99, x100, x101, x102, x103, x104, x105, x106, x107, x108, x109, x110, x111, x112, x113, x114, x115, x116, x117, x118, x119, x120, x121, x122, x123, x124, x125, x126, x127, x128, x129, x130, x131, x132, x133, x134, x135, x136, x137, x138, x139, x140, x141, x142, x143, x144, x145, x146, x147, x148, x149, x150, x151, x152, x153, x154, x155, x156, x157, x158, x159, x160, x161, x162, x163, x164, x165, x166, x167, x168, x169, x170, x171, x172, x173, x174, x175, x176, x177, x178, x179, x180, x181, x182, x183, x184, x185, x186, x187, x188, x189, x190, x191, x192, x193, x194, x195, x196, x197, x198, x199, x200, x201, x202, x203, x204, x205, x206, x207, x208, x209, x210, x211, x212, x213, z214, z215, z216, z217, z218, z219, z220, z221, z222, z223, z224, z225, z226, z227, z228, z229, z230, z231, z232, z233, x234, x235, x236, x237, x238, x239, x240, x241, x242, x243, x244, x245, x246, x247, x248, x249, x250, x251, x252, x253, x254, x255, x256, x257, x258, x259, x260, x261, x262, x263, x264, x265, x266, x267, x268, x269, x270, x271, x272, x273, x274, x275, x276, x277, x278, x279, x280, x281, x282, x283, x284, x285, x286], D⟩ := by
 subst h26
 exact ⟨a.eval (.tmp 214), a.eval (.tmp 215), a.eval (.tmp 216), a.eval (.tmp 217), a.eval (.tmp 218), a.eval (.tmp 219), a.eval (.tmp 220), a.eval (.tmp 221), a.eval (.tmp 222), a.eval (.tmp 223), a.eval (.tmp 224), a.eval (.tmp 225), a.eval (.tmp 226), a.eval (.tmp 227), a.eval (.tmp 228), a.eval (.tmp 229), a.eval (.tmp 230), a.eval (.tmp 231), a.eval (.tmp 232), a.eval (.tmp 233), (turn_gen [26, 214, 215, 216, 217, 218, 219, 220, 221, 222, 223, 224, 225, 226, 227, 228, 229, 230, 231, 232, 233] (by kernel_rfl) (by kernel_rfl) hl.1 hl.2.1 hl.2.2).trans (by kernel_rfl)⟩
set_option maxHeartbeats 3200000 in
theorem turn86_44 {x0 x1 x2 x3 x4 x5 x6 x7 x8 x9 x10 x11 x12 x13 x14 x15 x16 x17 x18 x19 x20 x21 x22 x23 x24 x25 x26 x27 x28 x29 x30 x31 x32 x33 x34 x35 x36 x37 x38 x39 x40 x41 x42 x43 x44 x45 x46 x47 x48 x49 x50 x51 x52 x53 x54 x55 x56 x57 x58 x59 x60 x61 x62 x63 x64 x65 x66 x67 x68 x69 x70 x71 x72 x73 x74 x75 x76 x77 x78 x79 x80 x81 x82 x83 x84 x85 x86 x87 x88 x89 x90 x91 x92 x93 x94 x95 x96 x97 x98 x99 x100 x101 x102 x103 x104 x105 x106 x107 x108 x109 x110 x111 x112 x113 x114 x115 x116 x117 x118 x119 x120 x121 x122 x123 x124 x125 x126 x127 x128 x129 x130 x131 x132 x133 x134 x135 x136 x137 x138 x139 x140 x141 x142 x143 x144 x145 x146 x147 x148 x149 x150 x151 x152 x153 x154 x155 x156 x157 x158 x159 x160 x161 x162 x163 x164 x165 x166 x167 x168 x169 x170 x171 x172 x173 x174 x175 x176 x177 x178 x179 x180 x181 x182 x183 x184 x185 x186 x187 x188 x189 x190 x191 x192 x193 x194 x195 x196 x197 x198 x199 x200 x201 x202 x203 x204 x205 x206 x207 x208 x209 x210 x211 x212 x213 x214 x215 x216 x217 x218 x219 x220 x221 x222 x223 x224 x225 x226 x227 x228 x229 x230 x231 x232 x233 x234 x235 x236 x237 x238 x239 x240 x241 x242 x243 x244 x245 x246 x247 x248 x249 x250 x251 x252 x253 x254 x255 x256 x257 x258 x259 x260 x261 x262 x263 x264 x265 x266 x267 x268 x269 x270 x271 x272 x273 x274 x275 x276 x277 x278 x279 x280 x281 x282 x283 x284 x285 x286 : Value} {D : _} {a : Act} (hl : Left 287 ops86_44 a (Act.mk #[x0, x1, x2, x3, x4, x5, x6, x7, x8, x9, x10, x11, x12, x13, x14, x15, x16, x17, x18, x19, x20, x21, x22, x23, x24, x25, x26, x27, x28, x29, x30, x31, x32, x33, x34, x35, x36, x37, x38, x39, x40, x41, x42, x43, x44, x45, x46, x47, x48, x49, x50, x51, x52, x53, x54, x55, x56, x57, x58, x59, x60, x61, x62, x63, x64, x65, x66, x67, x68, x69, x70, x71, x72, x73, x74, x75, x76, x77, x78, x79, x80, x81, x82, x83, x84, x85, x86, x87, x88, x89, x90, x91, x92, x93, x94, x95, x96, x97, x98, x99, x100, x101, x102, x103, x104, x105, x106, x107, x108, x109, x110, x111, x112, x113, x114, x115, x116, x117, x118, x119, x120, x121, x122, x123, x124, x125, x126, x127, x128, x129, x130, x131, x132, x133, x134, x135, x136, x137, x138, x139, x140, x141, x142, x143, x144, x145, x146, x147, x148, x149, x150, x151, x152, x153, x154, x155, x156, x157, x158, x159, x160, x161, x162, x163, x164, x165, x166, x167, x168, x169, x170, x171, x172, x173, x174, x175, x176, x177, x178, x179, x180, x181, x182, x183, x184, x185, x186, x187, x188, x189, x190, x191, x192, x193, x194, x195, x196, x197, x198, x199, x200, x201, x202, x203, x204, x205, x206, x207, x208, x209, x210, x211, x212, x213, x214, x215, x216, x217, x218, x219, x220, x221, x222, x223, x224, x225, x226, x227, x228, x229, x230, x231, x232, x233, x234, x235, x236, x237, x238, x239, x240, x241, x242, x243, x244, x245, x246, x247, x248, x249, x250, x251, x252, x253, x254, x255, x256, x257, x258, x259, x260, x261, x262, x263, x264, x265, x266, x267, x268, x269, x270, x271, x272, x273, x274, x275, x276, x277, x278, x279, x280, x281, x282, x283, x284, x285, x286] D)) : ∃ z261 z262 z263 z264 z265 z266, a = ⟨#[x0, x1, x2, x3, x4, x5, x6, x7, x8, x9, x10, x11, x12, x13, x14, x15, x16, x17, x18, x19, x20, x21, x22, x23, x24, x25, x26, x27, x28, x29, x30, x31, x32, x33, x34, x35, x36, x37, x38, x39, x40, x41, x42, x43, x44, x45, x46, x47, x48, x49, x50, x51, x52, x53, x54, x55, x56, x57, x58, x59, x60, x61, x62, x63, x64, x65, x66, x67, x68, x69, x70, x71, x72, x73, x74, x75, x76, x77, x78, x79, x80, x81, x82, x83, x84, x85, x86, x87, x88, x89, x90, x91, x92, x93, x94, x95, x96, x97, x98, x99, x100, x101, x102, x103, x104, x105, x106, x107, x108, x109, x110, x111, x112, x113, x114, x115, x116, x117, x118, x119, x120, x121, x122, x123, x124, x125, x126, x127, x128, x129, x130, x131, x132, x133, x134, x135, x136, x137, x138, x139, x140, x141, x142, x143, x144, x145, x146, x147, x148, x149, x150, x151, x152, x153, x154, x155, x156, x157, x158, x159, x160, x161, x162, x163, x164, x165, x166, x167, x168, x169, x170, x171, x172, x173, x174, x175, x176, x177, x178, x179, x180, x181, x182, x183, x184, x185, x186, x187, x188, x189, x190, x191, x192, x193, x194, x195, x196, x197, x198, x199, x200, x201, x202, x203, x204, x205, x206, x207, x208, x209, x210, x211, x212, x213, x214, x215, x216, x217, x218, x219, x220, x221, x222, x223, x224, x225, x226, x227, x228, x229, x230, x231, x232, x233, x234, x235, x236, x237, x238, x239, x240, x241, x242, x243, x244, x245, x246, x247, x248, x249, x250, x251, x252, x253, x254, x255, x256, x257, x258, x259, x260, z261, z262, z263, z264, z265, z266, x267, x268, x269, x270, x271, x272, x273, x274, x275, x276, x277, x278, x279, x280, x281, x282, x283, x284, x285, x286], D⟩ := by
 exact ⟨a.eval (.tmp 261), a.eval (.tmp 262), a.eval (.tmp 263), a.eval (.tmp 264), a.eval (.tmp 265), a.eval (.tmp 266), (turn_gen [261, 262, 263, 264, 265, 266] (by kernel_rfl) (by kernel_rfl) hl.1 hl.2.1 hl.2.2).trans (by kernel_rfl)⟩
set_option maxHeartbeats 3200000 in
theorem turn86_50 {x0 x1 x2 x3 x4 x5 x6 x7 x8 x9 x10 x11 x12 x13 x14 x15 x16 x17 x18 x19 x20 x21 x22 x23 x24 x25 x26 x27 x28 x29 x30 x31 x32 x33 x34 x35 x36 x37 x38 x39 x40 x41 x42 x43 x44 x45 x46 x47 x48 x49 x50 x51 x52 x53 x54 x55 x56 x57 x58 x59 x60 x61 x62 x63 x64 x65 x66 x67 x68 x69 x70 x71 x72 x73 x74 x75 x76 x77 x78 x79 x80 x81 x82 x83 x84 x85 x86 x87 x88 x89 x90 x91 x92 x93 x94 x95 x96 x97 x98 x99 x100 x101 x102 x103 x104 x105 x106 x107 x108 x109 x110 x111 x112 x113 x114 x115 x116 x117 x118 x119 x120 x121 x122 x123 x124 x125 x126 x127 x128 x129 x130 x131 x132 x133 x134 x135 x136 x137 x138 x139 x140 x141 x142 x143 x144 x145 x146 x147 x148 x149 x150 x151 x152 x153 x154 x155 x156 x157 x158 x159 x160 x161 x162 x163 x164 x165 x166 x167 x168 x169 x170 x171 x172 x173 x174 x175 x176 x177 x178 x179 x180 x181 x182 x183 x184 x185 x186 x187 x188 x189 x190 x191 x192 x193 x194 x195 x196 x197 x198 x199 x200 x201 x202 x203 x204 x205 x206 x207 x208 x209 x210 x211 x212 x213 x214 x215 x216 x217 x218 x219 x220 x221 x222 x223 x224 x225 x226 x227 x228 x229 x230 x231 x232 x233 x234 x235 x236 x237 x238 x239 x240 x241 x242 x243 x244 x245 x246 x247 x248 x249 x250 x251 x252 x253 x254 x255 x256 x257 x258 x259 x260 x261 x262 x263 x264 x265 x266 x267 x268 x269 x270 x271 x272 x273 x274 x275 x276 x277 x278 x279 x280 x281 x282 x283 x284 x285 x286 : Value} {D : _} {a : Act} (hl : Left 287 ops86_50 a (Act.mk #[x0, x1, x2, x3, x4, x5, x6, x7, x8, x9, x10, x11, x12, x13, x14, x15, x16, x17, x18, x19, x20, x21, x22, x23, x24, x25, x26, x27, x28, x29, x30, x31, x32, x33, x34, x35, x36, x37, x38, x39, x40, x41, x42, x43, x44, x45, x46, x47, x48, x49, x50, x51, x52, x53, x54, x55, x56, x57, x58, x59, x60, x61, x62, x63, x64, x65, x66, x67, x68, x69, x70, x71, x72, x73, x74, x75, x76, x77, x78, x79, x80, x81, x82, x83, x84, x85, x86, x87, x88, x89, x90, x91, x92, x93, x94, x95, x96, x97, x98, x99, x100, x101, x102, x103, x104, x105, x106, x107, x108, x109, x110, x111, x112, x113, x114, x115, x116, x117, x118, x119, x120, x121, x122, x123, x124, x125, x126, x127, x128, x129, x130, x131, x132, x133, x134, x135, x136, x137, x138, x139, x140, x141, x142, x143, x144, x145, x146, x147, x148, x149, x150, x151, x152, x153, x154, x155, x156, x157, x158, x159, x160, x161, x162, x163, x164, x165, x166, x167, x168, x169, x170, x171, x172, x173, x174, x175, x176, x177, x178, x179, x180, x181, x182, x183, x184, x185, x186, x187, x188, x189, x190, x191, x192, x193, x194, x195, x196, x197, x198, x199, x200, x201, x202, x203, x204, x205, x206, x207, x208, x209, x210, x211, x212, x213, x214, x215, x216, x217, x218, x219, x220, x221, x222, x223, x224, x225, x226, x227, x228, x229, x230, x231, x232, x233, x234, x235, x236, x237, x238, x239, x240, x241, x242, x243, x244, x245, x246, x247, x248, x249, x250, x251, x252, x253, x254, x255, x256, x257, x258, x259, x260, x261, x262, x263, x264, x265, x266, x267, x268, x269, x270, x271, x272, x273, x274, x275, x276, x277, x278, x279, x280, x281, x282, x283, x284, x285, x286] D)) : ∃ z273 z274 z275 z276 z277 z278 z279 z280 z281 z282 z283 z284 z285, a = ⟨#[x0, x1, x2, x3, x4, x5, x6, x7, x8, x9, x10, x11, x12, x13, x14, x15, x16, x17, x18, x19, x20, x21, x22, x23, x24, x25, x26, x27, x28, x29, x30, x31, x32, x33, x34, x35, x36, x37, x38, x39, x40, x41, x42, x43, x44, x45, x46, x47, x48, x49, x50, x51, x52, x53, x54, x55, x56, x57, x58, x59, x60, x61, x62, x63, x64, x65, x66, x67, x68, x69, x70, x71, x72, x73, x74, x75, x76, x77, x78, x79, x80, x81, x82, x83, x84, x85, x86, x87, x88, x89, x90, x91, x92, x93, x94, x95, x96, x97, x98, x99, x100, x101, x102, x103, x104, x105, x106, x107, x108, x109, x110, x111, x112, x113, x114, x115, x116, x117, x118, x119, x120, x121, x122, x123, x124, x125, x126, x127, x128, x129, x130, x131, x132, x133, x134, x135, x136, x137, x138, x139, x140, x141, x142, x143, x144, x145, x146, x147, x148, x149, x150, x151, x152, x153, x154, x155, x156, x157, x158, x159, x160, x161, x162, x163, x164, x165, x166, x167, x168, x169, x170, x171, x172, x173, x174, x175, x176, x177, x178, x179, x180, x181, x182, x183, x184, x185, x186, x187, x188, x189, x190, x191, x192, x193, x194, x195, x196, x197, x198, x199, x200, x201, x202, x203, x204, x205, x206, x207, x208, x209, x210, x211, x212, x213, x214, x215, x216, x217, x218, x219, x220, x221, x222, x223, x224, x225, x226, x227, x228, x229, x230, x231, x232, x233, x234, x235, x236, x237, x238, x239, x240, x241, x242, x243, x244, x245, x246, x247, x248, x249, x250, x251, x252, x253, x254, x255, x256, x257, x258, x259, x260, x261, x262, x263, x264, x265, x266, x267, x268, x269, x270, x271, x272, z273, z274, z275, z276, z277, z278, z279, z280, z281, z282, z283, z284, z285, x286], D⟩ := by
 exact ⟨a.eval (.tmp 273), a.eval (.tmp 274), a.eval (.tmp 275), a.eval (.tmp 276), a.eval (.tmp 277), a.eval (.tmp 278), a.eval (.tmp 279), a.eval (.tmp 280), a.eval (.tmp 281), a.eval (.tmp 282), a.eval (.tmp 283), a.eval (.tmp 284), a.eval (.tmp 285), (turn_gen [273, 274, 275, 276, 277, 278, 279, 280, 281, 282, 283, 284, 285] (by kernel_rfl) (by kernel_rfl) hl.1 hl.2.1 hl.2.2).trans (by kernel_rfl)⟩
end Go.Proofs.YtoimjnmhinfbkaaGreatDoor
