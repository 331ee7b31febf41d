import Derived.Test.YtoimjnmhinfbkaaGreatDoorS04
namespace Go.Proofs.YtoimjnmhinfbkaaGreatDoor
open Go.RowKit
set_option maxRecDepth 100000
section
variable {ρ : Operand → Value} {w : World} {o : Oper} {x y : Operand}
theorem run_moved_as {v : Value} (ho : o.op = .assign x) (h : ρ x = v) : (execOp ρ o).run Tryz.prog w = .ok (.value v) w := by
 unfold execOp; rw [ho]; simp only [h]; rfl
theorem set_ne {L : Array Bool} {i j : Nat} (hij : i ≠ j) (h : (L.setIfInBounds i true).getD j false = true) : L.getD j false = true := by rwa [getD_set_ne false hij] at h
theorem run_nil {p : Addr} (ho : o.op = .nilCheck x) (h : ρ x = .pointer (some p)) : (execOp ρ o).run Tryz.prog w = .ok (.value (.pointer (some p))) w := by
 unfold execOp; rw [ho]; simp only [h]; go_simp
theorem run_add64 {a b z : Int} (hz : IntKind.i64.wrap (a + b) = z) (ho : o.op = .binOp .add 3 x y 3) (h1 : ρ x = .int .i64 a) (h2 : ρ y = .int .i64 b) : (execOp ρ o).run Tryz.prog w = .ok (.value (.int .i64 z)) w := by
 subst hz; unfold execOp; rw [ho]; simp only [h1, h2]; go_simp
theorem run_sub64 {a b z : Int} (hz : IntKind.i64.wrap (a - b) = z) (ho : o.op = .binOp .sub 3 x y 3) (h1 : ρ x = .int .i64 a) (h2 : ρ y = .int .i64 b) : (execOp ρ o).run Tryz.prog w = .ok (.value (.int .i64 z)) w := by
 subst hz; unfold execOp; rw [ho]; simp only [h1, h2]; go_simp
theorem run_mul64 {a b z : Int} (hz : IntKind.i64.wrap (a * b) = z) (ho : o.op = .binOp .mul 3 x y 3) (h1 : ρ x = .int .i64 a) (h2 : ρ y = .int .i64 b) : (execOp ρ o).run Tryz.prog w = .ok (.value (.int .i64 z)) w := by
 subst hz; unfold execOp; rw [ho]; simp only [h1, h2]; go_simp
theorem run_idx251 {b n : Nat} {k : Nat} {z : Int} (hz : z = (k : Int)) (hk : k < 64) (ho : o.op = .indexAddr 251 x y) (h1 : ρ x = .pointer (some ⟨b, n, none⟩)) (h2 : ρ y = .int .i64 z) : (execOp ρ o).run Tryz.prog w = .ok (.value (.pointer (some ⟨b, n + k, none⟩))) w := by
 subst hz
 have h0 : (0 : Int) ≤ (k : Int) := Int.natCast_nonneg _
 have h3 : (k : Int) < 64 := by omega
 unfold execOp; rw [ho]; simp only [h1, h2]; go_simp
theorem run_idx186 {b n : Nat} {k : Nat} {z : Int} (hz : z = (k : Int)) (hk : k < 64) (ho : o.op = .indexAddr 186 x y) (h1 : ρ x = .pointer (some ⟨b, n, none⟩)) (h2 : ρ y = .int .i64 z) : (execOp ρ o).run Tryz.prog w = .ok (.value (.pointer (some ⟨b, n + k, none⟩))) w := by
 subst hz
 have h0 : (0 : Int) ≤ (k : Int) := Int.natCast_nonneg _
 have h3 : (k : Int) < 64 := by omega
 unfold execOp; rw [ho]; simp only [h1, h2]; go_simp
theorem run_load5 {p : Addr} {z : Nat} (hc : w.cell? p = some (.int .u8 (z : Int))) (ho : o.op = .load 5 x) (h1 : ρ x = .pointer (some p)) : (execOp ρ o).run Tryz.prog w = .ok (.value (.int .u8 (z : Int))) w := by
 unfold execOp; rw [ho]; simp only [h1]; go_simp
theorem run_load184 {p : Addr} {u : BitVec 32} (hc : w.cell? p = some (U u)) (ho : o.op = .load 184 x) (h1 : ρ x = .pointer (some p)) : (execOp ρ o).run Tryz.prog w = .ok (.value (U u)) w := by
 unfold execOp; rw [ho]; simp only [h1]; go_simp
theorem run_store184 {p : Addr} {u : BitVec 32} {v : Value} (hc : w.cell? p = some v) (hf : w.frozen? p = false) (ho : o.op = .store 184 x y) (h1 : ρ x = .pointer (some p)) (h2 : ρ y = U u) : (execOp ρ o).run Tryz.prog w = .ok .skip (w.setCell p (U u)) := by
 unfold execOp; rw [ho]; simp only [h1, h2]; go_simp
end
noncomputable def ops197_5 : Array Oper := (Tryz.f197.body.bind (inCode 5)).getD #[]
def sl197_5 : Nat → Nat
 | 0 => 13
 | 1 => 14
 | 2 => 15
 | 3 => 16
 | 4 => 17
 | 5 => 18
 | 6 => 19
 | 7 => 20
 | 8 => 21
 | 9 => 22
 | 10 => 23
 | 11 => 24
 | 12 => 25
 | 13 => 26
 | 14 => 27
 | 15 => 28
 | 16 => 29
 | 17 => 30
 | 18 => 31
 | 19 => 32
 | 20 => 33
 | 21 => 34
 | 22 => 35
 | 23 => 36
 | 24 => 37
 | 25 => 38
 | 26 => 39
 | 27 => 40
 | 28 => 41
 | 29 => 42
 | 30 => 43
 | 31 => 44
 | 32 => 45
 | 33 => 46
 | 34 => 47
 | 35 => 48
 | 36 => 49
 | 37 => 50
 | 38 => 51
 | 39 => 1000001
 | _ => 0
def R197_5 (c : Nat) (q : Nat) (b : Nat) (ii : Nat) (z0 : Nat) (z1 : Nat) (z2 : Nat) (z3 : Nat) (y : Value) : Nat → Value → World → Prop
 | 0, v, _ => v = .int .i64 (ii : Int)
 | 1, v, _ => v = .pointer (some ⟨b, q, none⟩)
 | 2, v, _ => v = .int .i64 (ii : Int)
 | 3, v, _ => v = .int .i64 (4 * ii : Int)
 | 4, v, _ => v = .pointer (some ⟨b, q, none⟩)
 | 5, v, _ => v = .pointer (some ⟨b, q + 4 * ii, none⟩)
 | 6, v, _ => v = .int .u8 (z0 : Int)
 | 7, v, _ => v = U (BitVec.ofNat 32 z0)
 | 8, v, _ => v = U ((BitVec.ofNat 32 z0) <<< 24)
 | 9, v, _ => v = .pointer (some ⟨b, q, none⟩)
 | 10, v, _ => v = .int .i64 (ii : Int)
 | 11, v, _ => v = .int .i64 (4 * ii : Int)
 | 12, v, _ => v = .int .i64 (4 * ii + 1 : Int)
 | 13, v, _ => v = .pointer (some ⟨b, q, none⟩)
 | 14, v, _ => v = .pointer (some ⟨b, q + (4 * ii + 1), none⟩)
 | 15, v, _ => v = .int .u8 (z1 : Int)
 | 16, v, _ => v = U (BitVec.ofNat 32 z1)
 | 17, v, _ => v = U ((BitVec.ofNat 32 z1) <<< 16)
 | 18, v, _ => v = U (((BitVec.ofNat 32 z0) <<< 24) ||| ((BitVec.ofNat 32 z1) <<< 16))
 | 19, v, _ => v = .pointer (some ⟨b, q, none⟩)
 | 20, v, _ => v = .int .i64 (ii : Int)
 | 21, v, _ => v = .int .i64 (4 * ii : Int)
 | 22, v, _ => v = .int .i64 (4 * ii + 2 : Int)
 | 23, v, _ => v = .pointer (some ⟨b, q, none⟩)
 | 24, v, _ => v = .pointer (some ⟨b, q + (4 * ii + 2), none⟩)
 | 25, v, _ => v = .int .u8 (z2 : Int)
 | 26, v, _ => v = U (BitVec.ofNat 32 z2)
 | 27, v, _ => v = U ((BitVec.ofNat 32 z2) <<< 8)
 | 28, v, _ => v = U ((((BitVec.ofNat 32 z0) <<< 24) ||| ((BitVec.ofNat 32 z1) <<< 16)) ||| ((BitVec.ofNat 32 z2) <<< 8))
 | 29, v, _ => v = .pointer (some ⟨b, q, none⟩)
 | 30, v, _ => v = .int .i64 (ii : Int)
 | 31, v, _ => v = .int .i64 (4 * ii : Int)
 | 32, v, _ => v = .int .i64 (4 * ii + 3 : Int)
 | 33, v, _ => v = .pointer (some ⟨b, q, none⟩)
 | 34, v, _ => v = .pointer (some ⟨b, q + (4 * ii + 3), none⟩)
 | 35, v, _ => v = .int .u8 (z3 : Int)
 | 36, v, _ => v = U (BitVec.ofNat 32 z3)
 | 37, v, _ => v = U (((((BitVec.ofNat 32 z0) <<< 24) ||| ((BitVec.ofNat 32 z1) <<< 16)) ||| ((BitVec.ofNat 32 z2) <<< 8)) ||| (BitVec.ofNat 32 z3))
 | 38, v, _ => v = .pointer (some ⟨c, 0 + ii, none⟩)
 | 39, v, _ => True
 | _, _, _ => True
def J197_5 (W0 : World) (c : Nat) (q : Nat) (b : Nat) (ii : Nat) (z0 : Nat) (z1 : Nat) (z2 : Nat) (z3 : Nat) (y : Value) (L : Array Bool) (w : World) : Prop := (L.getD 39 false = false → w = W0) ∧ (L.getD 39 false = true → w = W0.setCell ⟨c, 0 + ii, none⟩ (U (((((BitVec.ofNat 32 z0) <<< 24) ||| ((BitVec.ofNat 32 z1) <<< 16)) ||| ((BitVec.ofNat 32 z2) <<< 8)) ||| (BitVec.ofNat 32 z3))))
theorem J197_5_any {W0 : World} {c : Nat} {q : Nat} {b : Nat} {ii : Nat} {z0 : Nat} {z1 : Nat} {z2 : Nat} {z3 : Nat} {y : Value} {L : Array Bool} {w : World} (i : Nat) (hi : i ≠ 39) (h : J197_5 W0 c q b ii z0 z1 z2 z3 y L w) : J197_5 W0 c q b ii z0 z1 z2 z3 y (L.setIfInBounds i true) w := by
 obtain ⟨h0, h1⟩ := h
 exact ⟨fun h => h0 (unset h), fun h => h1 (set_ne (by omega) h)⟩
set_option maxHeartbeats 3200000 in
theorem reg197_5 {ops : Array Oper} (ho : ops = ops197_5) {Q : Exit → Act → World → Prop} {a0 : Act} {w0 W0 : World} (hW : w0.drew = W0) {c : Nat} {q : Nat} {b : Nat} {ii : Nat} {z0 : Nat} {z1 : Nat} {z2 : Nat} {z3 : Nat} {y : Value} (hii : ii < 16) (hz0 : z0 < 256) (hz1 : z1 < 256) (hz2 : z2 < 256) (hz3 : z3 < 256) (c0 : W0.cell? ⟨b, q + 4 * ii, none⟩ = some (.int .u8 (z0 : Int))) (c1 : W0.cell? ⟨b, q + (4 * ii + 1), none⟩ = some (.int .u8 (z1 : Int))) (c2 : W0.cell? ⟨b, q + (4 * ii + 2), none⟩ = some (.int .u8 (z2 : Int))) (c3 : W0.cell? ⟨b, q + (4 * ii + 3), none⟩ = some (.int .u8 (z3 : Int))) (cw : W0.cell? ⟨c, 0 + ii, none⟩ = some y) (fw : W0.frozen? ⟨c, 0 + ii, none⟩ = false) (hs0 : a0.eval (.tmp 0) = .pointer (some ⟨b, q, none⟩)) (hs3 : a0.eval (.tmp 3) = .pointer (some ⟨c, 0, none⟩)) (hs4 : a0.eval (.tmp 4) = .int .i64 (ii : Int)) (hsz : a0.tmps.size = 97)
  (HK : ∀ a, a.defers = a0.defers → a.tmps.size = 97 → (∀ s, freeB ops197_5 s = true → a.eval (.tmp s) = a0.eval (.tmp s)) → (∀ i, i < 40 → R197_5 c q b ii z0 z1 z2 z3 y i (a.eval (.tmp (sl197_5 i))) (W0.setCell ⟨c, 0 + ii, none⟩ (U (((((BitVec.ofNat 32 z0) <<< 24) ||| ((BitVec.ofNat 32 z1) <<< 16)) ||| ((BitVec.ofNat 32 z2) <<< 8)) ||| (BitVec.ofNat 32 z3))))) → Q .normal a (W0.setCell ⟨c, 0 + ii, none⟩ (U (((((BitVec.ofNat 32 z0) <<< 24) ||| ((BitVec.ofNat 32 z1) <<< 16)) ||| ((BitVec.ofNat 32 z2) <<< 8)) ||| (BitVec.ofNat 32 z3))))) : (Code.region 5 ops true).wp Tryz.prog Q a0 w0 := by
 subst ho
 refine region_made (n := 40) (sl := sl197_5) (J := J197_5 W0 c q b ii z0 z1 z2 z3 y) (R := R197_5 c q b ii z0 z1 z2 z3 y) (by kernel_rfl) (by kernel_rfl) (by kernel_rfl) (by rw [hsz]; kernel_rfl) ?_ (by rw [hW]; exact ⟨fun _ => rfl, fun h => by simp [Array.getD] at h⟩) (fun L a w hall hf => ?_)
 rotate_left
 ·have hw1 : w = W0.setCell ⟨c, 0 + ii, none⟩ (U (((((BitVec.ofNat 32 z0) <<< 24) ||| ((BitVec.ofNat 32 z1) <<< 16)) ||| ((BitVec.ofNat 32 z2) <<< 8)) ||| (BitVec.ofNat 32 z3))) := hf.world.2 (hall 39 (by decide))
  subst w
  exact HK a hf.defers (hf.size.trans hsz) hf.rest (fun i hi => hf.got i (hall i hi))
 intro i hi L a w hs h1 hdep hd hst ho
 clear HK
 match i, hi, h1, hdep, ho with
 | 0, _, h1, hdep, ho =>
   have JJ := J197_5_any 0 (by decide) hst.world
   have s4 : a.eval (.tmp 4) = .int .i64 (ii : Int) := (hst.rest 4 (by kernel_rfl)).trans hs4
   have hr : (execOp a.eval (opAt ops197_5 0)).run Tryz.prog w = .ok (.value (.int .i64 (ii : Int))) w := run_moved (x := .tmp 4) (by kernel_rfl) s4
   exact op_value ho (by kernel_rfl) hr (made_val (d := 13) (by kernel_rfl) rfl JJ (fun _ _ _ _ h => h))
 | 1, _, h1, hdep, ho =>
   have JJ := J197_5_any 1 (by decide) hst.world
   have s0 : a.eval (.tmp 0) = .pointer (some ⟨b, q, none⟩) := (hst.rest 0 (by kernel_rfl)).trans hs0
   have hr : (execOp a.eval (opAt ops197_5 1)).run Tryz.prog w = .ok (.value (.pointer (some ⟨b, q, none⟩))) w := run_moved (x := .tmp 0) (by kernel_rfl) s0
   exact op_value ho (by kernel_rfl) hr (made_val (d := 14) (by kernel_rfl) rfl JJ (fun _ _ _ _ h => h))
 | 2, _, h1, hdep, ho =>
   have JJ := J197_5_any 2 (by decide) hst.world
   have s4 : a.eval (.tmp 4) = .int .i64 (ii : Int) := (hst.rest 4 (by kernel_rfl)).trans hs4
   have hr : (execOp a.eval (opAt ops197_5 2)).run Tryz.prog w = .ok (.value (.int .i64 (ii : Int))) w := run_moved (x := .tmp 4) (by kernel_rfl) s4
   exact op_value ho (by kernel_rfl) hr (made_val (d := 15) (by kernel_rfl) rfl JJ (fun _ _ _ _ h => h))
 | 3, _, h1, hdep, ho =>
   have JJ := J197_5_any 3 (by decide) hst.world
   have g2 : a.eval (.tmp 15) = .int .i64 (ii : Int) := hst.got 2 (hdep 2 (by kernel_rfl))
   have hr : (execOp a.eval (opAt ops197_5 3)).run Tryz.prog w = .ok (.value (.int .i64 (4 * ii : Int))) w := run_mul64 (by rw [IntKind.wrap_i64]; omega) (show (opAt ops197_5 3).op = .binOp .mul 3 (.const (.int .i64 4)) (.tmp 15) 3 from (by kernel_rfl)) rfl g2
   exact op_value ho (by kernel_rfl) hr (made_val (d := 16) (by kernel_rfl) rfl JJ (fun _ _ _ _ h => h))
 | 4, _, h1, hdep, ho =>
   have JJ := J197_5_any 4 (by decide) hst.world
   have g1 : a.eval (.tmp 14) = .pointer (some ⟨b, q, none⟩) := hst.got 1 (hdep 1 (by kernel_rfl))
   have hr : (execOp a.eval (opAt ops197_5 4)).run Tryz.prog w = .ok (.value (.pointer (some ⟨b, q, none⟩))) w := run_nil (x := .tmp 14) (by kernel_rfl) g1
   exact op_value ho (by kernel_rfl) hr (made_val (d := 17) (by kernel_rfl) rfl JJ (fun _ _ _ _ h => h))
 | 5, _, h1, hdep, ho =>
   have JJ := J197_5_any 5 (by decide) hst.world
   have g4 : a.eval (.tmp 17) = .pointer (some ⟨b, q, none⟩) := hst.got 4 (hdep 4 (by kernel_rfl))
   have g3 : a.eval (.tmp 16) = .int .i64 (4 * ii : Int) := hst.got 3 (hdep 3 (by kernel_rfl))
   have hr : (execOp a.eval (opAt ops197_5 5)).run Tryz.prog w = .ok (.value (.pointer (some ⟨b, q + 4 * ii, none⟩))) w := run_idx251 (k := 4 * ii) (by omega) (by omega) (show (opAt ops197_5 5).op = .indexAddr 251 (.tmp 17) (.tmp 16) from (by kernel_rfl)) g4 g3
   exact op_value ho (by kernel_rfl) hr (made_val (d := 18) (by kernel_rfl) rfl JJ (fun _ _ _ _ h => h))
 | 6, _, h1, hdep, ho =>
   have JJ := J197_5_any 6 (by decide) hst.world
   have hw : w = W0 := hst.world.1 (unlisted hs hd h1 (show waits .any ops197_5 39 6 = true from (by kernel_rfl)))
   obtain rfl : W0 = w := hw.symm
   have g5 : a.eval (.tmp 18) = .pointer (some ⟨b, q + 4 * ii, none⟩) := hst.got 5 (hdep 5 (by kernel_rfl))
   have hr : (execOp a.eval (opAt ops197_5 6)).run Tryz.prog W0 = .ok (.value (.int .u8 (z0 : Int))) W0 := run_load5 c0 (show (opAt ops197_5 6).op = .load 5 (.tmp 18) from (by kernel_rfl)) g5
   exact op_value ho (by kernel_rfl) hr (made_val (d := 19) (by kernel_rfl) rfl JJ (fun _ _ _ _ h => h))
 | 7, _, h1, hdep, ho =>
   have JJ := J197_5_any 7 (by decide) hst.world
   have g6 : a.eval (.tmp 19) = .int .u8 (z0 : Int) := hst.got 6 (hdep 6 (by kernel_rfl))
   have hr : (execOp a.eval (opAt ops197_5 7)).run Tryz.prog w = .ok (.value (U (BitVec.ofNat 32 z0))) w := run_conv32 hz0 (show (opAt ops197_5 7).op = .convert 5 184 (.tmp 19) from (by kernel_rfl)) g6
   exact op_value ho (by kernel_rfl) hr (made_val (d := 20) (by kernel_rfl) rfl JJ (fun _ _ _ _ h => h))
 | 8, _, h1, hdep, ho =>
   have JJ := J197_5_any 8 (by decide) hst.world
   have g7 : a.eval (.tmp 20) = U (BitVec.ofNat 32 z0) := hst.got 7 (hdep 7 (by kernel_rfl))
   have hr : (execOp a.eval (opAt ops197_5 8)).run Tryz.prog w = .ok (.value (U ((BitVec.ofNat 32 z0) <<< 24))) w := run_shl32 (k := 24) (by decide) (show (opAt ops197_5 8).op = .binOp .shl 184 (.tmp 20) (.const (.int .u64 24)) 118 from (by kernel_rfl)) g7 rfl
   exact op_value ho (by kernel_rfl) hr (made_val (d := 21) (by kernel_rfl) rfl JJ (fun _ _ _ _ h => h))
 | 9, _, h1, hdep, ho =>
   have JJ := J197_5_any 9 (by decide) hst.world
   have s0 : a.eval (.tmp 0) = .pointer (some ⟨b, q, none⟩) := (hst.rest 0 (by kernel_rfl)).trans hs0
   have hr : (execOp a.eval (opAt ops197_5 9)).run Tryz.prog w = .ok (.value (.pointer (some ⟨b, q, none⟩))) w := run_moved (x := .tmp 0) (by kernel_rfl) s0
   exact op_value ho (by kernel_rfl) hr (made_val (d := 22) (by kernel_rfl) rfl JJ (fun _ _ _ _ h => h))
 | 10, _, h1, hdep, ho =>
   have JJ := J197_5_any 10 (by decide) hst.world
   have s4 : a.eval (.tmp 4) = .int .i64 (ii : Int) := (hst.rest 4 (by kernel_rfl)).trans hs4
   have hr : (execOp a.eval (opAt ops197_5 10)).run Tryz.prog w = .ok (.value (.int .i64 (ii : Int))) w := run_moved (x := .tmp 4) (by kernel_rfl) s4
   exact op_value ho (by kernel_rfl) hr (made_val (d := 23) (by kernel_rfl) rfl JJ (fun _ _ _ _ h => h))
 | 11, _, h1, hdep, ho =>
   have JJ := J197_5_any 11 (by decide) hst.world
   have g10 : a.eval (.tmp 23) = .int .i64 (ii : Int) := hst.got 10 (hdep 10 (by kernel_rfl))
   have hr : (execOp a.eval (opAt ops197_5 11)).run Tryz.prog w = .ok (.value (.int .i64 (4 * ii : Int))) w := run_mul64 (by rw [IntKind.wrap_i64]; omega) (show (opAt ops197_5 11).op = .binOp .mul 3 (.const (.int .i64 4)) (.tmp 23) 3 from (by kernel_rfl)) rfl g10
   exact op_value ho (by kernel_rfl) hr (made_val (d := 24) (by kernel_rfl) rfl JJ (fun _ _ _ _ h => h))
 | 12, _, h1, hdep, ho =>
   have JJ := J197_5_any 12 (by decide) hst.world
   have g11 : a.eval (.tmp 24) = .int .i64 (4 * ii : Int) := hst.got 11 (hdep 11 (by kernel_rfl))
   have hr : (execOp a.eval (opAt ops197_5 12)).run Tryz.prog w = .ok (.value (.int .i64 (4 * ii + 1 : Int))) w := run_add64 (by rw [IntKind.wrap_i64]; omega) (show (opAt ops197_5 12).op = .binOp .add 3 (.tmp 24) (.const (.int .i64 1)) 3 from (by kernel_rfl)) g11 rfl
   exact op_value ho (by kernel_rfl) hr (made_val (d := 25) (by kernel_rfl) rfl JJ (fun _ _ _ _ h => h))
 | 13, _, h1, hdep, ho =>
   have JJ := J197_5_any 13 (by decide) hst.world
   have g9 : a.eval (.tmp 22) = .pointer (some ⟨b, q, none⟩) := hst.got 9 (hdep 9 (by kernel_rfl))
   have hr : (execOp a.eval (opAt ops197_5 13)).run Tryz.prog w = .ok (.value (.pointer (some ⟨b, q, none⟩))) w := run_nil (x := .tmp 22) (by kernel_rfl) g9
   exact op_value ho (by kernel_rfl) hr (made_val (d := 26) (by kernel_rfl) rfl JJ (fun _ _ _ _ h => h))
 | 14, _, h1, hdep, ho =>
   have JJ := J197_5_any 14 (by decide) hst.world
   have g13 : a.eval (.tmp 26) = .pointer (some ⟨b, q, none⟩) := hst.got 13 (hdep 13 (by kernel_rfl))
   have g12 : a.eval (.tmp 25) = .int .i64 (4 * ii + 1 : Int) := hst.got 12 (hdep 12 (by kernel_rfl))
   have hr : (execOp a.eval (opAt ops197_5 14)).run Tryz.prog w = .ok (.value (.pointer (some ⟨b, q + (4 * ii + 1), none⟩))) w := run_idx251 (k := 4 * ii + 1) (by omega) (by omega) (show (opAt ops197_5 14).op = .indexAddr 251 (.tmp 26) (.tmp 25) from (by kernel_rfl)) g13 g12
   exact op_value ho (by kernel_rfl) hr (made_val (d := 27) (by kernel_rfl) rfl JJ (fun _ _ _ _ h => h))
 | 15, _, h1, hdep, ho =>
   have JJ := J197_5_any 15 (by decide) hst.world
   have hw : w = W0 := hst.world.1 (unlisted hs hd h1 (show waits .any ops197_5 39 15 = true from (by kernel_rfl)))
   obtain rfl : W0 = w := hw.symm
   have g14 : a.eval (.tmp 27) = .pointer (some ⟨b, q + (4 * ii + 1), none⟩) := hst.got 14 (hdep 14 (by kernel_rfl))
   have hr : (execOp a.eval (opAt ops197_5 15)).run Tryz.prog W0 = .ok (.value (.int .u8 (z1 : Int))) W0 := run_load5 c1 (show (opAt ops197_5 15).op = .load 5 (.tmp 27) from (by kernel_rfl)) g14
   exact op_value ho (by kernel_rfl) hr (made_val (d := 28) (by kernel_rfl) rfl JJ (fun _ _ _ _ h => h))
 | 16, _, h1, hdep, ho =>
   have JJ := J197_5_any 16 (by decide) hst.world
   have g15 : a.eval (.tmp 28) = .int .u8 (z1 : Int) := hst.got 15 (hdep 15 (by kernel_rfl))
   have hr : (execOp a.eval (opAt ops197_5 16)).run Tryz.prog w = .ok (.value (U (BitVec.ofNat 32 z1))) w := run_conv32 hz1 (show (opAt ops197_5 16).op = .convert 5 184 (.tmp 28) from (by kernel_rfl)) g15
   exact op_value ho (by kernel_rfl) hr (made_val (d := 29) (by kernel_rfl) rfl JJ (fun _ _ _ _ h => h))
 | 17, _, h1, hdep, ho =>
   have JJ := J197_5_any 17 (by decide) hst.world
   have g16 : a.eval (.tmp 29) = U (BitVec.ofNat 32 z1) := hst.got 16 (hdep 16 (by kernel_rfl))
   have hr : (execOp a.eval (opAt ops197_5 17)).run Tryz.prog w = .ok (.value (U ((BitVec.ofNat 32 z1) <<< 16))) w := run_shl32 (k := 16) (by decide) (show (opAt ops197_5 17).op = .binOp .shl 184 (.tmp 29) (.const (.int .u64 16)) 118 from (by kernel_rfl)) g16 rfl
   exact op_value ho (by kernel_rfl) hr (made_val (d := 30) (by kernel_rfl) rfl JJ (fun _ _ _ _ h => h))
 | 18, _, h1, hdep, ho =>
   have JJ := J197_5_any 18 (by decide) hst.world
   have g8 : a.eval (.tmp 21) = U ((BitVec.ofNat 32 z0) <<< 24) := hst.got 8 (hdep 8 (by kernel_rfl))
   have g17 : a.eval (.tmp 30) = U ((BitVec.ofNat 32 z1) <<< 16) := hst.got 17 (hdep 17 (by kernel_rfl))
   have hr : (execOp a.eval (opAt ops197_5 18)).run Tryz.prog w = .ok (.value (U (((BitVec.ofNat 32 z0) <<< 24) ||| ((BitVec.ofNat 32 z1) <<< 16)))) w := run_or32 (show (opAt ops197_5 18).op = .binOp .or 184 (.tmp 21) (.tmp 30) 184 from (by kernel_rfl)) g8 g17
   exact op_value ho (by kernel_rfl) hr (made_val (d := 31) (by kernel_rfl) rfl JJ (fun _ _ _ _ h => h))
 | 19, _, h1, hdep, ho =>
   have JJ := J197_5_any 19 (by decide) hst.world
   have s0 : a.eval (.tmp 0) = .pointer (some ⟨b, q, none⟩) := (hst.rest 0 (by kernel_rfl)).trans hs0
   have hr : (execOp a.eval (opAt ops197_5 19)).run Tryz.prog w = .ok (.value (.pointer (some ⟨b, q, none⟩))) w := run_moved (x := .tmp 0) (by kernel_rfl) s0
   exact op_value ho (by kernel_rfl) hr (made_val (d := 32) (by kernel_rfl) rfl JJ (fun _ _ _ _ h => h))
 | 20, _, h1, hdep, ho =>
   have JJ := J197_5_any 20 (by decide) hst.world
   have s4 : a.eval (.tmp 4) = .int .i64 (ii : Int) := (hst.rest 4 (by kernel_rfl)).trans hs4
   have hr : (execOp a.eval (opAt ops197_5 20)).run Tryz.prog w = .ok (.value (.int .i64 (ii : Int))) w := run_moved (x := .tmp 4) (by kernel_rfl) s4
   exact op_value ho (by kernel_rfl) hr (made_val (d := 33) (by kernel_rfl) rfl JJ (fun _ _ _ _ h => h))
 | 21, _, h1, hdep, ho =>
   have JJ := J197_5_any 21 (by decide) hst.world
   have g20 : a.eval (.tmp 33) = .int .i64 (ii : Int) := hst.got 20 (hdep 20 (by kernel_rfl))
   have hr : (execOp a.eval (opAt ops197_5 21)).run Tryz.prog w = .ok (.value (.int .i64 (4 * ii : Int))) w := run_mul64 (by rw [IntKind.wrap_i64]; omega) (show (opAt ops197_5 21).op = .binOp .mul 3 (.const (.int .i64 4)) (.tmp 33) 3 from (by kernel_rfl)) rfl g20
   exact op_value ho (by kernel_rfl) hr (made_val (d := 34) (by kernel_rfl) rfl JJ (fun _ _ _ _ h => h))
 | 22, _, h1, hdep, ho =>
   have JJ := J197_5_any 22 (by decide) hst.world
   have g21 : a.eval (.tmp 34) = .int .i64 (4 * ii : Int) := hst.got 21 (hdep 21 (by kernel_rfl))
   have hr : (execOp a.eval (opAt ops197_5 22)).run Tryz.prog w = .ok (.value (.int .i64 (4 * ii + 2 : Int))) w := run_add64 (by rw [IntKind.wrap_i64]; omega) (show (opAt ops197_5 22).op = .binOp .add 3 (.tmp 34) (.const (.int .i64 2)) 3 from (by kernel_rfl)) g21 rfl
   exact op_value ho (by kernel_rfl) hr (made_val (d := 35) (by kernel_rfl) rfl JJ (fun _ _ _ _ h => h))
 | 23, _, h1, hdep, ho =>
   have JJ := J197_5_any 23 (by decide) hst.world
   have g19 : a.eval (.tmp 32) = .pointer (some ⟨b, q, none⟩) := hst.got 19 (hdep 19 (by kernel_rfl))
   have hr : (execOp a.eval (opAt ops197_5 23)).run Tryz.prog w = .ok (.value (.pointer (some ⟨b, q, none⟩))) w := run_nil (x := .tmp 32) (by kernel_rfl) g19
   exact op_value ho (by kernel_rfl) hr (made_val (d := 36) (by kernel_rfl) rfl JJ (fun _ _ _ _ h => h))
 | 24, _, h1, hdep, ho =>
   have JJ := J197_5_any 24 (by decide) hst.world
   have g23 : a.eval (.tmp 36) = .pointer (some ⟨b, q, none⟩) := hst.got 23 (hdep 23 (by kernel_rfl))
   have g22 : a.eval (.tmp 35) = .int .i64 (4 * ii + 2 : Int) := hst.got 22 (hdep 22 (by kernel_rfl))
   have hr : (execOp a.eval (opAt ops197_5 24)).run Tryz.prog w = .ok (.value (.pointer (some ⟨b, q + (4 * ii + 2), none⟩))) w := run_idx251 (k := 4 * ii + 2) (by omega) (by omega) (show (opAt ops197_5 24).op = .indexAddr 251 (.tmp 36) (.tmp 35) from (by kernel_rfl)) g23 g22
   exact op_value ho (by kernel_rfl) hr (made_val (d := 37) (by kernel_rfl) rfl JJ (fun _ _ _ _ h => h))
 | 25, _, h1, hdep, ho =>
   have JJ := J197_5_any 25 (by decide) hst.world
   have hw : w = W0 := hst.world.1 (unlisted hs hd h1 (show waits .any ops197_5 39 25 = true from (by kernel_rfl)))
   obtain rfl : W0 = w := hw.symm
   have g24 : a.eval (.tmp 37) = .pointer (some ⟨b, q + (4 * ii + 2), none⟩) := hst.got 24 (hdep 24 (by kernel_rfl))
   have hr : (execOp a.eval (opAt ops197_5 25)).run Tryz.prog W0 = .ok (.value (.int .u8 (z2 : Int))) W0 := run_load5 c2 (show (opAt ops197_5 25).op = .load 5 (.tmp 37) from (by kernel_rfl)) g24
   exact op_value ho (by kernel_rfl) hr (made_val (d := 38) (by kernel_rfl) rfl JJ (fun _ _ _ _ h => h))
 | 26, _, h1, hdep, ho =>
   have JJ := J197_5_any 26 (by decide) hst.world
   have g25 : a.eval (.tmp 38) = .int .u8 (z2 : Int) := hst.got 25 (hdep 25 (by kernel_rfl))
   have hr : (execOp a.eval (opAt ops197_5 26)).run Tryz.prog w = .ok (.value (U (BitVec.ofNat 32 z2))) w := run_conv32 hz2 (show (opAt ops197_5 26).op = .convert 5 184 (.tmp 38) from (by kernel_rfl)) g25
   exact op_value ho (by kernel_rfl) hr (made_val (d := 39) (by kernel_rfl) rfl JJ (fun _ _ _ _ h => h))
 | 27, _, h1, hdep, ho =>
   have JJ := J197_5_any 27 (by decide) hst.world
   have g26 : a.eval (.tmp 39) = U (BitVec.ofNat 32 z2) := hst.got 26 (hdep 26 (by kernel_rfl))
   have hr : (execOp a.eval (opAt ops197_5 27)).run Tryz.prog w = .ok (.value (U ((BitVec.ofNat 32 z2) <<< 8))) w := run_shl32 (k := 8) (by decide) (show (opAt ops197_5 27).op = .binOp .shl 184 (.tmp 39) (.const (.int .u64 8)) 118 from (by kernel_rfl)) g26 rfl
   exact op_value ho (by kernel_rfl) hr (made_val (d := 40) (by kernel_rfl) rfl JJ (fun _ _ _ _ h => h))
 | 28, _, h1, hdep, ho =>
   have JJ := J197_5_any 28 (by decide) hst.world
   have g18 : a.eval (.tmp 31) = U (((BitVec.ofNat 32 z0) <<< 24) ||| ((BitVec.ofNat 32 z1) <<< 16)) := hst.got 18 (hdep 18 (by kernel_rfl))
   have g27 : a.eval (.tmp 40) = U ((BitVec.ofNat 32 z2) <<< 8) := hst.got 27 (hdep 27 (by kernel_rfl))
   have hr : (execOp a.eval (opAt ops197_5 28)).run Tryz.prog w = .ok (.value (U ((((BitVec.ofNat 32 z0) <<< 24) ||| ((BitVec.ofNat 32 z1) <<< 16)) ||| ((BitVec.ofNat 32 z2) <<< 8)))) w := run_or32 (show (opAt ops197_5 28).op = .binOp .or 184 (.tmp 31) (.tmp 40) 184 from (by kernel_rfl)) g18 g27
   exact op_value ho (by kernel_rfl) hr (made_val (d := 41) (by kernel_rfl) rfl JJ (fun _ _ _ _ h => h))
 | 29, _, h1, hdep, ho =>
   have JJ := J197_5_any 29 (by decide) hst.world
   have s0 : a.eval (.tmp 0) = .pointer (some ⟨b, q, none⟩) := (hst.rest 0 (by kernel_rfl)).trans hs0
   have hr : (execOp a.eval (opAt ops197_5 29)).run Tryz.prog w = .ok (.value (.pointer (some ⟨b, q, none⟩))) w := run_moved (x := .tmp 0) (by kernel_rfl) s0
   exact op_value ho (by kernel_rfl) hr (made_val (d := 42) (by kernel_rfl) rfl JJ (fun _ _ _ _ h => h))
 | 30, _, h1, hdep, ho =>
   have JJ := J197_5_any 30 (by decide) hst.world
   have s4 : a.eval (.tmp 4) = .int .i64 (ii : Int) := (hst.rest 4 (by kernel_rfl)).trans hs4
   have hr : (execOp a.eval (opAt ops197_5 30)).run Tryz.prog w = .ok (.value (.int .i64 (ii : Int))) w := run_moved (x := .tmp 4) (by kernel_rfl) s4
   exact op_value ho (by kernel_rfl) hr (made_val (d := 43) (by kernel_rfl) rfl JJ (fun _ _ _ _ h => h))
 | 31, _, h1, hdep, ho =>
   have JJ := J197_5_any 31 (by decide) hst.world
   have g30 : a.eval (.tmp 43) = .int .i64 (ii : Int) := hst.got 30 (hdep 30 (by kernel_rfl))
   have hr : (execOp a.eval (opAt ops197_5 31)).run Tryz.prog w = .ok (.value (.int .i64 (4 * ii : Int))) w := run_mul64 (by rw [IntKind.wrap_i64]; omega) (show (opAt ops197_5 31).op = .binOp .mul 3 (.const (.int .i64 4)) (.tmp 43) 3 from (by kernel_rfl)) rfl g30
   exact op_value ho (by kernel_rfl) hr (made_val (d := 44) (by kernel_rfl) rfl JJ (fun _ _ _ _ h => h))
 | 32, _, h1, hdep, ho =>
   have JJ := J197_5_any 32 (by decide) hst.world
   have g31 : a.eval (.tmp 44) = .int .i64 (4 * ii : Int) := hst.got 31 (hdep 31 (by kernel_rfl))
   have hr : (execOp a.eval (opAt ops197_5 32)).run Tryz.prog w = .ok (.value (.int .i64 (4 * ii + 3 : Int))) w := run_add64 (by rw [IntKind.wrap_i64]; omega) (show (opAt ops197_5 32).op = .binOp .add 3 (.tmp 44) (.const (.int .i64 3)) 3 from (by kernel_rfl)) g31 rfl
   exact op_value ho (by kernel_rfl) hr (made_val (d := 45) (by kernel_rfl) rfl JJ (fun _ _ _ _ h => h))
 | 33, _, h1, hdep, ho =>
   have JJ := J197_5_any 33 (by decide) hst.world
   have g29 : a.eval (.tmp 42) = .pointer (some ⟨b, q, none⟩) := hst.got 29 (hdep 29 (by kernel_rfl))
   have hr : (execOp a.eval (opAt ops197_5 33)).run Tryz.prog w = .ok (.value (.pointer (some ⟨b, q, none⟩))) w := run_nil (x := .tmp 42) (by kernel_rfl) g29
   exact op_value ho (by kernel_rfl) hr (made_val (d := 46) (by kernel_rfl) rfl JJ (fun _ _ _ _ h => h))
 | 34, _, h1, hdep, ho =>
   have JJ := J197_5_any 34 (by decide) hst.world
   have g33 : a.eval (.tmp 46) = .pointer (some ⟨b, q, none⟩) := hst.got 33 (hdep 33 (by kernel_rfl))
   have g32 : a.eval (.tmp 45) = .int .i64 (4 * ii + 3 : Int) := hst.got 32 (hdep 32 (by kernel_rfl))
   have hr : (execOp a.eval (opAt ops197_5 34)).run Tryz.prog w = .ok (.value (.pointer (some ⟨b, q + (4 * ii + 3), none⟩))) w := run_idx251 (k := 4 * ii + 3) (by omega) (by omega) (show (opAt ops197_5 34).op = .indexAddr 251 (.tmp 46) (.tmp 45) from (by kernel_rfl)) g33 g32
   exact op_value ho (by kernel_rfl) hr (made_val (d := 47) (by kernel_rfl) rfl JJ (fun _ _ _ _ h => h))
 | 35, _, h1, hdep, ho =>
   have JJ := J197_5_any 35 (by decide) hst.world
   have hw : w = W0 := hst.world.1 (unlisted hs hd h1 (show waits .any ops197_5 39 35 = true from (by kernel_rfl)))
   obtain rfl : W0 = w := hw.symm
   have g34 : a.eval (.tmp 47) = .pointer (some ⟨b, q + (4 * ii + 3), none⟩) := hst.got 34 (hdep 34 (by kernel_rfl))
   have hr : (execOp a.eval (opAt ops197_5 35)).run Tryz.prog W0 = .ok (.value (.int .u8 (z3 : Int))) W0 := run_load5 c3 (show (opAt ops197_5 35).op = .load 5 (.tmp 47) from (by kernel_rfl)) g34
   exact op_value ho (by kernel_rfl) hr (made_val (d := 48) (by kernel_rfl) rfl JJ (fun _ _ _ _ h => h))
 | 36, _, h1, hdep, ho =>
   have JJ := J197_5_any 36 (by decide) hst.world
   have g35 : a.eval (.tmp 48) = .int .u8 (z3 : Int) := hst.got 35 (hdep 35 (by kernel_rfl))
   have hr : (execOp a.eval (opAt ops197_5 36)).run Tryz.prog w = .ok (.value (U (BitVec.ofNat 32 z3))) w := run_conv32 hz3 (show (opAt ops197_5 36).op = .convert 5 184 (.tmp 48) from (by kernel_rfl)) g35
   exact op_value ho (by kernel_rfl) hr (made_val (d := 49) (by kernel_rfl) rfl JJ (fun _ _ _ _ h => h))
 | 37, _, h1, hdep, ho =>
   have JJ := J197_5_any 37 (by decide) hst.world
   have g28 : a.eval (.tmp 41) = U ((((BitVec.ofNat 32 z0) <<< 24) ||| ((BitVec.ofNat 32 z1) <<< 16)) ||| ((BitVec.ofNat 32 z2) <<< 8)) := hst.got 28 (hdep 28 (by kernel_rfl))
   have g36 : a.eval (.tmp 49) = U (BitVec.ofNat 32 z3) := hst.got 36 (hdep 36 (by kernel_rfl))
   have hr : (execOp a.eval (opAt ops197_5 37)).run Tryz.prog w = .ok (.value (U (((((BitVec.ofNat 32 z0) <<< 24) ||| ((BitVec.ofNat 32 z1) <<< 16)) ||| ((BitVec.ofNat 32 z2) <<< 8)) ||| (BitVec.ofNat 32 z3)))) w := run_or32 (show (opAt ops197_5 37).op = .binOp .or 184 (.tmp 41) (.tmp 49) 184 from (by kernel_rfl)) g28 g36
   exact op_value ho (by kernel_rfl) hr (made_val (d := 50) (by kernel_rfl) rfl JJ (fun _ _ _ _ h => h))
 | 38, _, h1, hdep, ho =>
   have JJ := J197_5_any 38 (by decide) hst.world
   have s3 : a.eval (.tmp 3) = .pointer (some ⟨c, 0, none⟩) := (hst.rest 3 (by kernel_rfl)).trans hs3
   have g0 : a.eval (.tmp 13) = .int .i64 (ii : Int) := hst.got 0 (hdep 0 (by kernel_rfl))
   have hr : (execOp a.eval (opAt ops197_5 38)).run Tryz.prog w = .ok (.value (.pointer (some ⟨c, 0 + ii, none⟩))) w := run_idx186 (k := ii) rfl (by omega) (show (opAt ops197_5 38).op = .indexAddr 186 (.tmp 3) (.tmp 13) from (by kernel_rfl)) s3 g0
   exact op_value ho (by kernel_rfl) hr (made_val (d := 51) (by kernel_rfl) rfl JJ (fun _ _ _ _ h => h))
 | 39, _, h1, hdep, ho =>
   have hw : w = W0 := hst.world.1 (unl h1)
   obtain rfl : W0 = w := hw.symm
   have g38 : a.eval (.tmp 51) = .pointer (some ⟨c, 0 + ii, none⟩) := hst.got 38 (hdep 38 (by kernel_rfl))
   have g37 : a.eval (.tmp 50) = U (((((BitVec.ofNat 32 z0) <<< 24) ||| ((BitVec.ofNat 32 z1) <<< 16)) ||| ((BitVec.ofNat 32 z2) <<< 8)) ||| (BitVec.ofNat 32 z3)) := hst.got 37 (hdep 37 (by kernel_rfl))
   have hr := run_store184 cw fw (show (opAt ops197_5 39).op = .store 184 (.tmp 51) (.tmp 50) from (by kernel_rfl)) g38 g37
   refine op_skip ho (by kernel_rfl) hr (made_skip (by kernel_rfl) trivial ⟨fun h => by (rw [set_same (by rw [hs]; decide)] at h; cases h), fun _ => rfl⟩ (fun j _ _ u h => ?_))
   match j, h with
   | 0, h => exact (show _ = _ from h)
   | 1, h => exact (show _ = _ from h)
   | 2, h => exact (show _ = _ from h)
   | 3, h => exact (show _ = _ from h)
   | 4, h => exact (show _ = _ from h)
   | 5, h => exact (show _ = _ from h)
   | 6, h => exact (show _ = _ from h)
   | 7, h => exact (show _ = _ from h)
   | 8, h => exact (show _ = _ from h)
   | 9, h => exact (show _ = _ from h)
   | 10, h => exact (show _ = _ from h)
   | 11, h => exact (show _ = _ from h)
   | 12, h => exact (show _ = _ from h)
   | 13, h => exact (show _ = _ from h)
   | 14, h => exact (show _ = _ from h)
   | 15, h => exact (show _ = _ from h)
   | 16, h => exact (show _ = _ from h)
   | 17, h => exact (show _ = _ from h)
   | 18, h => exact (show _ = _ from h)
   | 19, h => exact (show _ = _ from h)
   | 20, h => exact (show _ = _ from h)
   | 21, h => exact (show _ = _ from h)
   | 22, h => exact (show _ = _ from h)
   | 23, h => exact (show _ = _ from h)
   | 24, h => exact (show _ = _ from h)
   | 25, h => exact (show _ = _ from h)
   | 26, h => exact (show _ = _ from h)
   | 27, h => exact (show _ = _ from h)
   | 28, h => exact (show _ = _ from h)
   | 29, h => exact (show _ = _ from h)
   | 30, h => exact (show _ = _ from h)
   | 31, h => exact (show _ = _ from h)
   | 32, h => exact (show _ = _ from h)
   | 33, h => exact (show _ = _ from h)
   | 34, h => exact (show _ = _ from h)
   | 35, h => exact (show _ = _ from h)
   | 36, h => exact (show _ = _ from h)
   | 37, h => exact (show _ = _ from h)
   | 38, h => exact (show _ = _ from h)
   | 39, h => exact (show True from h)
   | _ + 40, _ => exact trivial
 | k + 40, hi, _, _, _ => exact absurd hi (by omega)
def sg0 (x : BitVec 32) : BitVec 32 := rotr x 7 ^^^ rotr x 18 ^^^ x >>> 3
def sg1 (x : BitVec 32) : BitVec 32 := rotr x 17 ^^^ rotr x 19 ^^^ x >>> 10
noncomputable def ops197_10 : Array Oper := (Tryz.f197.body.bind (inCode 10)).getD #[]
def sl197_10 : Nat → Nat
 | 0 => 57
 | 1 => 58
 | 2 => 59
 | 3 => 60
 | 4 => 61
 | 5 => 62
 | 6 => 63
 | 7 => 64
 | 8 => 6
 | 9 => 7
 | _ => 0
def R197_10 (c : Nat) (ii : Nat) (w15 : BitVec 32) (w2 : BitVec 32) : Nat → Value → World → Prop
 | 0, v, _ => v = .int .i64 (ii : Int)
 | 1, v, _ => v = .int .i64 (ii - 15 : Int)
 | 2, v, _ => v = .pointer (some ⟨c, 0 + (ii - 15), none⟩)
 | 3, v, _ => v = U w15
 | 4, v, _ => v = .int .i64 (ii : Int)
 | 5, v, _ => v = .int .i64 (ii - 2 : Int)
 | 6, v, _ => v = .pointer (some ⟨c, 0 + (ii - 2), none⟩)
 | 7, v, _ => v = U w2
 | 8, v, _ => v = U w15
 | 9, v, _ => v = U w2
 | _, _, _ => True
def J197_10 (W0 : World) (c : Nat) (ii : Nat) (w15 : BitVec 32) (w2 : BitVec 32) (L : Array Bool) (w : World) : Prop := w = W0
set_option maxHeartbeats 3200000 in
theorem reg197_10 {ops : Array Oper} (ho : ops = ops197_10) {Q : Exit → Act → World → Prop} {a0 : Act} {w0 W0 : World} (hW : w0.drew = W0) {c : Nat} {ii : Nat} {w15 : BitVec 32} {w2 : BitVec 32} (h16 : 16 ≤ ii) (hii : ii < 64) (c15 : W0.cell? ⟨c, 0 + (ii - 15), none⟩ = some (U w15)) (c2 : W0.cell? ⟨c, 0 + (ii - 2), none⟩ = some (U w2)) (hs3 : a0.eval (.tmp 3) = .pointer (some ⟨c, 0, none⟩)) (hs5 : a0.eval (.tmp 5) = .int .i64 (ii : Int)) (hsz : a0.tmps.size = 97)
  (HK : ∀ a, a.defers = a0.defers → a.tmps.size = 97 → (∀ s, freeB ops197_10 s = true → a.eval (.tmp s) = a0.eval (.tmp s)) → (∀ i, i < 10 → R197_10 c ii w15 w2 i (a.eval (.tmp (sl197_10 i))) (W0)) → Q .normal a (W0)) : (Code.region 10 ops true).wp Tryz.prog Q a0 w0 := by
 subst ho
 refine region_made (n := 10) (sl := sl197_10) (J := J197_10 W0 c ii w15 w2) (R := R197_10 c ii w15 w2) (by kernel_rfl) (by kernel_rfl) (by kernel_rfl) (by rw [hsz]; kernel_rfl) ?_ (show _ = _ from hW) (fun L a w hall hf => ?_)
 rotate_left
 ·obtain rfl : w = W0 := hf.world
  exact HK a hf.defers (hf.size.trans hsz) hf.rest (fun i hi => hf.got i (hall i hi))
 intro i hi L a w hs h1 hdep hd hst ho
 clear HK
 match i, hi, h1, hdep, ho with
 | 0, _, h1, hdep, ho =>
   have hw : w = W0 := hst.world
   obtain rfl : W0 = w := hw.symm
   have s5 : a.eval (.tmp 5) = .int .i64 (ii : Int) := (hst.rest 5 (by kernel_rfl)).trans hs5
   have hr : (execOp a.eval (opAt ops197_10 0)).run Tryz.prog W0 = .ok (.value (.int .i64 (ii : Int))) W0 := run_moved (x := .tmp 5) (by kernel_rfl) s5
   exact op_value ho (by kernel_rfl) hr (made_val (d := 57) (by kernel_rfl) rfl rfl (fun _ _ _ _ h => h))
 | 1, _, h1, hdep, ho =>
   have hw : w = W0 := hst.world
   obtain rfl : W0 = w := hw.symm
   have g0 : a.eval (.tmp 57) = .int .i64 (ii : Int) := hst.got 0 (hdep 0 (by kernel_rfl))
   have hr : (execOp a.eval (opAt ops197_10 1)).run Tryz.prog W0 = .ok (.value (.int .i64 (ii - 15 : Int))) W0 := run_sub64 (by rw [IntKind.wrap_i64]; omega) (show (opAt ops197_10 1).op = .binOp .sub 3 (.tmp 57) (.const (.int .i64 15)) 3 from (by kernel_rfl)) g0 rfl
   exact op_value ho (by kernel_rfl) hr (made_val (d := 58) (by kernel_rfl) rfl rfl (fun _ _ _ _ h => h))
 | 2, _, h1, hdep, ho =>
   have hw : w = W0 := hst.world
   obtain rfl : W0 = w := hw.symm
   have s3 : a.eval (.tmp 3) = .pointer (some ⟨c, 0, none⟩) := (hst.rest 3 (by kernel_rfl)).trans hs3
   have g1 : a.eval (.tmp 58) = .int .i64 (ii - 15 : Int) := hst.got 1 (hdep 1 (by kernel_rfl))
   have hr : (execOp a.eval (opAt ops197_10 2)).run Tryz.prog W0 = .ok (.value (.pointer (some ⟨c, 0 + (ii - 15), none⟩))) W0 := run_idx186 (k := ii - 15) (by omega) (by omega) (show (opAt ops197_10 2).op = .indexAddr 186 (.tmp 3) (.tmp 58) from (by kernel_rfl)) s3 g1
   exact op_value ho (by kernel_rfl) hr (made_val (d := 59) (by kernel_rfl) rfl rfl (fun _ _ _ _ h => h))
 | 3, _, h1, hdep, ho =>
   have hw : w = W0 := hst.world
   obtain rfl : W0 = w := hw.symm
   have g2 : a.eval (.tmp 59) = .pointer (some ⟨c, 0 + (ii - 15), none⟩) := hst.got 2 (hdep 2 (by kernel_rfl))
   have hr : (execOp a.eval (opAt ops197_10 3)).run Tryz.prog W0 = .ok (.value (U w15)) W0 := run_load184 c15 (show (opAt ops197_10 3).op = .load 184 (.tmp 59) from (by kernel_rfl)) g2
   exact op_value ho (by kernel_rfl) hr (made_val (d := 60) (by kernel_rfl) rfl rfl (fun _ _ _ _ h => h))
 | 4, _, h1, hdep, ho =>
   have hw : w = W0 := hst.world
   obtain rfl : W0 = w := hw.symm
   have s5 : a.eval (.tmp 5) = .int .i64 (ii : Int) := (hst.rest 5 (by kernel_rfl)).trans hs5
   have hr : (execOp a.eval (opAt ops197_10 4)).run Tryz.prog W0 = .ok (.value (.int .i64 (ii : Int))) W0 := run_moved (x := .tmp 5) (by kernel_rfl) s5
   exact op_value ho (by kernel_rfl) hr (made_val (d := 61) (by kernel_rfl) rfl rfl (fun _ _ _ _ h => h))
 | 5, _, h1, hdep, ho =>
   have hw : w = W0 := hst.world
   obtain rfl : W0 = w := hw.symm
   have g4 : a.eval (.tmp 61) = .int .i64 (ii : Int) := hst.got 4 (hdep 4 (by kernel_rfl))
   have hr : (execOp a.eval (opAt ops197_10 5)).run Tryz.prog W0 = .ok (.value (.int .i64 (ii - 2 : Int))) W0 := run_sub64 (by rw [IntKind.wrap_i64]; omega) (show (opAt ops197_10 5).op = .binOp .sub 3 (.tmp 61) (.const (.int .i64 2)) 3 from (by kernel_rfl)) g4 rfl
   exact op_value ho (by kernel_rfl) hr (made_val (d := 62) (by kernel_rfl) rfl rfl (fun _ _ _ _ h => h))
 | 6, _, h1, hdep, ho =>
   have hw : w = W0 := hst.world
   obtain rfl : W0 = w := hw.symm
   have s3 : a.eval (.tmp 3) = .pointer (some ⟨c, 0, none⟩) := (hst.rest 3 (by kernel_rfl)).trans hs3
   have g5 : a.eval (.tmp 62) = .int .i64 (ii - 2 : Int) := hst.got 5 (hdep 5 (by kernel_rfl))
   have hr : (execOp a.eval (opAt ops197_10 6)).run Tryz.prog W0 = .ok (.value (.pointer (some ⟨c, 0 + (ii - 2), none⟩))) W0 := run_idx186 (k := ii - 2) (by omega) (by omega) (show (opAt ops197_10 6).op = .indexAddr 186 (.tmp 3) (.tmp 62) from (by kernel_rfl)) s3 g5
   exact op_value ho (by kernel_rfl) hr (made_val (d := 63) (by kernel_rfl) rfl rfl (fun _ _ _ _ h => h))
 | 7, _, h1, hdep, ho =>
   have hw : w = W0 := hst.world
   obtain rfl : W0 = w := hw.symm
   have g6 : a.eval (.tmp 63) = .pointer (some ⟨c, 0 + (ii - 2), none⟩) := hst.got 6 (hdep 6 (by kernel_rfl))
   have hr : (execOp a.eval (opAt ops197_10 7)).run Tryz.prog W0 = .ok (.value (U w2)) W0 := run_load184 c2 (show (opAt ops197_10 7).op = .load 184 (.tmp 63) from (by kernel_rfl)) g6
   exact op_value ho (by kernel_rfl) hr (made_val (d := 64) (by kernel_rfl) rfl rfl (fun _ _ _ _ h => h))
 | 8, _, h1, hdep, ho =>
   have hw : w = W0 := hst.world
   obtain rfl : W0 = w := hw.symm
   have g3 : a.eval (.tmp 60) = U w15 := hst.got 3 (hdep 3 (by kernel_rfl))
   have hr : (execOp a.eval (opAt ops197_10 8)).run Tryz.prog W0 = .ok (.value (U w15)) W0 := run_moved_as (x := .tmp 60) (by kernel_rfl) g3
   exact op_value ho (by kernel_rfl) hr (made_val (d := 6) (by kernel_rfl) rfl rfl (fun _ _ _ _ h => h))
 | 9, _, h1, hdep, ho =>
   have hw : w = W0 := hst.world
   obtain rfl : W0 = w := hw.symm
   have g7 : a.eval (.tmp 64) = U w2 := hst.got 7 (hdep 7 (by kernel_rfl))
   have hr : (execOp a.eval (opAt ops197_10 9)).run Tryz.prog W0 = .ok (.value (U w2)) W0 := run_moved_as (x := .tmp 64) (by kernel_rfl) g7
   exact op_value ho (by kernel_rfl) hr (made_val (d := 7) (by kernel_rfl) rfl rfl (fun _ _ _ _ h => h))
 | k + 10, hi, _, _, _ => exact absurd hi (by omega)
noncomputable def ops197_11 : Array Oper := (Tryz.f197.body.bind (inCode 11)).getD #[]
def sl197_11 : Nat → Nat
 | 0 => 65
 | 1 => 66
 | 2 => 67
 | 3 => 68
 | 4 => 69
 | 5 => 70
 | 6 => 71
 | 7 => 72
 | 8 => 8
 | _ => 0
def R197_11 (x : BitVec 32) : Nat → Value → World → Prop
 | 0, v, _ => v = U x
 | 1, v, _ => v = U (rotr x 7)
 | 2, v, _ => v = U x
 | 3, v, _ => v = U (rotr x 18)
 | 4, v, _ => v = U ((rotr x 7) ^^^ (rotr x 18))
 | 5, v, _ => v = U x
 | 6, v, _ => v = U (x >>> 3)
 | 7, v, _ => v = U (((rotr x 7) ^^^ (rotr x 18)) ^^^ (x >>> 3))
 | 8, v, _ => v = U (((rotr x 7) ^^^ (rotr x 18)) ^^^ (x >>> 3))
 | _, _, _ => True
def J197_11 (W0 : World) (x : BitVec 32) (L : Array Bool) (w : World) : Prop := w = W0
set_option maxHeartbeats 3200000 in
theorem reg197_11 {ops : Array Oper} (ho : ops = ops197_11) {Q : Exit → Act → World → Prop} {a0 : Act} {w0 W0 : World} (hW : w0 = W0) {x : BitVec 32}  (hs6 : a0.eval (.tmp 6) = U x) (hsz : a0.tmps.size = 97)
  (HK : ∀ a, a.defers = a0.defers → a.tmps.size = 97 → (∀ s, freeB ops197_11 s = true → a.eval (.tmp s) = a0.eval (.tmp s)) → (∀ i, i < 9 → R197_11 x i (a.eval (.tmp (sl197_11 i))) (W0)) → Q .normal a (W0)) : (Code.region 11 ops false).wp Tryz.prog Q a0 w0 := by
 subst ho
 refine region_made_seq (n := 9) (sl := sl197_11) (J := J197_11 W0 x) (R := R197_11 x) (by kernel_rfl) (by kernel_rfl) (by kernel_rfl) (by rw [hsz]; kernel_rfl) ?_ (show _ = _ from hW) (fun L a w hall hf => ?_)
 rotate_left
 ·obtain rfl : w = W0 := hf.world
  exact HK a hf.defers (hf.size.trans hsz) hf.rest (fun i hi => hf.got i (hall i hi))
 intro i hi L a w hs h1 hdep hd hst ho
 clear HK
 match i, hi, h1, hdep, ho with
 | 0, _, h1, hdep, ho =>
   have hw : w = W0 := hst.world
   obtain rfl : W0 = w := hw.symm
   have s6 : a.eval (.tmp 6) = U x := (hst.rest 6 (by kernel_rfl)).trans hs6
   have hr : (execOp a.eval (opAt ops197_11 0)).run Tryz.prog W0 = .ok (.value (U x)) W0 := run_moved (x := .tmp 6) (by kernel_rfl) s6
   exact op_value ho (by kernel_rfl) hr (made_val (d := 65) (by kernel_rfl) rfl rfl (fun _ _ _ _ h => h))
 | 1, _, h1, hdep, ho =>
   have hw : w = W0 := hst.world
   obtain rfl : W0 = w := hw.symm
   have g0 : a.eval (.tmp 65) = U x := hst.got 0 (hdep 0 (by kernel_rfl))
   have hr : (execOp a.eval (opAt ops197_11 1)).run Tryz.prog W0 = .ok (.enter 198 #[U x, .int .i64 7]) W0 := by
    clear hst hdep hd h1 hs ho
    have hk : ∀ f, a.eval (.func f) = .func (.func f) #[] #[] := fun _ => rfl
    have hc : ∀ v, a.eval (.const v) = v := fun _ => rfl
    generalize a.eval = ρ at g0 hk hc ⊢
    unfold execOp; rw [show (opAt ops197_11 1).op = .call { callee := .value (.func 198), args := #[.tmp 65, .const (.int .i64 7)], argTypes := #[184, 3] } from (by kernel_rfl)]; simp only [g0, hk, hc]
    go_simp
   refine op_call ho (by kernel_rfl) hr ((turn_7 x W0).mono ?_)
   rintro e w'' ⟨rfl, rfl⟩
   exact ⟨_, rfl, made_val (d := 66) (by kernel_rfl) rfl rfl (fun _ _ _ _ h => h)⟩
 | 2, _, h1, hdep, ho =>
   have hw : w = W0 := hst.world
   obtain rfl : W0 = w := hw.symm
   have s6 : a.eval (.tmp 6) = U x := (hst.rest 6 (by kernel_rfl)).trans hs6
   have hr : (execOp a.eval (opAt ops197_11 2)).run Tryz.prog W0 = .ok (.value (U x)) W0 := run_moved (x := .tmp 6) (by kernel_rfl) s6
   exact op_value ho (by kernel_rfl) hr (made_val (d := 67) (by kernel_rfl) rfl rfl (fun _ _ _ _ h => h))
 | 3, _, h1, hdep, ho =>
   have hw : w = W0 := hst.world
   obtain rfl : W0 = w := hw.symm
   have g2 : a.eval (.tmp 67) = U x := hst.got 2 (hdep 2 (by kernel_rfl))
   have hr : (execOp a.eval (opAt ops197_11 3)).run Tryz.prog W0 = .ok (.enter 198 #[U x, .int .i64 18]) W0 := by
    clear hst hdep hd h1 hs ho
    have hk : ∀ f, a.eval (.func f) = .func (.func f) #[] #[] := fun _ => rfl
    have hc : ∀ v, a.eval (.const v) = v := fun _ => rfl
    generalize a.eval = ρ at g2 hk hc ⊢
    unfold execOp; rw [show (opAt ops197_11 3).op = .call { callee := .value (.func 198), args := #[.tmp 67, .const (.int .i64 18)], argTypes := #[184, 3] } from (by kernel_rfl)]; simp only [g2, hk, hc]
    go_simp
   refine op_call ho (by kernel_rfl) hr ((turn_18 x W0).mono ?_)
   rintro e w'' ⟨rfl, rfl⟩
   exact ⟨_, rfl, made_val (d := 68) (by kernel_rfl) rfl rfl (fun _ _ _ _ h => h)⟩
 | 4, _, h1, hdep, ho =>
   have hw : w = W0 := hst.world
   obtain rfl : W0 = w := hw.symm
   have g1 : a.eval (.tmp 66) = U (rotr x 7) := hst.got 1 (hdep 1 (by kernel_rfl))
   have g3 : a.eval (.tmp 68) = U (rotr x 18) := hst.got 3 (hdep 3 (by kernel_rfl))
   have hr : (execOp a.eval (opAt ops197_11 4)).run Tryz.prog W0 = .ok (.value (U ((rotr x 7) ^^^ (rotr x 18)))) W0 := run_xor32 (show (opAt ops197_11 4).op = .binOp .xor 184 (.tmp 66) (.tmp 68) 184 from (by kernel_rfl)) g1 g3
   exact op_value ho (by kernel_rfl) hr (made_val (d := 69) (by kernel_rfl) rfl rfl (fun _ _ _ _ h => h))
 | 5, _, h1, hdep, ho =>
   have hw : w = W0 := hst.world
   obtain rfl : W0 = w := hw.symm
   have s6 : a.eval (.tmp 6) = U x := (hst.rest 6 (by kernel_rfl)).trans hs6
   have hr : (execOp a.eval (opAt ops197_11 5)).run Tryz.prog W0 = .ok (.value (U x)) W0 := run_moved (x := .tmp 6) (by kernel_rfl) s6
   exact op_value ho (by kernel_rfl) hr (made_val (d := 70) (by kernel_rfl) rfl rfl (fun _ _ _ _ h => h))
 | 6, _, h1, hdep, ho =>
   have hw : w = W0 := hst.world
   obtain rfl : W0 = w := hw.symm
   have g5 : a.eval (.tmp 70) = U x := hst.got 5 (hdep 5 (by kernel_rfl))
   have hr : (execOp a.eval (opAt ops197_11 6)).run Tryz.prog W0 = .ok (.value (U (x >>> 3))) W0 := run_shr32 (k := 3) (by decide) (show (opAt ops197_11 6).op = .binOp .shr 184 (.tmp 70) (.const (.int .u64 3)) 118 from (by kernel_rfl)) g5 rfl
   exact op_value ho (by kernel_rfl) hr (made_val (d := 71) (by kernel_rfl) rfl rfl (fun _ _ _ _ h => h))
 | 7, _, h1, hdep, ho =>
   have hw : w = W0 := hst.world
   obtain rfl : W0 = w := hw.symm
   have g4 : a.eval (.tmp 69) = U ((rotr x 7) ^^^ (rotr x 18)) := hst.got 4 (hdep 4 (by kernel_rfl))
   have g6 : a.eval (.tmp 71) = U (x >>> 3) := hst.got 6 (hdep 6 (by kernel_rfl))
   have hr : (execOp a.eval (opAt ops197_11 7)).run Tryz.prog W0 = .ok (.value (U (((rotr x 7) ^^^ (rotr x 18)) ^^^ (x >>> 3)))) W0 := run_xor32 (show (opAt ops197_11 7).op = .binOp .xor 184 (.tmp 69) (.tmp 71) 184 from (by kernel_rfl)) g4 g6
   exact op_value ho (by kernel_rfl) hr (made_val (d := 72) (by kernel_rfl) rfl rfl (fun _ _ _ _ h => h))
 | 8, _, h1, hdep, ho =>
   have hw : w = W0 := hst.world
   obtain rfl : W0 = w := hw.symm
   have g7 : a.eval (.tmp 72) = U (((rotr x 7) ^^^ (rotr x 18)) ^^^ (x >>> 3)) := hst.got 7 (hdep 7 (by kernel_rfl))
   have hr : (execOp a.eval (opAt ops197_11 8)).run Tryz.prog W0 = .ok (.value (U (((rotr x 7) ^^^ (rotr x 18)) ^^^ (x >>> 3)))) W0 := run_moved_as (x := .tmp 72) (by kernel_rfl) g7
   exact op_value ho (by kernel_rfl) hr (made_val (d := 8) (by kernel_rfl) rfl rfl (fun _ _ _ _ h => h))
 | k + 9, hi, _, _, _ => exact absurd hi (by omega)
noncomputable def ops197_12 : Array Oper := (Tryz.f197.body.bind (inCode 12)).getD #[]
def sl197_12 : Nat → Nat
 | 0 => 73
 | 1 => 74
 | 2 => 75
 | 3 => 76
 | 4 => 77
 | 5 => 78
 | 6 => 79
 | 7 => 80
 | 8 => 9
 | _ => 0
def R197_12 (x : BitVec 32) : Nat → Value → World → Prop
 | 0, v, _ => v = U x
 | 1, v, _ => v = U (rotr x 17)
 | 2, v, _ => v = U x
 | 3, v, _ => v = U (rotr x 19)
 | 4, v, _ => v = U ((rotr x 17) ^^^ (rotr x 19))
 | 5, v, _ => v = U x
 | 6, v, _ => v = U (x >>> 10)
 | 7, v, _ => v = U (((rotr x 17) ^^^ (rotr x 19)) ^^^ (x >>> 10))
 | 8, v, _ => v = U (((rotr x 17) ^^^ (rotr x 19)) ^^^ (x >>> 10))
 | _, _, _ => True
def J197_12 (W0 : World) (x : BitVec 32) (L : Array Bool) (w : World) : Prop := w = W0
set_option maxHeartbeats 3200000 in
theorem reg197_12 {ops : Array Oper} (ho : ops = ops197_12) {Q : Exit → Act → World → Prop} {a0 : Act} {w0 W0 : World} (hW : w0 = W0) {x : BitVec 32}  (hs7 : a0.eval (.tmp 7) = U x) (hsz : a0.tmps.size = 97)
  (HK : ∀ a, a.defers = a0.defers → a.tmps.size = 97 → (∀ s, freeB ops197_12 s = true → a.eval (.tmp s) = a0.eval (.tmp s)) → (∀ i, i < 9 → R197_12 x i (a.eval (.tmp (sl197_12 i))) (W0)) → Q .normal a (W0)) : (Code.region 12 ops false).wp Tryz.prog Q a0 w0 := by
 subst ho
 refine region_made_seq (n := 9) (sl := sl197_12) (J := J197_12 W0 x) (R := R197_12 x) (by kernel_rfl) (by kernel_rfl) (by kernel_rfl) (by rw [hsz]; kernel_rfl) ?_ (show _ = _ from hW) (fun L a w hall hf => ?_)
 rotate_left
 ·obtain rfl : w = W0 := hf.world
  exact HK a hf.defers (hf.size.trans hsz) hf.rest (fun i hi => hf.got i (hall i hi))
 intro i hi L a w hs h1 hdep hd hst ho
 clear HK
 match i, hi, h1, hdep, ho with
 | 0, _, h1, hdep, ho =>
   have hw : w = W0 := hst.world
   obtain rfl : W0 = w := hw.symm
   have s7 : a.eval (.tmp 7) = U x := (hst.rest 7 (by kernel_rfl)).trans hs7
   have hr : (execOp a.eval (opAt ops197_12 0)).run Tryz.prog W0 = .ok (.value (U x)) W0 := run_moved (x := .tmp 7) (by kernel_rfl) s7
   exact op_value ho (by kernel_rfl) hr (made_val (d := 73) (by kernel_rfl) rfl rfl (fun _ _ _ _ h => h))
 | 1, _, h1, hdep, ho =>
   have hw : w = W0 := hst.world
   obtain rfl : W0 = w := hw.symm
   have g0 : a.eval (.tmp 73) = U x := hst.got 0 (hdep 0 (by kernel_rfl))
   have hr : (execOp a.eval (opAt ops197_12 1)).run Tryz.prog W0 = .ok (.enter 198 #[U x, .int .i64 17]) W0 := by
    clear hst hdep hd h1 hs ho
    have hk : ∀ f, a.eval (.func f) = .func (.func f) #[] #[] := fun _ => rfl
    have hc : ∀ v, a.eval (.const v) = v := fun _ => rfl
    generalize a.eval = ρ at g0 hk hc ⊢
    unfold execOp; rw [show (opAt ops197_12 1).op = .call { callee := .value (.func 198), args := #[.tmp 73, .const (.int .i64 17)], argTypes := #[184, 3] } from (by kernel_rfl)]; simp only [g0, hk, hc]
    go_simp
   refine op_call ho (by kernel_rfl) hr ((turn_17 x W0).mono ?_)
   rintro e w'' ⟨rfl, rfl⟩
   exact ⟨_, rfl, made_val (d := 74) (by kernel_rfl) rfl rfl (fun _ _ _ _ h => h)⟩
 | 2, _, h1, hdep, ho =>
   have hw : w = W0 := hst.world
   obtain rfl : W0 = w := hw.symm
   have s7 : a.eval (.tmp 7) = U x := (hst.rest 7 (by kernel_rfl)).trans hs7
   have hr : (execOp a.eval (opAt ops197_12 2)).run Tryz.prog W0 = .ok (.value (U x)) W0 := run_moved (x := .tmp 7) (by kernel_rfl) s7
   exact op_value ho (by kernel_rfl) hr (made_val (d := 75) (by kernel_rfl) rfl rfl (fun _ _ _ _ h => h))
 | 3, _, h1, hdep, ho =>
   have hw : w = W0 := hst.world
   obtain rfl : W0 = w := hw.symm
   have g2 : a.eval (.tmp 75) = U x := hst.got 2 (hdep 2 (by kernel_rfl))
   have hr : (execOp a.eval (opAt ops197_12 3)).run Tryz.prog W0 = .ok (.enter 198 #[U x, .int .i64 19]) W0 := by
    clear hst hdep hd h1 hs ho
    have hk : ∀ f, a.eval (.func f) = .func (.func f) #[] #[] := fun _ => rfl
    have hc : ∀ v, a.eval (.const v) = v := fun _ => rfl
    generalize a.eval = ρ at g2 hk hc ⊢
    unfold execOp; rw [show (opAt ops197_12 3).op = .call { callee := .value (.func 198), args := #[.tmp 75, .const (.int .i64 19)], argTypes := #[184, 3] } from (by kernel_rfl)]; simp only [g2, hk, hc]
    go_simp
   refine op_call ho (by kernel_rfl) hr ((turn_19 x W0).mono ?_)
   rintro e w'' ⟨rfl, rfl⟩
   exact ⟨_, rfl, made_val (d := 76) (by kernel_rfl) rfl rfl (fun _ _ _ _ h => h)⟩
 | 4, _, h1, hdep, ho =>
   have hw : w = W0 := hst.world
   obtain rfl : W0 = w := hw.symm
   have g1 : a.eval (.tmp 74) = U (rotr x 17) := hst.got 1 (hdep 1 (by kernel_rfl))
   have g3 : a.eval (.tmp 76) = U (rotr x 19) := hst.got 3 (hdep 3 (by kernel_rfl))
   have hr : (execOp a.eval (opAt ops197_12 4)).run Tryz.prog W0 = .ok (.value (U ((rotr x 17) ^^^ (rotr x 19)))) W0 := run_xor32 (show (opAt ops197_12 4).op = .binOp .xor 184 (.tmp 74) (.tmp 76) 184 from (by kernel_rfl)) g1 g3
   exact op_value ho (by kernel_rfl) hr (made_val (d := 77) (by kernel_rfl) rfl rfl (fun _ _ _ _ h => h))
 | 5, _, h1, hdep, ho =>
   have hw : w = W0 := hst.world
   obtain rfl : W0 = w := hw.symm
   have s7 : a.eval (.tmp 7) = U x := (hst.rest 7 (by kernel_rfl)).trans hs7
   have hr : (execOp a.eval (opAt ops197_12 5)).run Tryz.prog W0 = .ok (.value (U x)) W0 := run_moved (x := .tmp 7) (by kernel_rfl) s7
   exact op_value ho (by kernel_rfl) hr (made_val (d := 78) (by kernel_rfl) rfl rfl (fun _ _ _ _ h => h))
 | 6, _, h1, hdep, ho =>
   have hw : w = W0 := hst.world
   obtain rfl : W0 = w := hw.symm
   have g5 : a.eval (.tmp 78) = U x := hst.got 5 (hdep 5 (by kernel_rfl))
   have hr : (execOp a.eval (opAt ops197_12 6)).run Tryz.prog W0 = .ok (.value (U (x >>> 10))) W0 := run_shr32 (k := 10) (by decide) (show (opAt ops197_12 6).op = .binOp .shr 184 (.tmp 78) (.const (.int .u64 10)) 118 from (by kernel_rfl)) g5 rfl
   exact op_value ho (by kernel_rfl) hr (made_val (d := 79) (by kernel_rfl) rfl rfl (fun _ _ _ _ h => h))
 | 7, _, h1, hdep, ho =>
   have hw : w = W0 := hst.world
   obtain rfl : W0 = w := hw.symm
   have g4 : a.eval (.tmp 77) = U ((rotr x 17) ^^^ (rotr x 19)) := hst.got 4 (hdep 4 (by kernel_rfl))
   have g6 : a.eval (.tmp 79) = U (x >>> 10) := hst.got 6 (hdep 6 (by kernel_rfl))
   have hr : (execOp a.eval (opAt ops197_12 7)).run Tryz.prog W0 = .ok (.value (U (((rotr x 17) ^^^ (rotr x 19)) ^^^ (x >>> 10)))) W0 := run_xor32 (show (opAt ops197_12 7).op = .binOp .xor 184 (.tmp 77) (.tmp 79) 184 from (by kernel_rfl)) g4 g6
   exact op_value ho (by kernel_rfl) hr (made_val (d := 80) (by kernel_rfl) rfl rfl (fun _ _ _ _ h => h))
 | 8, _, h1, hdep, ho =>
   have hw : w = W0 := hst.world
   obtain rfl : W0 = w := hw.symm
   have g7 : a.eval (.tmp 80) = U (((rotr x 17) ^^^ (rotr x 19)) ^^^ (x >>> 10)) := hst.got 7 (hdep 7 (by kernel_rfl))
   have hr : (execOp a.eval (opAt ops197_12 8)).run Tryz.prog W0 = .ok (.value (U (((rotr x 17) ^^^ (rotr x 19)) ^^^ (x >>> 10)))) W0 := run_moved_as (x := .tmp 80) (by kernel_rfl) g7
   exact op_value ho (by kernel_rfl) hr (made_val (d := 9) (by kernel_rfl) rfl rfl (fun _ _ _ _ h => h))
 | k + 9, hi, _, _, _ => exact absurd hi (by omega)
noncomputable def ops197_13 : Array Oper := (Tryz.f197.body.bind (inCode 13)).getD #[]
def sl197_13 : Nat → Nat
 | 0 => 81
 | 1 => 82
 | 2 => 83
 | 3 => 84
 | 4 => 85
 | 5 => 86
 | 6 => 87
 | 7 => 88
 | 8 => 89
 | 9 => 90
 | 10 => 91
 | 11 => 92
 | 12 => 93
 | 13 => 94
 | 14 => 95
 | 15 => 1000001
 | _ => 0
def R197_13 (c : Nat) (ii : Nat) (w16 : BitVec 32) (w7 : BitVec 32) (p : BitVec 32) (q : BitVec 32) (y : Value) : Nat → Value → World → Prop
 | 0, v, _ => v = .int .i64 (ii : Int)
 | 1, v, _ => v = .int .i64 (ii : Int)
 | 2, v, _ => v = .int .i64 (ii - 16 : Int)
 | 3, v, _ => v = .pointer (some ⟨c, 0 + (ii - 16), none⟩)
 | 4, v, _ => v = U w16
 | 5, v, _ => v = U p
 | 6, v, _ => v = U (w16 + p)
 | 7, v, _ => v = .int .i64 (ii : Int)
 | 8, v, _ => v = .int .i64 (ii - 7 : Int)
 | 9, v, _ => v = .pointer (some ⟨c, 0 + (ii - 7), none⟩)
 | 10, v, _ => v = U w7
 | 11, v, _ => v = U ((w16 + p) + w7)
 | 12, v, _ => v = U q
 | 13, v, _ => v = U (((w16 + p) + w7) + q)
 | 14, v, _ => v = .pointer (some ⟨c, 0 + ii, none⟩)
 | 15, v, _ => True
 | _, _, _ => True
def J197_13 (W0 : World) (c : Nat) (ii : Nat) (w16 : BitVec 32) (w7 : BitVec 32) (p : BitVec 32) (q : BitVec 32) (y : Value) (L : Array Bool) (w : World) : Prop := (L.getD 15 false = false → w = W0) ∧ (L.getD 15 false = true → w = W0.setCell ⟨c, 0 + ii, none⟩ (U (((w16 + p) + w7) + q)))
theorem J197_13_any {W0 : World} {c : Nat} {ii : Nat} {w16 : BitVec 32} {w7 : BitVec 32} {p : BitVec 32} {q : BitVec 32} {y : Value} {L : Array Bool} {w : World} (i : Nat) (hi : i ≠ 15) (h : J197_13 W0 c ii w16 w7 p q y L w) : J197_13 W0 c ii w16 w7 p q y (L.setIfInBounds i true) w := by
 obtain ⟨h0, h1⟩ := h
 exact ⟨fun h => h0 (unset h), fun h => h1 (set_ne (by omega) h)⟩
set_option maxHeartbeats 3200000 in
theorem reg197_13 {ops : Array Oper} (ho : ops = ops197_13) {Q : Exit → Act → World → Prop} {a0 : Act} {w0 W0 : World} (hW : w0.drew = W0) {c : Nat} {ii : Nat} {w16 : BitVec 32} {w7 : BitVec 32} {p : BitVec 32} {q : BitVec 32} {y : Value} (h16 : 16 ≤ ii) (hii : ii < 64) (c16 : W0.cell? ⟨c, 0 + (ii - 16), none⟩ = some (U w16)) (c7 : W0.cell? ⟨c, 0 + (ii - 7), none⟩ = some (U w7)) (cw : W0.cell? ⟨c, 0 + ii, none⟩ = some y) (fw : W0.frozen? ⟨c, 0 + ii, none⟩ = false) (hs3 : a0.eval (.tmp 3) = .pointer (some ⟨c, 0, none⟩)) (hs5 : a0.eval (.tmp 5) = .int .i64 (ii : Int)) (hs8 : a0.eval (.tmp 8) = U p) (hs9 : a0.eval (.tmp 9) = U q) (hsz : a0.tmps.size = 97)
  (HK : ∀ a, a.defers = a0.defers → a.tmps.size = 97 → (∀ s, freeB ops197_13 s = true → a.eval (.tmp s) = a0.eval (.tmp s)) → (∀ i, i < 16 → R197_13 c ii w16 w7 p q y i (a.eval (.tmp (sl197_13 i))) (W0.setCell ⟨c, 0 + ii, none⟩ (U (((w16 + p) + w7) + q)))) → Q .normal a (W0.setCell ⟨c, 0 + ii, none⟩ (U (((w16 + p) + w7) + q)))) : (Code.region 13 ops true).wp Tryz.prog Q a0 w0 := by
 subst ho
 refine region_made (n := 16) (sl := sl197_13) (J := J197_13 W0 c ii w16 w7 p q y) (R := R197_13 c ii w16 w7 p q y) (by kernel_rfl) (by kernel_rfl) (by kernel_rfl) (by rw [hsz]; kernel_rfl) ?_ (by rw [hW]; exact ⟨fun _ => rfl, fun h => by simp [Array.getD] at h⟩) (fun L a w hall hf => ?_)
 rotate_left
 ·have hw1 : w = W0.setCell ⟨c, 0 + ii, none⟩ (U (((w16 + p) + w7) + q)) := hf.world.2 (hall 15 (by decide))
  subst w
  exact HK a hf.defers (hf.size.trans hsz) hf.rest (fun i hi => hf.got i (hall i hi))
 intro i hi L a w hs h1 hdep hd hst ho
 clear HK
 match i, hi, h1, hdep, ho with
 | 0, _, h1, hdep, ho =>
   have JJ := J197_13_any 0 (by decide) hst.world
   have s5 : a.eval (.tmp 5) = .int .i64 (ii : Int) := (hst.rest 5 (by kernel_rfl)).trans hs5
   have hr : (execOp a.eval (opAt ops197_13 0)).run Tryz.prog w = .ok (.value (.int .i64 (ii : Int))) w := run_moved (x := .tmp 5) (by kernel_rfl) s5
   exact op_value ho (by kernel_rfl) hr (made_val (d := 81) (by kernel_rfl) rfl JJ (fun _ _ _ _ h => h))
 | 1, _, h1, hdep, ho =>
   have JJ := J197_13_any 1 (by decide) hst.world
   have s5 : a.eval (.tmp 5) = .int .i64 (ii : Int) := (hst.rest 5 (by kernel_rfl)).trans hs5
   have hr : (execOp a.eval (opAt ops197_13 1)).run Tryz.prog w = .ok (.value (.int .i64 (ii : Int))) w := run_moved (x := .tmp 5) (by kernel_rfl) s5
   exact op_value ho (by kernel_rfl) hr (made_val (d := 82) (by kernel_rfl) rfl JJ (fun _ _ _ _ h => h))
 | 2, _, h1, hdep, ho =>
   have JJ := J197_13_any 2 (by decide) hst.world
   have g1 : a.eval (.tmp 82) = .int .i64 (ii : Int) := hst.got 1 (hdep 1 (by kernel_rfl))
   have hr : (execOp a.eval (opAt ops197_13 2)).run Tryz.prog w = .ok (.value (.int .i64 (ii - 16 : Int))) w := run_sub64 (by rw [IntKind.wrap_i64]; omega) (show (opAt ops197_13 2).op = .binOp .sub 3 (.tmp 82) (.const (.int .i64 16)) 3 from (by kernel_rfl)) g1 rfl
   exact op_value ho (by kernel_rfl) hr (made_val (d := 83) (by kernel_rfl) rfl JJ (fun _ _ _ _ h => h))
 | 3, _, h1, hdep, ho =>
   have JJ := J197_13_any 3 (by decide) hst.world
   have s3 : a.eval (.tmp 3) = .pointer (some ⟨c, 0, none⟩) := (hst.rest 3 (by kernel_rfl)).trans hs3
   have g2 : a.eval (.tmp 83) = .int .i64 (ii - 16 : Int) := hst.got 2 (hdep 2 (by kernel_rfl))
   have hr : (execOp a.eval (opAt ops197_13 3)).run Tryz.prog w = .ok (.value (.pointer (some ⟨c, 0 + (ii - 16), none⟩))) w := run_idx186 (k := ii - 16) (by omega) (by omega) (show (opAt ops197_13 3).op = .indexAddr 186 (.tmp 3) (.tmp 83) from (by kernel_rfl)) s3 g2
   exact op_value ho (by kernel_rfl) hr (made_val (d := 84) (by kernel_rfl) rfl JJ (fun _ _ _ _ h => h))
 | 4, _, h1, hdep, ho =>
   have JJ := J197_13_any 4 (by decide) hst.world
   have hw : w = W0 := hst.world.1 (unlisted hs hd h1 (show waits .any ops197_13 15 4 = true from (by kernel_rfl)))
   obtain rfl : W0 = w := hw.symm
   have g3 : a.eval (.tmp 84) = .pointer (some ⟨c, 0 + (ii - 16), none⟩) := hst.got 3 (hdep 3 (by kernel_rfl))
   have hr : (execOp a.eval (opAt ops197_13 4)).run Tryz.prog W0 = .ok (.value (U w16)) W0 := run_load184 c16 (show (opAt ops197_13 4).op = .load 184 (.tmp 84) from (by kernel_rfl)) g3
   exact op_value ho (by kernel_rfl) hr (made_val (d := 85) (by kernel_rfl) rfl JJ (fun _ _ _ _ h => h))
 | 5, _, h1, hdep, ho =>
   have JJ := J197_13_any 5 (by decide) hst.world
   have s8 : a.eval (.tmp 8) = U p := (hst.rest 8 (by kernel_rfl)).trans hs8
   have hr : (execOp a.eval (opAt ops197_13 5)).run Tryz.prog w = .ok (.value (U p)) w := run_moved (x := .tmp 8) (by kernel_rfl) s8
   exact op_value ho (by kernel_rfl) hr (made_val (d := 86) (by kernel_rfl) rfl JJ (fun _ _ _ _ h => h))
 | 6, _, h1, hdep, ho =>
   have JJ := J197_13_any 6 (by decide) hst.world
   have g4 : a.eval (.tmp 85) = U w16 := hst.got 4 (hdep 4 (by kernel_rfl))
   have g5 : a.eval (.tmp 86) = U p := hst.got 5 (hdep 5 (by kernel_rfl))
   have hr : (execOp a.eval (opAt ops197_13 6)).run Tryz.prog w = .ok (.value (U (w16 + p))) w := run_add32 (show (opAt ops197_13 6).op = .binOp .add 184 (.tmp 85) (.tmp 86) 184 from (by kernel_rfl)) g4 g5
   exact op_value ho (by kernel_rfl) hr (made_val (d := 87) (by kernel_rfl) rfl JJ (fun _ _ _ _ h => h))
 | 7, _, h1, hdep, ho =>
   have JJ := J197_13_any 7 (by decide) hst.world
   have s5 : a.eval (.tmp 5) = .int .i64 (ii : Int) := (hst.rest 5 (by kernel_rfl)).trans hs5
   have hr : (execOp a.eval (opAt ops197_13 7)).run Tryz.prog w = .ok (.value (.int .i64 (ii : Int))) w := run_moved (x := .tmp 5) (by kernel_rfl) s5
   exact op_value ho (by kernel_rfl) hr (made_val (d := 88) (by kernel_rfl) rfl JJ (fun _ _ _ _ h => h))
 | 8, _, h1, hdep, ho =>
   have JJ := J197_13_any 8 (by decide) hst.world
   have g7 : a.eval (.tmp 88) = .int .i64 (ii : Int) := hst.got 7 (hdep 7 (by kernel_rfl))
   have hr : (execOp a.eval (opAt ops197_13 8)).run Tryz.prog w = .ok (.value (.int .i64 (ii - 7 : Int))) w := run_sub64 (by rw [IntKind.wrap_i64]; omega) (show (opAt ops197_13 8).op = .binOp .sub 3 (.tmp 88) (.const (.int .i64 7)) 3 from (by kernel_rfl)) g7 rfl
   exact op_value ho (by kernel_rfl) hr (made_val (d := 89) (by kernel_rfl) rfl JJ (fun _ _ _ _ h => h))
 | 9, _, h1, hdep, ho =>
   have JJ := J197_13_any 9 (by decide) hst.world
   have s3 : a.eval (.tmp 3) = .pointer (some ⟨c, 0, none⟩) := (hst.rest 3 (by kernel_rfl)).trans hs3
   have g8 : a.eval (.tmp 89) = .int .i64 (ii - 7 : Int) := hst.got 8 (hdep 8 (by kernel_rfl))
   have hr : (execOp a.eval (opAt ops197_13 9)).run Tryz.prog w = .ok (.value (.pointer (some ⟨c, 0 + (ii - 7), none⟩))) w := run_idx186 (k := ii - 7) (by omega) (by omega) (show (opAt ops197_13 9).op = .indexAddr 186 (.tmp 3) (.tmp 89) from (by kernel_rfl)) s3 g8
   exact op_value ho (by kernel_rfl) hr (made_val (d := 90) (by kernel_rfl) rfl JJ (fun _ _ _ _ h => h))
 | 10, _, h1, hdep, ho =>
   have JJ := J197_13_any 10 (by decide) hst.world
   have hw : w = W0 := hst.world.1 (unlisted hs hd h1 (show waits .any ops197_13 15 10 = true from (by kernel_rfl)))
   obtain rfl : W0 = w := hw.symm
   have g9 : a.eval (.tmp 90) = .pointer (some ⟨c, 0 + (ii - 7), none⟩) := hst.got 9 (hdep 9 (by kernel_rfl))
   have hr : (execOp a.eval (opAt ops197_13 10)).run Tryz.prog W0 = .ok (.value (U w7)) W0 := run_load184 c7 (show (opAt ops197_13 10).op = .load 184 (.tmp 90) from (by kernel_rfl)) g9
   exact op_value ho (by kernel_rfl) hr (made_val (d := 91) (by kernel_rfl) rfl JJ (fun _ _ _ _ h => h))
 | 11, _, h1, hdep, ho =>
   have JJ := J197_13_any 11 (by decide) hst.world
   have g6 : a.eval (.tmp 87) = U (w16 + p) := hst.got 6 (hdep 6 (by kernel_rfl))
   have g10 : a.eval (.tmp 91) = U w7 := hst.got 10 (hdep 10 (by kernel_rfl))
   have hr : (execOp a.eval (opAt ops197_13 11)).run Tryz.prog w = .ok (.value (U ((w16 + p) + w7))) w := run_add32 (show (opAt ops197_13 11).op = .binOp .add 184 (.tmp 87) (.tmp 91) 184 from (by kernel_rfl)) g6 g10
   exact op_value ho (by kernel_rfl) hr (made_val (d := 92) (by kernel_rfl) rfl JJ (fun _ _ _ _ h => h))
 | 12, _, h1, hdep, ho =>
   have JJ := J197_13_any 12 (by decide) hst.world
   have s9 : a.eval (.tmp 9) = U q := (hst.rest 9 (by kernel_rfl)).trans hs9
   have hr : (execOp a.eval (opAt ops197_13 12)).run Tryz.prog w = .ok (.value (U q)) w := run_moved (x := .tmp 9) (by kernel_rfl) s9
   exact op_value ho (by kernel_rfl) hr (made_val (d := 93) (by kernel_rfl) rfl JJ (fun _ _ _ _ h => h))
 | 13, _, h1, hdep, ho =>
   have JJ := J197_13_any 13 (by decide) hst.world
   have g11 : a.eval (.tmp 92) = U ((w16 + p) + w7) := hst.got 11 (hdep 11 (by kernel_rfl))
   have g12 : a.eval (.tmp 93) = U q := hst.got 12 (hdep 12 (by kernel_rfl))
   have hr : (execOp a.eval (opAt ops197_13 13)).run Tryz.prog w = .ok (.value (U (((w16 + p) + w7) + q))) w := run_add32 (show (opAt ops197_13 13).op = .binOp .add 184 (.tmp 92) (.tmp 93) 184 from (by kernel_rfl)) g11 g12
   exact op_value ho (by kernel_rfl) hr (made_val (d := 94) (by kernel_rfl) rfl JJ (fun _ _ _ _ h => h))
 | 14, _, h1, hdep, ho =>
   have JJ := J197_13_any 14 (by decide) hst.world
   have s3 : a.eval (.tmp 3) = .pointer (some ⟨c, 0, none⟩) := (hst.rest 3 (by kernel_rfl)).trans hs3
   have g0 : a.eval (.tmp 81) = .int .i64 (ii : Int) := hst.got 0 (hdep 0 (by kernel_rfl))
   have hr : (execOp a.eval (opAt ops197_13 14)).run Tryz.prog w = .ok (.value (.pointer (some ⟨c, 0 + ii, none⟩))) w := run_idx186 (k := ii) rfl (by omega) (show (opAt ops197_13 14).op = .indexAddr 186 (.tmp 3) (.tmp 81) from (by kernel_rfl)) s3 g0
   exact op_value ho (by kernel_rfl) hr (made_val (d := 95) (by kernel_rfl) rfl JJ (fun _ _ _ _ h => h))
 | 15, _, h1, hdep, ho =>
   have hw : w = W0 := hst.world.1 (unl h1)
   obtain rfl : W0 = w := hw.symm
   have g14 : a.eval (.tmp 95) = .pointer (some ⟨c, 0 + ii, none⟩) := hst.got 14 (hdep 14 (by kernel_rfl))
   have g13 : a.eval (.tmp 94) = U (((w16 + p) + w7) + q) := hst.got 13 (hdep 13 (by kernel_rfl))
   have hr := run_store184 cw fw (show (opAt ops197_13 15).op = .store 184 (.tmp 95) (.tmp 94) from (by kernel_rfl)) g14 g13
   refine op_skip ho (by kernel_rfl) hr (made_skip (by kernel_rfl) trivial ⟨fun h => by (rw [set_same (by rw [hs]; decide)] at h; cases h), fun _ => rfl⟩ (fun j _ _ u h => ?_))
   match j, h with
   | 0, h => exact (show _ = _ from h)
   | 1, h => exact (show _ = _ from h)
   | 2, h => exact (show _ = _ from h)
   | 3, h => exact (show _ = _ from h)
   | 4, h => exact (show _ = _ from h)
   | 5, h => exact (show _ = _ from h)
   | 6, h => exact (show _ = _ from h)
   | 7, h => exact (show _ = _ from h)
   | 8, h => exact (show _ = _ from h)
   | 9, h => exact (show _ = _ from h)
   | 10, h => exact (show _ = _ from h)
   | 11, h => exact (show _ = _ from h)
   | 12, h => exact (show _ = _ from h)
   | 13, h => exact (show _ = _ from h)
   | 14, h => exact (show _ = _ from h)
   | 15, h => exact (show True from h)
   | _ + 16, _ => exact trivial
 | k + 16, hi, _, _, _ => exact absurd hi (by omega)
end Go.Proofs.YtoimjnmhinfbkaaGreatDoor
