import Derived.Laws.IdiomStrings
import Derived.Stop.BytesEq
import Derived.Test.YtoimjnmhinfbkaaGreatDoorS14
import Derived.Test.YtoimjnmhinfbkaaGreatDoorS15
namespace Go.Proofs.YtoimjnmhinfbkaaGreatDoor
open Go.RowKit
set_option maxRecDepth 100000
section
variable {ρ : Operand → Value} {w : World} {o : Oper} {x y : Operand}
theorem run_conv5_3 {k : Nat} (ho : o.op = .convert 5 3 x) (h1 : ρ x = .int .u8 (k : Int)) (hk : k < 256) : (execOp ρ o).run Tryz.prog w = .ok (.value (.int .i64 (k : Int))) w := by
 have h0 : (0 : Int) ≤ (k : Int) := Int.natCast_nonneg _
 have h3 : (k : Int) < 256 := by omega
 unfold execOp; rw [ho]; simp only [h1]; go_simp
 rw [IntKind.wrap_i64]; omega
theorem run_quo16 {k : Nat} (ho : o.op = .binOp .quo 3 x y 3) (h1 : ρ x = .int .i64 (k : Int)) (h2 : ρ y = .int .i64 16) (hk : k < 256) : (execOp ρ o).run Tryz.prog w = .ok (.value (.int .i64 ((k / 16 : Nat) : Int))) w := by
 have h0 : (0 : Int) ≤ (k : Int) := Int.natCast_nonneg _
 have h3 : (k : Int) < 256 := by omega
 unfold execOp; rw [ho]; simp only [h1, h2]; go_simp
 rw [IntKind.wrap_i64]; omega
theorem run_rem16 {k : Nat} (ho : o.op = .binOp .rem 3 x y 3) (h1 : ρ x = .int .i64 (k : Int)) (h2 : ρ y = .int .i64 16) (hk : k < 256) : (execOp ρ o).run Tryz.prog w = .ok (.value (.int .i64 ((k % 16 : Nat) : Int))) w := by
 have h0 : (0 : Int) ≤ (k : Int) := Int.natCast_nonneg _
 have h3 : (k : Int) < 256 := by omega
 unfold execOp; rw [ho]; simp only [h1, h2]; go_simp
 rw [Int.tmod_eq_emod_of_nonneg h0]
theorem run_bs190 {a b : Int} {X : Nat} (hX : w.heap.size = X) (ho : o.op = .buildSlice 190 2 #[(0, x), (1, y)]) (h1 : ρ x = .int .i64 a) (h2 : ρ y = .int .i64 b) : (execOp ρ o).run Tryz.prog w = .ok (.value (.slice (some ⟨X, 0, none⟩) 2 2)) (w.alloc (.cells #[.int .i64 a, .int .i64 b] 3)) := by
 subst hX
 unfold execOp; rw [ho]; simp only [h1, h2]; go_simp
theorem run_len190 {A : Option Addr} {n c : Nat} (ho : o.op = .call { callee := .builtin .len, args := #[x], argTypes := #[190] }) (h1 : ρ x = .slice A n c) : (execOp ρ o).run Tryz.prog w = .ok (.value (.int .i64 (n : Int))) w := by
 unfold execOp; rw [ho]; simp only [h1]; go_simp
end
noncomputable def ops87_5 : Array Oper := (Tryz.f87.body.bind (inCode 5)).getD #[]
def sl87_5 : Nat → Nat
 | 0 => 14
 | 1 => 15
 | 2 => 16
 | 3 => 17
 | 4 => 18
 | 5 => 19
 | 6 => 20
 | 7 => 21
 | 8 => 22
 | 9 => 23
 | 10 => 24
 | 11 => 25
 | 12 => 26
 | 13 => 27
 | 14 => 28
 | _ => 0
def R87_5 (g : Nat) (cap : Nat) (kk : Nat) (len : Nat) (xb : Nat) (X : Nat) : Nat → Value → World → Prop
 | 0, v, _ => v = .slice (some ⟨g, 0, none⟩) len cap
 | 1, v, _ => v = .int .i64 (kk : Int)
 | 2, v, _ => v = .pointer (some ⟨g, kk, none⟩)
 | 3, v, _ => v = .int .u8 (xb : Int)
 | 4, v, _ => v = .int .i64 (xb : Int)
 | 5, v, _ => v = .int .i64 ((xb / 16 : Nat) : Int)
 | 6, v, _ => v = .slice (some ⟨g, 0, none⟩) len cap
 | 7, v, _ => v = .int .i64 (kk : Int)
 | 8, v, _ => v = .pointer (some ⟨g, kk, none⟩)
 | 9, v, _ => v = .int .u8 (xb : Int)
 | 10, v, _ => v = .int .i64 (xb : Int)
 | 11, v, _ => v = .int .i64 ((xb % 16 : Nat) : Int)
 | 12, v, _ => v = .slice (some ⟨X, 0, none⟩) 2 2
 | 13, v, _ => v = .int .i64 ((2 : Nat) : Int)
 | 14, v, _ => v = .int .i64 0
 | _, _, _ => True
def J87_5 (W0 : World) (g : Nat) (cap : Nat) (kk : Nat) (len : Nat) (xb : Nat) (X : Nat) (L : Array Bool) (w : World) : Prop := (L.getD 12 false = false → w = W0) ∧ (L.getD 12 false = true → w = W0.alloc (.cells #[.int .i64 ((xb / 16 : Nat) : Int), .int .i64 ((xb % 16 : Nat) : Int)] 3))
theorem J87_5_any {W0 : World} {g : Nat} {cap : Nat} {kk : Nat} {len : Nat} {xb : Nat} {X : Nat} {L : Array Bool} {w : World} (i : Nat) (hi : i ≠ 12) (h : J87_5 W0 g cap kk len xb X L w) : J87_5 W0 g cap kk len xb X (L.setIfInBounds i true) w := by
 obtain ⟨h0, h1⟩ := h
 exact ⟨fun h => h0 (unset h), fun h => h1 (set_ne (by omega) h)⟩
set_option maxHeartbeats 3200000 in
theorem reg87_5 {ops : Array Oper} (ho : ops = ops87_5) {Q : Exit → Act → World → Prop} {a0 : Act} {w0 W0 : World} (hW : w0.drew = W0) {g : Nat} {cap : Nat} {kk : Nat} {len : Nat} {xb : Nat} {X : Nat} (hX : W0.heap.size = X) (htl : kk < len) (hxb : xb < 256) (ct : W0.cell? ⟨g, kk, none⟩ = some (.int .u8 (xb : Int))) (ct2 : ∀ ob, (W0.alloc ob).cell? ⟨g, kk, none⟩ = some (.int .u8 (xb : Int))) (hs0 : a0.eval (.tmp 0) = .slice (some ⟨g, 0, none⟩) len cap) (hs4 : a0.eval (.tmp 4) = .int .i64 (kk : Int)) (hsz : a0.tmps.size = 50)
  (HK : ∀ a, a.defers = a0.defers → a.tmps.size = 50 → (∀ s, freeB ops87_5 s = true → a.eval (.tmp s) = a0.eval (.tmp s)) → (∀ i, i < 15 → R87_5 g cap kk len xb X i (a.eval (.tmp (sl87_5 i))) (W0.alloc (.cells #[.int .i64 ((xb / 16 : Nat) : Int), .int .i64 ((xb % 16 : Nat) : Int)] 3))) → Q .normal a (W0.alloc (.cells #[.int .i64 ((xb / 16 : Nat) : Int), .int .i64 ((xb % 16 : Nat) : Int)] 3))) : (Code.region 5 ops true).wp Tryz.prog Q a0 w0 := by
 subst ho
 refine region_made (n := 15) (sl := sl87_5) (J := J87_5 W0 g cap kk len xb X) (R := R87_5 g cap kk len xb X) (by kernel_rfl) (by kernel_rfl) (by kernel_rfl) (by rw [hsz]; kernel_rfl) ?_ (by rw [hW]; exact ⟨fun _ => rfl, fun h => by simp [Array.getD] at h⟩) (fun L a w hall hf => ?_)
 rotate_left
 ·have hw1 : w = W0.alloc (.cells #[.int .i64 ((xb / 16 : Nat) : Int), .int .i64 ((xb % 16 : Nat) : Int)] 3) := hf.world.2 (hall 12 (by decide))
  subst w
  exact HK a hf.defers (hf.size.trans hsz) hf.rest (fun i hi => hf.got i (hall i hi))
 intro i hi L a w hs h1 hdep hd hst ho
 clear HK
 match i, hi, h1, hdep, ho with
 | 0, _, h1, hdep, ho =>
   have JJ := J87_5_any 0 (by decide) hst.world
   have s0 : a.eval (.tmp 0) = .slice (some ⟨g, 0, none⟩) len cap := (hst.rest 0 (by kernel_rfl)).trans hs0
   have hr : (execOp a.eval (opAt ops87_5 0)).run Tryz.prog w = .ok (.value (.slice (some ⟨g, 0, none⟩) len cap)) w := run_moved (x := .tmp 0) (by kernel_rfl) s0
   exact op_value ho (by kernel_rfl) hr (made_val (d := 14) (by kernel_rfl) rfl JJ (fun _ _ _ _ h => h))
 | 1, _, h1, hdep, ho =>
   have JJ := J87_5_any 1 (by decide) hst.world
   have s4 : a.eval (.tmp 4) = .int .i64 (kk : Int) := (hst.rest 4 (by kernel_rfl)).trans hs4
   have hr : (execOp a.eval (opAt ops87_5 1)).run Tryz.prog w = .ok (.value (.int .i64 (kk : Int))) w := run_moved (x := .tmp 4) (by kernel_rfl) s4
   exact op_value ho (by kernel_rfl) hr (made_val (d := 15) (by kernel_rfl) rfl JJ (fun _ _ _ _ h => h))
 | 2, _, h1, hdep, ho =>
   have JJ := J87_5_any 2 (by decide) hst.world
   have g0 : a.eval (.tmp 14) = .slice (some ⟨g, 0, none⟩) len cap := hst.got 0 (hdep 0 (by kernel_rfl))
   have g1 : a.eval (.tmp 15) = .int .i64 (kk : Int) := hst.got 1 (hdep 1 (by kernel_rfl))
   have hr : (execOp a.eval (opAt ops87_5 2)).run Tryz.prog w = .ok (.value (.pointer (some ⟨g, kk, none⟩))) w := run_idx87 rfl htl (show (opAt ops87_5 2).op = .indexAddr 87 (.tmp 14) (.tmp 15) from (by kernel_rfl)) g0 g1
   exact op_value ho (by kernel_rfl) hr (made_val (d := 16) (by kernel_rfl) rfl JJ (fun _ _ _ _ h => h))
 | 3, _, h1, hdep, ho =>
   have JJ := J87_5_any 3 (by decide) hst.world
   have g2 : a.eval (.tmp 16) = .pointer (some ⟨g, kk, none⟩) := hst.got 2 (hdep 2 (by kernel_rfl))
   have hr : (execOp a.eval (opAt ops87_5 3)).run Tryz.prog w = .ok (.value (.int .u8 (xb : Int))) w := run_load5 (by cases hc : L.getD 12 false with | false => rw [hst.world.1 hc]; exact ct | true => rw [hst.world.2 hc]; exact ct2 _) (show (opAt ops87_5 3).op = .load 5 (.tmp 16) from (by kernel_rfl)) g2
   exact op_value ho (by kernel_rfl) hr (made_val (d := 17) (by kernel_rfl) rfl JJ (fun _ _ _ _ h => h))
 | 4, _, h1, hdep, ho =>
   have JJ := J87_5_any 4 (by decide) hst.world
   have g3 : a.eval (.tmp 17) = .int .u8 (xb : Int) := hst.got 3 (hdep 3 (by kernel_rfl))
   have hr : (execOp a.eval (opAt ops87_5 4)).run Tryz.prog w = .ok (.value (.int .i64 (xb : Int))) w := run_conv5_3 (show (opAt ops87_5 4).op = .convert 5 3 (.tmp 17) from (by kernel_rfl)) g3 hxb
   exact op_value ho (by kernel_rfl) hr (made_val (d := 18) (by kernel_rfl) rfl JJ (fun _ _ _ _ h => h))
 | 5, _, h1, hdep, ho =>
   have JJ := J87_5_any 5 (by decide) hst.world
   have g4 : a.eval (.tmp 18) = .int .i64 (xb : Int) := hst.got 4 (hdep 4 (by kernel_rfl))
   have hr : (execOp a.eval (opAt ops87_5 5)).run Tryz.prog w = .ok (.value (.int .i64 ((xb / 16 : Nat) : Int))) w := run_quo16 (show (opAt ops87_5 5).op = .binOp .quo 3 (.tmp 18) (.const (.int .i64 16)) 3 from (by kernel_rfl)) g4 rfl hxb
   exact op_value ho (by kernel_rfl) hr (made_val (d := 19) (by kernel_rfl) rfl JJ (fun _ _ _ _ h => h))
 | 6, _, h1, hdep, ho =>
   have JJ := J87_5_any 6 (by decide) hst.world
   have s0 : a.eval (.tmp 0) = .slice (some ⟨g, 0, none⟩) len cap := (hst.rest 0 (by kernel_rfl)).trans hs0
   have hr : (execOp a.eval (opAt ops87_5 6)).run Tryz.prog w = .ok (.value (.slice (some ⟨g, 0, none⟩) len cap)) w := run_moved (x := .tmp 0) (by kernel_rfl) s0
   exact op_value ho (by kernel_rfl) hr (made_val (d := 20) (by kernel_rfl) rfl JJ (fun _ _ _ _ h => h))
 | 7, _, h1, hdep, ho =>
   have JJ := J87_5_any 7 (by decide) hst.world
   have s4 : a.eval (.tmp 4) = .int .i64 (kk : Int) := (hst.rest 4 (by kernel_rfl)).trans hs4
   have hr : (execOp a.eval (opAt ops87_5 7)).run Tryz.prog w = .ok (.value (.int .i64 (kk : Int))) w := run_moved (x := .tmp 4) (by kernel_rfl) s4
   exact op_value ho (by kernel_rfl) hr (made_val (d := 21) (by kernel_rfl) rfl JJ (fun _ _ _ _ h => h))
 | 8, _, h1, hdep, ho =>
   have JJ := J87_5_any 8 (by decide) hst.world
   have g6 : a.eval (.tmp 20) = .slice (some ⟨g, 0, none⟩) len cap := hst.got 6 (hdep 6 (by kernel_rfl))
   have g7 : a.eval (.tmp 21) = .int .i64 (kk : Int) := hst.got 7 (hdep 7 (by kernel_rfl))
   have hr : (execOp a.eval (opAt ops87_5 8)).run Tryz.prog w = .ok (.value (.pointer (some ⟨g, kk, none⟩))) w := run_idx87 rfl htl (show (opAt ops87_5 8).op = .indexAddr 87 (.tmp 20) (.tmp 21) from (by kernel_rfl)) g6 g7
   exact op_value ho (by kernel_rfl) hr (made_val (d := 22) (by kernel_rfl) rfl JJ (fun _ _ _ _ h => h))
 | 9, _, h1, hdep, ho =>
   have JJ := J87_5_any 9 (by decide) hst.world
   have g8 : a.eval (.tmp 22) = .pointer (some ⟨g, kk, none⟩) := hst.got 8 (hdep 8 (by kernel_rfl))
   have hr : (execOp a.eval (opAt ops87_5 9)).run Tryz.prog w = .ok (.value (.int .u8 (xb : Int))) w := run_load5 (by cases hc : L.getD 12 false with | false => rw [hst.world.1 hc]; exact ct | true => rw [hst.world.2 hc]; exact ct2 _) (show (opAt ops87_5 9).op = .load 5 (.tmp 22) from (by kernel_rfl)) g8
   exact op_value ho (by kernel_rfl) hr (made_val (d := 23) (by kernel_rfl) rfl JJ (fun _ _ _ _ h => h))
 | 10, _, h1, hdep, ho =>
   have JJ := J87_5_any 10 (by decide) hst.world
   have g9 : a.eval (.tmp 23) = .int .u8 (xb : Int) := hst.got 9 (hdep 9 (by kernel_rfl))
   have hr : (execOp a.eval (opAt ops87_5 10)).run Tryz.prog w = .ok (.value (.int .i64 (xb : Int))) w := run_conv5_3 (show (opAt ops87_5 10).op = .convert 5 3 (.tmp 23) from (by kernel_rfl)) g9 hxb
   exact op_value ho (by kernel_rfl) hr (made_val (d := 24) (by kernel_rfl) rfl JJ (fun _ _ _ _ h => h))
 | 11, _, h1, hdep, ho =>
   have JJ := J87_5_any 11 (by decide) hst.world
   have g10 : a.eval (.tmp 24) = .int .i64 (xb : Int) := hst.got 10 (hdep 10 (by kernel_rfl))
   have hr : (execOp a.eval (opAt ops87_5 11)).run Tryz.prog w = .ok (.value (.int .i64 ((xb % 16 : Nat) : Int))) w := run_rem16 (show (opAt ops87_5 11).op = .binOp .rem 3 (.tmp 24) (.const (.int .i64 16)) 3 from (by kernel_rfl)) g10 rfl hxb
   exact op_value ho (by kernel_rfl) hr (made_val (d := 25) (by kernel_rfl) rfl JJ (fun _ _ _ _ h => h))
 | 12, _, h1, hdep, ho =>
   have hw : w = W0 := hst.world.1 (unl h1)
   obtain rfl : W0 = w := hw.symm
   have g5 : a.eval (.tmp 19) = .int .i64 ((xb / 16 : Nat) : Int) := hst.got 5 (hdep 5 (by kernel_rfl))
   have g11 : a.eval (.tmp 25) = .int .i64 ((xb % 16 : Nat) : Int) := hst.got 11 (hdep 11 (by kernel_rfl))
   have hr : (execOp a.eval (opAt ops87_5 12)).run Tryz.prog (W0) = .ok (.value (.slice (some ⟨X, 0, none⟩) 2 2)) (W0.alloc (.cells #[.int .i64 ((xb / 16 : Nat) : Int), .int .i64 ((xb % 16 : Nat) : Int)] 3)) := run_bs190 hX (show (opAt ops87_5 12).op = .buildSlice 190 2 #[(0, .tmp 19), (1, .tmp 25)] from (by kernel_rfl)) g5 g11
   refine op_value ho (by kernel_rfl) hr (made_val (d := 26) (by kernel_rfl) rfl ⟨fun h => by (rw [set_same (by rw [hs]; decide)] at h; cases h), fun _ => rfl⟩ (fun j _ _ u h => ?_))
   match j, h with
   | 0, h => exact (show _ = _ from h)
   | 1, h => exact (show _ = _ from h)
   | 2, h => exact (show _ = _ from h)
   | 3, h => exact (show _ = _ from h)
   | 4, h => exact (show _ = _ from h)
   | 5, h => exact (show _ = _ from h)
   | 6, h => exact (show _ = _ from h)
   | 7, h => exact (show _ = _ from h)
   | 8, h => exact (show _ = _ from h)
   | 9, h => exact (show _ = _ from h)
   | 10, h => exact (show _ = _ from h)
   | 11, h => exact (show _ = _ from h)
   | 12, h => exact (show _ = _ from h)
   | 13, h => exact (show _ = _ from h)
   | 14, h => exact (show _ = _ from h)
   | _ + 15, _ => exact trivial
 | 13, _, h1, hdep, ho =>
   have JJ := J87_5_any 13 (by decide) hst.world
   have g12 : a.eval (.tmp 26) = .slice (some ⟨X, 0, none⟩) 2 2 := hst.got 12 (hdep 12 (by kernel_rfl))
   have hr : (execOp a.eval (opAt ops87_5 13)).run Tryz.prog w = .ok (.value (.int .i64 ((2 : Nat) : Int))) w := run_len190 (show (opAt ops87_5 13).op = .call { callee := .builtin .len, args := #[.tmp 26], argTypes := #[190] } from (by kernel_rfl)) g12
   exact op_value ho (by kernel_rfl) hr (made_val (d := 27) (by kernel_rfl) rfl JJ (fun _ _ _ _ h => h))
 | 14, _, h1, hdep, ho =>
   have JJ := J87_5_any 14 (by decide) hst.world
   have hr : (execOp a.eval (opAt ops87_5 14)).run Tryz.prog w = .ok (.value (.int .i64 0)) w := run_moved (x := .const (.int .i64 0)) (by kernel_rfl) rfl
   exact op_value ho (by kernel_rfl) hr (made_val (d := 28) (by kernel_rfl) rfl JJ (fun _ _ _ _ h => h))
 | k + 15, hi, _, _, _ => exact absurd hi (by omega)
set_option maxHeartbeats 3200000 in
theorem turn87_5 {x0 x1 x2 x3 x4 x5 x6 x7 x8 x9 x10 x11 x12 x13 x14 x15 x16 x17 x18 x19 x20 x21 x22 x23 x24 x25 x26 x27 x28 x29 x30 x31 x32 x33 x34 x35 x36 x37 x38 x39 x40 x41 x42 x43 x44 x45 x46 x47 x48 x49 z26 z27 z28 : Value} {D : _} {a : Act} (hl : Left 50 ops87_5 a (Act.mk #[x0, x1, x2, x3, x4, x5, x6, x7, x8, x9, x10, x11, x12, x13, x14, x15, x16, x17, x18, x19, x20, x21, x22, x23, x24, x25, x26, x27, x28, x29, x30, x31, x32, x33, x34, x35, x36, x37, x38, x39, x40, x41, x42, x43, x44, x45, x46, x47, x48, x49] D)) (h26 : a.eval (.tmp 26) = z26) (h27 : a.eval (.tmp 27) = z27) (h28 : a.eval (.tmp 28) = z28) : ∃ z14 z15 z16 z17 z18 z19 z20 z21 z22 z23 z24 z25, a = ⟨#[x0, x1, x2, x3, x4, x5, x6, x7, x8, x9, x10, x11, x12, x13, z14, z15, z16, z17, z18, z19, z20, z21, z22, z23, z24, z25, z26, z27, z28, x29, x30, x31, x32, x33, x34, x35, x36, x37, x38, x39, x40, x41, x42, x43, x44, x45, x46, x47, x48, x49], D⟩ := by
 subst h26
 subst h27
 subst h28
 exact ⟨a.eval (.tmp 14), a.eval (.tmp 15), a.eval (.tmp 16), a.eval (.tmp 17), a.eval (.tmp 18), a.eval (.tmp 19), a.eval (.tmp 20), a.eval (.tmp 21), a.eval (.tmp 22), a.eval (.tmp 23), a.eval (.tmp 24), a.eval (.tmp 25), (turn_gen [14, 15, 16, 17, 18, 19, 20, 21, 22, 23, 24, 25, 26, 27, 28] (by kernel_rfl) (by kernel_rfl) hl.1 hl.2.1 hl.2.2).trans (by kernel_rfl)⟩
theorem hexD_lo {n : Nat} (h : n < 10) : (48 + (n : Int)) = ((hexD n).toNat : Int) := by
 have h1 : ∀ n < 10, 48 + n = (hexD n).toNat := by decide
 have := h1 n h; omega
theorem hexD_hi {n : Nat} (h : 10 ≤ n) (h2 : n < 16) : (97 + (n : Int) - 10) = ((hexD n).toNat : Int) := by
 have h1 : ∀ n < 16, 10 ≤ n → 87 + n = (hexD n).toNat := by decide
 have := h1 n h2 h; omega
theorem addr_add0 (g j : Nat) : (⟨g, 0, none⟩ : Addr).add j = ⟨g, j, none⟩ := by
 unfold Addr.add
 split <;> simp_all
def byteV (l : List UInt8) : List Value := l.map fun c => .int .u8 (c.toNat : Int)
set_option maxHeartbeats 3200000 in
theorem dhex_any (l : List Nat) (g cap : Nat) (w : World) (hl : ∀ x ∈ l, x < 256) (h32 : l.length = 32) (hb : ∀ j, (h : j < l.length) → w.cell? ⟨g, j, none⟩ = some (.int .u8 (l[j] : Int))) :
  Calls Tryz.prog 87 #[.slice (some ⟨g, 0, none⟩) 32 cap] w fun e w' => e = .returned (.string ⟨(hexL l).toArray⟩) ∧ Below w.heap.size w w' := by
 obtain ⟨i0, hi0, hz0, hzz1, hzz2⟩ := info_parts info5
 have HL := Lib.hid hl
 have HB := Lib.hid hb
 have H32 := Lib.hid h32
 clear hl hb h32
 go_enter Tryz.func87, Tryz.ntmps87
 go_wp2_with fail
 have hown := Lib.hid (World.ownsRow_made (e := 5) (size := 1) (base := w.heap.size) w #[] 0 (Nat.le_refl _) (by decide) rfl)
 have hbl := Lib.hid ((Below.refl w.heap.size w).alloc (Nat.le_refl _) (.cells #[] 5))
 go_loopw [3, 4] (fun v0 i wr => ∃ (k : Nat) (v : Value), v0 = v ∧ k ≤ 32 ∧ i = .int .i64 k ∧ wr.ownsRow w.heap.size 5 1 v (2 * k) (byteV (hexL (l.take k))) ∧ Below w.heap.size w wr) (fun _ i _ => 32 - (intOf i).toNat)
 case atStart => exact ⟨0, _, rfl, by omega, rfl, hown.out, hbl.out⟩
 case round =>
  clear hown hbl
  obtain ⟨k, v, hv0, hk, rfl, hown, hbl⟩ := hrel
  rw [hv0]
  clear hv0
  have HO := Lib.hid hown
  have HBL := Lib.hid hbl
  have hk0 : (0 : Int) ≤ (k : Int) := Int.natCast_nonneg _
  clear hown hbl
  by_cases hlt : k < 32
  ·have hlt' : (k : Int) < 32 := by omega
   have hkl : k < l.length := by rw [H32.out]; exact hlt
   have ha := HB.out k hkl
   obtain ⟨xb, hxb⟩ : ∃ xb, xb = l[k] := ⟨_, rfl⟩
   have hx256 : xb < 256 := by rw [hxb]; exact HL.out _ (List.getElem_mem hkl)
   rw [← hxb] at ha
   have htk : hexL (l.take (k + 1)) = hexL (l.take k) ++ [hexD (xb / 16), hexD (xb % 16)] := by
    rw [← List.take_append_getElem hkl, hexL_snoc, hxb, List.append_assoc]; rfl
   have HTK := Lib.hid htk
   have hc := (HBL.out.cell (World.block_lt_of_cell? w _ ha)).trans ha
   clear htk hxb ha
   obtain ⟨X, hX⟩ : ∃ X, X = wr.heap.size := ⟨_, rfl⟩
   go_upto_region 5 with (fail)
   rename_i Kf hKf
   refine reg87_5 (g := g) (cap := cap) (kk := k) (len := 32) (xb := xb) (X := X) (by kernel_rfl) rfl hX.symm hlt hx256 (by rw [World.cell?_drew]; exact hc) (fun ob => cell_below ((Below.refl wr.drew.heap.size wr.drew).alloc (Nat.le_refl _) ob) (by rw [World.cell?_drew]; exact hc)) rfl rfl rfl (fun a hd hs hr hR => ?_)
   obtain ⟨z14, z15, z16, z17, z18, z19, z20, z21, z22, z23, z24, z25, rfl⟩ := turn87_5 ⟨hd, hs, hr⟩ (hR 12 (by decide)) (hR 13 (by decide)) (hR 14 (by decide))
   clear hd hs hr hR hc
   generalize hW2 : World.alloc _ _ = W2
   have HO2 := Lib.hid (show W2.ownsRow w.heap.size 5 1 v (2 * k + 0) (byteV (hexL (l.take k) ++ [hexD (xb / 16), hexD (xb % 16)].take 0)) from by rw [← hW2, List.take_zero, List.append_nil]; exact (show wr.drew.ownsRow w.heap.size 5 1 v (2 * k) (byteV (hexL (l.take k))) from HO.out).alloc _)
   have HB2 := Lib.hid (show Below w.heap.size w W2 from by rw [← hW2]; exact HBL.out.drew.alloc HBL.out.size _)
   have HX2 := Lib.hid (show W2.heap[X]? = some (.cells #[.int .i64 ((xb / 16 : Nat) : Int), .int .i64 ((xb % 16 : Nat) : Int)] 3 (0, 0)) from by rw [← hW2, hX]; exact alloc_at rfl)
   have hXw : w.heap.size ≤ X := by have := HBL.out.size; omega
   clear hW2 HO HBL hX
   refine hKf _ _ ?_
   clear hKf
   go_wp2_with fail
   go_loopw [3, 28] (fun v1 i w3 => ∃ (e : Nat) (v : Value), v1 = v ∧ e ≤ 2 ∧ i = .int .i64 e ∧ w3.ownsRow w.heap.size 5 1 v (2 * k + e) (byteV (hexL (l.take k) ++ [hexD (xb / 16), hexD (xb % 16)].take e)) ∧ w3.heap[X]? = some (.cells #[.int .i64 ((xb / 16 : Nat) : Int), .int .i64 ((xb % 16 : Nat) : Int)] 3 (0, 0)) ∧ Below w.heap.size w w3) (fun _ i _ => 2 - (intOf i).toNat)
   case atStart => exact ⟨0, _, rfl, by omega, rfl, HO2.out, HX2.out, HB2.out⟩
   case round =>
    clear HO2 HX2 HB2
    obtain ⟨e, v, hv0, he, rfl, hown, hx, hbl⟩ := hrel
    rw [hv0]
    clear hv0
    have HO := Lib.hid hown
    have HX := Lib.hid hx
    have HBL := Lib.hid hbl
    have he0 : (0 : Int) ≤ (e : Int) := Int.natCast_nonneg _
    clear hown hx hbl
    by_cases hlte : e < 2
    ·have hlte' : (e : Int) < 2 := by omega
     obtain ⟨n, hn⟩ : ∃ n, n = if e = 0 then xb / 16 else xb % 16 := ⟨_, rfl⟩
     have hn16 : n < 16 := by rw [hn]; split <;> omega
     have hcn := (cell_of_row wr X e _ 3 (0, 0) HX.out).trans (show _ = some (Value.int .i64 (n : Int)) from by
      rw [hn]
      match e, hlte with
      | 0, _ => rfl
      | 1, _ => rfl)
     have htk : [hexD (xb / 16), hexD (xb % 16)].take (e + 1) = [hexD (xb / 16), hexD (xb % 16)].take e ++ [hexD n] := by
      rw [hn]
      match e, hlte with
      | 0, _ => rfl
      | 1, _ => rfl
     have HTE := Lib.hid htk
     have hn0 : (0 : Int) ≤ (n : Int) := Int.natCast_nonneg _
     have hBs := HBL.out.size
     have hTza : ∀ ob, w.heap.size ≤ (wr.alloc ob).heap.size := fun ob => by rw [alloc_size1]; omega
     have hne : some X ≠ v.ownBlock := fun ee => own_ne_blk HO.out HX.out (.inl (by decide)) ee.symm
     have hXl : X < wr.heap.size := by
      rcases Nat.lt_or_ge X wr.heap.size with h | h
      ·exact h
      ·have hx := HX.out
       rw [Array.getElem?_eq_none (by simpa using h)] at hx
       cases hx
     clear hn htk
     by_cases h10 : n < 10
     ·have h10' : (n : Int) < 10 := by omega
      have hv := hexD_lo h10
      have HV := Lib.hid hv
      clear hv
      go_wp2_with (at_builtin; (refine wpList_append_own _ rfl _ _ 87 rfl w.heap.size 5 i0 (.int .u8 0) 1 1 Tryz.underlying87 hi0 hz0 hzz1 hzz2 rfl (by decide) _ (2 * k + e) _ rfl (HO.out.alloc _) ⟨wr.heap.size, 0, none⟩ 1 1 [_] rfl rfl (cell_one_new _ _ _) (by simp [Value.oneCell']) (by unfold maxLen; omega) (by omega) (hTza _) ?_; intro v' w4 hown' hgrow hnil))
      go_roundw
      case rel =>
       refine ⟨e + 1, _, rfl, by omega, (by first | rfl | go_num), ?_, ((hgrow.block X (by rw [alloc_size1]; omega) hne).trans (alloc_before hXl)).trans HX.out, (HBL.out.alloc hBs _).grown hgrow (hTza _) (fun q hq => (HO.out.lt q hq).1)⟩
       rw [HTE.out, ← List.append_assoc, byteV, List.map_append]
       have e1 : Value.int .u8 (48 + (n : Int)) = .int .u8 ((hexD n).toNat : Int) := congrArg _ HV.out
       rw [e1] at hown'
       exact hown'
      case measure => simp [intOf]; omega
     ·have h10' : ¬ (n : Int) < 10 := by omega
      have h16' : (n : Int) < 16 := by omega
      have hv := hexD_hi (show 10 ≤ n by omega) hn16
      have HV := Lib.hid hv
      clear hv
      go_wp2_with (at_builtin; (refine wpList_append_own _ rfl _ _ 87 rfl w.heap.size 5 i0 (.int .u8 0) 1 1 Tryz.underlying87 hi0 hz0 hzz1 hzz2 rfl (by decide) _ (2 * k + e) _ rfl (HO.out.alloc _) ⟨wr.heap.size, 0, none⟩ 1 1 [_] rfl rfl (cell_one_new _ _ _) (by simp [Value.oneCell']) (by unfold maxLen; omega) (by omega) (hTza _) ?_; intro v' w4 hown' hgrow hnil))
      go_roundw
      case rel =>
       refine ⟨e + 1, _, rfl, by omega, (by first | rfl | go_num), ?_, ((hgrow.block X (by rw [alloc_size1]; omega) hne).trans (alloc_before hXl)).trans HX.out, (HBL.out.alloc hBs _).grown hgrow (hTza _) (fun q hq => (HO.out.lt q hq).1)⟩
       rw [HTE.out, ← List.append_assoc, byteV, List.map_append]
       have e1 : Value.int .u8 (97 + (n : Int) - 10) = .int .u8 ((hexD n).toNat : Int) := congrArg _ HV.out
       rw [e1] at hown'
       exact hown'
      case measure => simp [intOf]; omega
    ·have hlte' : ¬ (e : Int) < 2 := by omega
     obtain rfl : e = 2 := by omega
     have hfin : hexL (l.take k) ++ [hexD (xb / 16), hexD (xb % 16)].take 2 = hexL (l.take (k + 1)) := HTK.out.symm
     rw [hfin] at HO
     clear hfin HTK HX
     go_wp2
     go_roundw
     case rel => exact ⟨k + 1, _, rfl, by omega, (by first | rfl | go_num), by rw [show 2 * (k + 1) = 2 * k + 2 by omega]; exact HO.out, HBL.out⟩
     case measure => simp [intOf]; omega
  ·have hlt' : ¬ (k : Int) < 32 := by omega
   obtain rfl : k = 32 := by omega
   rw [List.take_of_length_le (by rw [H32.out]; exact Nat.le_refl _)] at HO
   obtain ⟨g', c', hv⟩ := own_form HO.out (by omega)
   subst hv
   have hhl : (hexL l).length = 64 := by rw [hexL_length, H32.out]
   have hcv := run_convert_bytes_back (P := Tryz.prog) wr 87 9 5 ⟨g', 0, none⟩ c' (hexL l) Tryz.underlying87 Tryz.underlying5 Tryz.underlying9 (fun j hj => by
    have h1 := HO.out.cellAt j (by omega)
    rw [byteV, List.getElem?_map, List.getElem?_eq_getElem hj] at h1
    rw [addr_add0]
    exact h1)
   rw [hhl] at hcv
   have hcv2 : (convert 87 9 (.slice (some ⟨g', 0, none⟩) (2 * 32) c')).run Tryz.prog wr = .ok (.string ⟨(hexL l).toArray⟩) wr := hcv
   clear hhl hcv
   go_wp2
   go_ret
   exact ⟨rfl, HBL.out⟩
end Go.Proofs.YtoimjnmhinfbkaaGreatDoor

namespace Go.Proofs.YtoimjnmhinfbkaaGreatDoor
open Go.RowKit
set_option maxRecDepth 100000
/-! a blob's name: bytes and figures, without a program. -/
/-- the name of bytes. -/
def nmL (l : List Nat) : List UInt8 := nameL (shaL docH docK l)
theorem sha_length (il kl : List (BitVec 32)) (l : List Nat) : (shaL il kl l).length = 32 := by unfold shaL; rw [outB_length]
theorem sha_bytes (il kl : List (BitVec 32)) (l : List Nat) : ∀ x ∈ shaL il kl l, x < 256 := outB_bytes _ _
theorem lowhex_hexD {c : UInt8} (h : lowhex c = true) : ∃ a < 16, hexD a = c := by
 have h1 : (List.range 256).all (fun n => !lowhex (UInt8.ofNat n) || (List.range 16).any (fun a => hexD a == UInt8.ofNat n)) = true := by kernel_rfl
 have h2 := List.all_eq_true.1 h1 c.toNat (List.mem_range.2 c.toNat_lt)
 rw [UInt8.ofNat_toNat, h] at h2
 simp only [Bool.not_true, Bool.false_or, List.any_eq_true, List.mem_range, beq_iff_eq] at h2
 exact h2
theorem pair_hexD {a b : Nat} (ha : a < 16) (hb : b < 16) : pairV (hexD a) (hexD b) = B8 (16 * a + b) := by
 have h1 : (List.range 16).all (fun a => (List.range 16).all fun b => decide (bits BinOp.or IntKind.i64 (wrap64 (hexI (hexD a) * 16)) (hexI (hexD b)) % 256 = ((16 * a + b : Nat) : Int))) = true := by kernel_rfl
 have h2 := List.all_eq_true.1 (List.all_eq_true.1 h1 a (List.mem_range.2 ha)) b (List.mem_range.2 hb)
 exact congrArg (Value.int .u8) (of_decide_eq_true h2)
theorem hexD_low {a : Nat} (ha : a < 16) : lowhex (hexD a) = true := by
 have h1 : (List.range 16).all (fun a => lowhex (hexD a)) = true := by kernel_rfl
 exact List.all_eq_true.1 h1 a (List.mem_range.2 ha)
theorem hexD_inj {a b : Nat} (ha : a < 16) (hb : b < 16) (h : hexD a = hexD b) : a = b := by
 have h1 : (List.range 16).all (fun a => (List.range 16).all fun b => !(hexD a == hexD b) || decide (a = b)) = true := by kernel_rfl
 have h2 := List.all_eq_true.1 (List.all_eq_true.1 h1 a (List.mem_range.2 ha)) b (List.mem_range.2 hb)
 rw [h] at h2
 simpa using h2
theorem unhex_hexL : ∀ (n : Nat) (l : List UInt8), l.length = 2 * n → l.all lowhex = true → ∃ D : List Nat, D.length = n ∧ (∀ x ∈ D, x < 256) ∧ hexL D = l ∧ unhexV l = D.map B8
 | 0, l, h, _ => by
  obtain rfl : l = [] := List.eq_nil_of_length_eq_zero (by omega)
  exact ⟨[], rfl, by simp, rfl, rfl⟩
 | n + 1, c :: d :: l, h, ha => by
  simp only [List.all_cons, Bool.and_eq_true] at ha
  obtain ⟨D, h1, h2, h3, h4⟩ := unhex_hexL n l (by simp at h; omega) ha.2.2
  obtain ⟨a, ha1, rfl⟩ := lowhex_hexD ha.1
  obtain ⟨b, hb1, rfl⟩ := lowhex_hexD ha.2.1
  refine ⟨(16 * a + b) :: D, by simp [h1], ?_, ?_, ?_⟩
  ·intro x hx
   rcases List.mem_cons.1 hx with rfl | hx
   ·omega
   ·exact h2 x hx
  ·have e1 : (16 * a + b) / 16 = a := by omega
   have e2 : (16 * a + b) % 16 = b := by omega
   show [hexD ((16 * a + b) / 16), hexD ((16 * a + b) % 16)] ++ hexL D = _
   rw [h3, e1, e2]; rfl
  ·rw [unhexV, pair_hexD ha1 hb1, h4]; rfl
 | n + 1, [], h, _ => by simp at h
 | n + 1, [_], h, _ => by simp at h; omega
theorem hexL_cons (x : Nat) (l : List Nat) : hexL (x :: l) = hexD (x / 16) :: hexD (x % 16) :: hexL l := rfl
theorem hexL_inj : ∀ (D E : List Nat), (∀ x ∈ D, x < 256) → (∀ x ∈ E, x < 256) → hexL D = hexL E → D = E
 | [], [], _, _, _ => rfl
 | [], _ :: _, _, _, h => by rw [hexL_cons] at h; cases h
 | _ :: _, [], _, _, h => by rw [hexL_cons] at h; cases h
 | x :: D, y :: E, hd, he, h => by
  rw [hexL_cons, hexL_cons] at h
  simp only [List.cons.injEq] at h
  have hx := hd x (by simp)
  have hy := he y (by simp)
  have e1 := hexD_inj (by omega) (by omega) h.1
  have e2 := hexD_inj (by omega) (by omega) h.2.1
  rw [hexL_inj D E (fun z hz => hd z (by simp [hz])) (fun z hz => he z (by simp [hz])) h.2.2]
  congr 1
  omega
theorem nameL_inj {D E : List Nat} (hd : ∀ x ∈ D, x < 256) (he : ∀ x ∈ E, x < 256) (h : nameL D = nameL E) : D = E :=
 hexL_inj D E hd he (List.append_cancel_left h)
theorem hexL_low (D : List Nat) (hd : ∀ x ∈ D, x < 256) : (hexL D).all lowhex = true := by
 induction D with
 | nil => rfl
 | cons x D ih =>
  rw [hexL_cons]
  have hx := hd x (by simp)
  simp only [List.all_cons, Bool.and_eq_true]
  exact ⟨hexD_low (by omega), hexD_low (by omega), ih fun z hz => hd z (by simp [hz])⟩
theorem nameB_nameL {D : List Nat} (h : D.length = 32) (hd : ∀ x ∈ D, x < 256) : nameB (nameL D) = true := by
 unfold nameB nameL
 have h1 : ([115, 104, 97, 50, 53, 54, 58] ++ hexL D).length = 71 := by rw [List.length_append, hexL_length, h]; rfl
 rw [h1]
 have h2 := hexL_low D hd
 simp [h2]
/-- a name's figures. -/
theorem nameB_bytes {l : List UInt8} (h : nameB l = true) : ∃ D : List Nat, D.length = 32 ∧ (∀ x ∈ D, x < 256) ∧ nameL D = l ∧ unhexV (Lib.trimPrefix l shaP) = D.map B8 := by
 unfold nameB at h
 simp only [Bool.and_eq_true, beq_iff_eq] at h
 obtain ⟨⟨h1, h2⟩, h3⟩ := h
 obtain ⟨D, d1, d2, d3, d4⟩ := unhex_hexL 32 (l.drop 7) (by rw [List.length_drop]; omega) h3
 have hl : shaP ++ l.drop 7 = l := by
  rw [show shaP = l.take 7 from h2.symm, List.take_append_drop]
 refine ⟨D, d1, d2, ?_, ?_⟩
 ·rw [nameL, d3]; exact hl
 ·have ht : Lib.trimPrefix l shaP = l.drop 7 := by
   unfold Lib.trimPrefix
   rw [if_pos]
   ·rfl
   ·unfold Lib.hasPrefix
    rw [← hl]
    exact List.isPrefixOf_iff_prefix.2 (List.prefix_append _ _)
  rw [ht, d4]
/-- the document's name of bytes. -/
theorem docName_any (l : List Nat) (A : Option Addr) (cap : Nat) (w : World) (hl : ∀ x ∈ l, x < 256) (hn : l.length ≤ 100000000) (hA : A = none → l.length = 0 ∧ cap = 0) (hc : l.length ≤ cap) (hb : BytesAt w A l) :
  Calls Tryz.prog 39 #[.slice A l.length cap] w fun e w' => e = .returned (.string ⟨(nmL l).toArray⟩) ∧ Below w.heap.size w w' := by
 have h86 := docOf_any l A cap w hl hn hA hc hb
 have hd32 := sha_length docH docK l
 have hd256 := sha_bytes docH docK l
 unfold nmL
 generalize shaL docH docK l = d at h86 hd32 hd256
 have H86 := Lib.hid h86
 have HD := Lib.hid hd256
 clear h86 hl hn hA hc hb hd256
 go_enter Tryz.func39, Tryz.ntmps39
 go_wp2_with fail
 refine H86.out.mono ?_
 rintro e w1 ⟨rfl, hb1⟩
 have HB1 := Lib.hid hb1
 have hz1 := hb1.size
 clear hb1 H86
 have hsz' := arrB_size (l := d) (by omega)
 have hth := Lib.hid (there_of_heap (alloc_at (w := w1) (o := .cells (Array.replicate 32 (.int .u8 0)) 147) rfl) (n := 32) (by simp))
 go_upto_region 2 with (refine wpList_store_mid (by rfl) 147 (.tmp 3) (.tmp 5) (by rfl) w1.heap.size 0 (arrB d) (by rfl) (by rfl) (by rw [hsz']; exact hth.out) (by rw [hsz']; exact hi147) (arrB_ones _) ?_)
 generalize hW : World.setCells _ _ _ _ = W2
 have HX2 := Lib.hid (show W2.heap[w1.heap.size]? = some (.cells (arrB d) 147 (0, 0)) from by rw [← hW]; exact setCells_whole (alloc_at rfl) (by rw [hsz']; rfl))
 have HB2 := Lib.hid (show Below w.heap.size w W2 from by rw [← hW]; exact setCells_below _ hz1 _ _ (HB1.out.alloc hz1 _))
 clear hW hth
 go_wp2_with fail
 refine (dhex_any d w1.heap.size 32 W2 HD.out hd32 (fun j hj => by
  rw [cell_of_row W2 w1.heap.size j _ 147 (0, 0) HX2.out, arrB_full hd32]
  simp [B8, List.getElem?_eq_getElem hj])).mono ?_
 rintro e w3 ⟨rfl, hb3⟩
 have HB3 := Lib.hid (HB2.out.trans (hb3.mono HB2.out.size))
 clear hb3 HX2
 have hhl : (hexL d).length = 64 := by rw [hexL_length, hd32]
 go_wp2
 refine bodyPost_ret (v := .string ⟨(nameL d).toArray⟩) (by simp [results, Tryz.results39, go_sem]; exact ba_append [115, 104, 97, 50, 53, 54, 58] (hexL d)) rfl ?_
 exact ⟨rfl, HB3.out⟩
/-- a world in which the program's two tables are right. -/
abbrev ShaD (w : World) : Prop := ShaW docH docK w
theorem descOf_any (m : ByteArray) (l : List Nat) (A : Option Addr) (cap : Nat) (w : World) (hw : ShaD w) (hl : ∀ x ∈ l, x < 256) (hn : l.length ≤ 100000000) (hc : l.length ≤ cap) (hb : BytesAt w A l) :
  Calls Tryz.prog 38 #[.string m, .slice A l.length cap] w fun e w' => e = .returned (.agg #[.string m, .string ⟨(nmL l).toArray⟩, .int .i64 l.length, .string ⟨#[]⟩, .string ⟨#[]⟩, .string ⟨#[]⟩]) ∧ Below w.heap.size w w' := by
 have HW := Lib.hid hw
 have HL := Lib.hid hl
 have HB := Lib.hid hb
 clear hw hl hb
 go_enter Tryz.func38, Tryz.ntmps38
 go_wp2_with fail
 generalize hW : World.alloc _ _ = W1
 have HX := Lib.hid (show W1.heap[w.heap.size]? = some (.cells #[.string ⟨#[]⟩, .string ⟨#[]⟩, .int .i64 0, .string ⟨#[]⟩, .string ⟨#[]⟩, .string ⟨#[]⟩] 62 (0, 0)) from by rw [← hW]; exact alloc_at rfl)
 have HB1 := Lib.hid (show Below w.heap.size w W1 from by rw [← hW]; exact (Below.refl _ _).alloc (Nat.le_refl _) _)
 have hz1 : w.heap.size < W1.heap.size := by rw [← hW, alloc_size1]; omega
 clear hW
 refine (digestOf_any docH docK l A cap W1 (HW.out.keep HB1.out HW.out.size) HL.out hn hc (HB.out.keep HB1.out (Nat.le_refl _))).mono ?_
 rintro e w2 ⟨rfl, hb2⟩
 have HB2 := Lib.hid (HB1.out.trans (hb2.mono HB1.out.size))
 have HX2 := Lib.hid ((hb2.block w.heap.size hz1).trans HX.out)
 have c2 := fun o => cell_of_row w2 w.heap.size o _ 62 (0, 0) HX2.out
 have f2 : ∀ o, w2.frozen? ⟨w.heap.size, o, none⟩ = false := fun o => froz HX2.out o
 have l2 : w.heap.size < w2.heap.size := by have := hb2.size; omega
 clear hb2 HX HB1 hz1
 generalize hbn : (⟨(nmL l).toArray⟩ : ByteArray) = bn
 rw [show (⟨(nameL (shaL docH docK l)).toArray⟩ : ByteArray) = bn from hbn]
 have HBN := Lib.hid hbn
 clear hbn
 go_wp2
 refine bodyPost_ret (v := .agg #[.string m, .string bn, .int .i64 l.length, .string ⟨#[]⟩, .string ⟨#[]⟩, .string ⟨#[]⟩]) (by simp [results, Tryz.results38, go_sem, c2, f2, l2]) rfl ?_
 refine ⟨by rw [HBN.out], ?_⟩
 (repeat (first | with_reducible refine Below.setCell ?_ (by simp) _))
 exact HB2.out
end Go.Proofs.YtoimjnmhinfbkaaGreatDoor

namespace Go.Proofs.YtoimjnmhinfbkaaGreatDoor
open Go.RowKit
set_option maxRecDepth 100000
/-! where a name stands in a store. -/
def pos (ns : List ByteArray) (name : ByteArray) : Int := match ns.findIdx? (fun n => n == name) with
 | some i => (i : Int)
 | none => -1
theorem pos_at {ns : List ByteArray} {name : ByteArray} {k : Nat} (hk : k < ns.length) (h : (ns[k] == name) = true) (hp : ∀ j, (hj : j < k) → (ns[j]'(by omega) == name) = false) : pos ns name = k := by
 unfold pos
 have h1 : ns.findIdx? (fun n => n == name) = some k := by
  rw [List.findIdx?_eq_some_iff_getElem]
  exact ⟨hk, h, fun j hj => by simpa using hp j hj⟩
 rw [h1]
theorem pos_no {ns : List ByteArray} {name : ByteArray} (hp : ∀ j, (hj : j < ns.length) → (ns[j] == name) = false) : pos ns name = -1 := by
 unfold pos
 have h1 : ns.findIdx? (fun n => n == name) = none := by
  rw [List.findIdx?_eq_none_iff]
  intro x hx
  obtain ⟨j, hj, rfl⟩ := List.mem_iff_getElem.1 hx
  exact hp j hj
 rw [h1]
/-- the names of a row of pairs. -/
def Names (w : World) (A : Option Addr) (ns : List ByteArray) : Prop := ns = [] ∨ ∃ b o, A = some ⟨b, o, none⟩ ∧ ∀ j, (h : j < ns.length) → w.cell? ⟨b, o + j * 2, none⟩ = some (.string ns[j])
set_option maxHeartbeats 1600000 in
theorem dplace_any (ns : List ByteArray) (name : ByteArray) (A : Option Addr) (cap : Nat) (w : World) (hn : ns.length ≤ 1000000000) (hs : Names w A ns) :
  Calls Tryz.prog 90 #[.slice A ns.length cap, .string name] w fun e w' => e = .returned (.int .i64 (pos ns name)) ∧ w = w' := by
 have HS := Lib.hid hs
 clear hs
 go_enter Tryz.func90, Tryz.ntmps90
 go_wp2_with fail
 go_loopw [8] (fun i wr => ∃ k : Nat, k ≤ ns.length ∧ i = .int .i64 k ∧ (∀ j, (hj : j < ns.length) → j < k → (ns[j] == name) = false) ∧ wr = w) (fun i _ => ns.length - (intOf i).toNat)
 case atStart => exact ⟨0, Nat.zero_le _, rfl, fun j _ h => absurd h (by omega), rfl⟩
 case round =>
  obtain ⟨k, hk, rfl, hno, rfl⟩ := hrel
  have HNO := Lib.hid hno
  clear hno
  have hk0 : (0 : Int) ≤ (k : Int) := Int.natCast_nonneg _
  by_cases hlt : k < ns.length
  ·have hlt' : (k : Int) < (ns.length : Int) := by omega
   obtain ⟨b, o, rfl, hc⟩ : ∃ b o, A = some ⟨b, o, none⟩ ∧ ∀ j, (h : j < ns.length) → wr.cell? ⟨b, o + j * 2, none⟩ = some (.string ns[j]) := by
    rcases HS.out with h | h
    ·rw [h] at hlt; simp at hlt
    ·exact h
   have hck := hc k hlt
   clear hc
   obtain ⟨nk, hnk⟩ : ∃ nk, nk = ns[k] := ⟨_, rfl⟩
   rw [← hnk] at hck
   have HNK := Lib.hid hnk
   clear hnk
   by_cases he : (nk == name) = true
   ·have he' := he
    rw [Go.beq_toListBytes] at he'
    have HPOS := Lib.hid (pos_at (name := name) hlt (by rw [← HNK.out]; exact he) (fun j hj => HNO.out j (by omega) hj))
    go_wp2
    go_ret
    exact ⟨by rw [HPOS.out]; rfl, rfl⟩
   ·have he2 : (nk == name) = false := by simpa using he
    have he' := he2
    rw [Go.beq_toListBytes] at he'
    clear he
    have HE2 := Lib.hid he2
    clear he2
    go_wp2
    go_roundw
    case rel =>
     refine ⟨k + 1, by omega, (by first | rfl | go_num), fun j hj hjk => ?_, (by first | trivial | rfl)⟩
     rcases Nat.lt_or_ge j k with h | h
     ·exact HNO.out j hj h
     ·obtain rfl : j = k := by omega
      rw [← HNK.out]; exact HE2.out
    case measure => simp [intOf]; omega
  ·obtain rfl : k = ns.length := by omega
   have HPOS := Lib.hid (pos_no (name := name) (fun j hj => HNO.out j hj hj))
   go_wp2
   go_ret
   exact ⟨by rw [HPOS.out]; rfl, rfl⟩
/-- the closure that looks at a name. -/
theorem closure_any (nk name : ByteArray) (v : Value) (hv : v.oneCell' = true) (b : Nat) (w : World) (hc : w.cell? ⟨b, 0, none⟩ = some (.string name)) :
  Calls Tryz.prog 144 #[.agg #[.string nk, v], .pointer (some ⟨b, 0, none⟩)] w fun e w' => e = .returned (.bool (nk == name)) ∧ Below w.heap.size w w' := by
 have hbl : b < w.heap.size := World.block_lt_of_cell? w _ hc
 have hb2 : ¬ b = w.heap.size := by omega
 rw [Go.beq_toListBytes]
 go_enter Tryz.func144, Tryz.ntmps144
 go_wp2
 go_ret
 exact ⟨rfl, (Below.refl _ _).alloc (Nat.le_refl _) _⟩
/-- a row of pairs: names and one more value each. -/
def Pairs (w : World) (A : Option Addr) (l : List (ByteArray × Value)) : Prop := l = [] ∨ ∃ b o, A = some ⟨b, o, none⟩ ∧ ∀ j, (h : j < l.length) → w.cell? ⟨b, o + j * 2, none⟩ = some (.string l[j].1) ∧ w.cell? ⟨b, o + j * 2 + 1, none⟩ = some l[j].2
theorem Pairs.names {w : World} {A : Option Addr} {l : List (ByteArray × Value)} (h : Pairs w A l) : Names w A (l.map (·.1)) := by
 rcases h with rfl | ⟨b, o, h1, h2⟩
 ·exact .inl rfl
 ·exact .inr ⟨b, o, h1, fun j hj => by rw [List.getElem_map]; exact (h2 j (by simpa using hj)).1⟩
theorem Pairs.keep {w w' : World} {A : Option Addr} {l : List (ByteArray × Value)} (h : Pairs w A l) (hb : Below w.heap.size w w') : Pairs w' A l := by
 rcases h with rfl | ⟨b, o, h1, h2⟩
 ·exact .inl rfl
 ·exact .inr ⟨b, o, h1, fun j hj => ⟨cell_below hb (h2 j hj).1, cell_below hb (h2 j hj).2⟩⟩
theorem Pairs.at' {w : World} {A : Option Addr} {l : List (ByteArray × Value)} (h : Pairs w A l) {k : Nat} (hk : k < l.length) : ∃ b o, A = some ⟨b, o, none⟩ ∧ w.cell? ⟨b, o + k * 2, none⟩ = some (.string l[k].1) ∧ w.cell? ⟨b, o + k * 2 + 1, none⟩ = some l[k].2 := by
 rcases h with rfl | ⟨b, o, h1, h2⟩
 ·simp at hk
 ·exact ⟨b, o, h1, h2 k hk⟩
set_option maxHeartbeats 1600000 in
theorem index_any (l : List (ByteArray × Value)) (name : ByteArray) (A : Option Addr) (cap bx : Nat) (w : World) (hn : l.length ≤ 1000000000) (hs : Pairs w A l) (h1 : ∀ x ∈ l, x.2.oneCell' = true) (hbx : w.cell? ⟨bx, 0, none⟩ = some (.string name)) :
  Calls Tryz.prog 143 #[.slice A l.length cap, .func (.func 144) #[] #[.pointer (some ⟨bx, 0, none⟩)]] w fun e w' => e = .returned (.int .i64 (pos (l.map (·.1)) name)) ∧ Below w.heap.size w w' := by
 have HS := Lib.hid hs
 have H1 := Lib.hid h1
 have HBX := Lib.hid hbx
 clear hs h1 hbx
 go_enter Tryz.func143, Tryz.ntmps143
 go_wp2_with fail
 go_loopw [8] (fun i wr => ∃ k : Nat, k ≤ l.length ∧ i = .int .i64 k ∧ (∀ j, (hj : j < l.length) → j < k → (l[j].1 == name) = false) ∧ Below w.heap.size w wr) (fun i _ => l.length - (intOf i).toNat)
 case atStart => exact ⟨0, Nat.zero_le _, rfl, fun j _ h => absurd h (by omega), Below.refl _ _⟩
 case round =>
  obtain ⟨k, hk, rfl, hno, hbl⟩ := hrel
  have HNO := Lib.hid hno
  have HBL := Lib.hid hbl
  clear hno hbl
  have hk0 : (0 : Int) ≤ (k : Int) := Int.natCast_nonneg _
  by_cases hlt : k < l.length
  ·have hlt' : (k : Int) < (l.length : Int) := by omega
   have hcs := (HS.out.keep HBL.out).at' hlt
   have hone := H1.out _ (List.getElem_mem hlt)
   obtain ⟨nk, hnk⟩ : ∃ nk, nk = l[k].1 := ⟨_, rfl⟩
   obtain ⟨vk, hvk⟩ : ∃ vk, vk = l[k].2 := ⟨_, rfl⟩
   rw [← hnk, ← hvk] at hcs
   rw [← hvk] at hone
   obtain ⟨b, o, rfl, hc1, hc2⟩ := hcs
   have HNK := Lib.hid hnk
   have hbc := cell_below HBL.out HBX.out
   have HBC := Lib.hid hbc
   clear hnk hvk hbc
   go_wp2_with fail
   refine (closure_any nk name vk hone bx wr HBC.out).mono ?_
   rintro e w2 ⟨rfl, hb2⟩
   have HB2 := Lib.hid (HBL.out.trans (hb2.mono HBL.out.size))
   clear hb2 hc1 hc2
   cases he : (nk == name) with
   | true =>
    have HPOS := Lib.hid (pos_at (ns := l.map (·.1)) (name := name) (k := k) (by simpa using hlt) (by rw [List.getElem_map, ← HNK.out]; exact he) (fun j hj => by rw [List.getElem_map]; exact HNO.out j (by omega) hj))
    clear he
    go_wp2
    go_ret
    exact ⟨by rw [HPOS.out]; rfl, HB2.out⟩
   | false =>
    have HE := Lib.hid he
    clear he
    go_wp2
    go_roundw
    case rel =>
     refine ⟨k + 1, by omega, (by first | rfl | go_num), fun j hj hjk => ?_, HB2.out⟩
     rcases Nat.lt_or_ge j k with h | h
     ·exact HNO.out j hj h
     ·obtain rfl : j = k := by omega
      rw [← HNK.out]; exact HE.out
    case measure => simp [intOf]; omega
  ·obtain rfl : k = l.length := by omega
   have HPOS := Lib.hid (pos_no (ns := l.map (·.1)) (name := name) (fun j hj => by rw [List.getElem_map]; exact HNO.out j (by simpa using hj) (by simpa using hj)))
   go_wp2
   go_ret
   exact ⟨by rw [HPOS.out]; rfl, HBL.out⟩
theorem splace_any (l : List (ByteArray × Value)) (name : ByteArray) (A : Option Addr) (cap : Nat) (w : World) (hn : l.length ≤ 1000000000) (hs : Pairs w A l) (h1 : ∀ x ∈ l, x.2.oneCell' = true) :
  Calls Tryz.prog 119 #[.slice A l.length cap, .string name] w fun e w' => e = .returned (.int .i64 (pos (l.map (·.1)) name)) ∧ Below w.heap.size w w' := by
 have hmf : ∀ (fn : Fn) (first cap : Array Value) (w : World), (Instr.makeFunc fn first cap).run Tryz.prog w = .ok (.func fn first cap) w := fun _ _ _ _ => rfl
 have hB0 := (Below.refl w.heap.size w).alloc (Nat.le_refl _) (.cells #[.string name] 9)
 go_enter Tryz.func119, Tryz.ntmps119
 go_wp2_with fail
 refine (index_any l name A cap w.heap.size _ hn (hs.keep hB0) h1 ((cell_of_row _ w.heap.size 0 _ 9 (0, 0) (alloc_at rfl)).trans rfl)).mono ?_
 rintro e w1 ⟨rfl, hb1⟩
 have hB := hB0.trans (hb1.mono (by rw [alloc_size1]; omega))
 clear hmf hB0 hb1
 go_wp2
 go_ret
 exact ⟨rfl, hB⟩
end Go.Proofs.YtoimjnmhinfbkaaGreatDoor

namespace Go.Proofs.YtoimjnmhinfbkaaGreatDoor
open Go.RowKit
set_option maxRecDepth 100000
theorem cell_extn {w w' : World} {p : Addr} {v : Value} (h : w.cell? p = some v) (hx : Ext w w') : w'.cell? p = some v := by
 have := hx.2 p.block (World.block_lt_of_cell? w _ h)
 rw [← h]; unfold World.cell?; rw [this]
theorem arrB_cell {d : List Nat} (hd : d.length = 32) (h : ∀ x ∈ d, x < 256) : arrB d = ((d.map UInt8.ofNat).map Extern.Stop.cell).toArray := by
 rw [arrB_full hd, List.map_map]
 congr 1
 refine List.map_congr_left fun x hx => ?_
 have := h x hx
 simp [B8, Extern.Stop.cell, Nat.mod_eq_of_lt this]
theorem ofNat_beq {d s : List Nat} (hd : ∀ x ∈ d, x < 256) (hs : ∀ x ∈ s, x < 256) : (d.map UInt8.ofNat == s.map UInt8.ofNat) = (d == s) := by
 rw [Bool.eq_iff_iff]
 simp only [beq_iff_eq]
 constructor
 ·intro h
  have h2 := congrArg (List.map UInt8.toNat) h
  rw [List.map_map, List.map_map] at h2
  have e : ∀ l : List Nat, (∀ x ∈ l, x < 256) → l.map (UInt8.toNat ∘ UInt8.ofNat) = l := fun l hl => by
   conv => rhs; rw [← List.map_id l]
   refine List.map_congr_left fun x hx => ?_
   have := hl x hx
   simp [Nat.mod_eq_of_lt this]
  rwa [e d hd, e s hs] at h2
 ·rintro rfl; rfl
section
variable {ρ : Operand → Value} {w : World} {o : Oper} {x y : Operand}
theorem run_load177 {b : Nat} {d : List Nat} (hc : w.heap[b]? = some (.cells (arrB d) 177 (0, 0))) (hl : d.length = 32) (ho : o.op = .load 177 x) (h1 : ρ x = .pointer (some ⟨b, 0, none⟩)) : (execOp ρ o).run Tryz.prog w = .ok (.value (.agg (arrB d))) w := by
 unfold execOp
 simp only [ho, h1, Sem.run_bind, run_loadAt_mid (P := Tryz.prog) w b 0 177 (arrB d).toList (.array 32 5) (range_of_heap hc) hu177 rfl (by rw [Array.length_toList, arrB_size (by omega)]; exact hi177), Result.andThen_ok]
 rfl
theorem run_neq177 {d s : List Nat} (hd : d.length = 32) (hs : s.length = 32) (hd2 : ∀ x ∈ d, x < 256) (hs2 : ∀ x ∈ s, x < 256) (ho : o.op = .binOp .neq 177 x y 177) (h1 : ρ x = .agg (arrB d)) (h2 : ρ y = .agg (arrB s)) : (execOp ρ o).run Tryz.prog w = .ok (.value (.bool (!(d == s)))) w := by
 have hg : Tryz.prog.eqGuardType Tryz.prog.depth 177 = false := by kernel_rfl
 have hz : ∀ w, (sizeOf 5).run Tryz.prog w = .ok 1 w := fun w => by
  obtain ⟨i0, hi0, hz0, hzz1, hzz2⟩ := info_parts info5
  simp [sizeOf, typeInfo, hi0, hzz1]
 have he := run_equalIn_bytes (P := Tryz.prog) w 9998 177 5 32 hu177 Tryz.underlying5 hz (d.map UInt8.ofNat) (s.map UInt8.ofNat) (by simpa using hd) (by simpa using hs)
 rw [← arrB_cell hd hd2, ← arrB_cell hs hs2, ofNat_beq hd2 hs2] at he
 unfold execOp
 simp only [ho, h1, h2, Sem.run_bind, run_eqGuard_agg w .neq 177 x y _ _ hg, Result.andThen_ok, run_neq_struct, he]
 rfl
end
noncomputable def ops120_4 : Array Oper := (Tryz.f120.body.bind (inCode 4)).getD #[]
def sl120_4 : Nat → Nat
 | 0 => 17
 | 1 => 18
 | 2 => 19
 | 3 => 20
 | 4 => 21
 | 5 => 16
 | _ => 0
def R120_4 (B : Nat) (p : Nat) (d l : List Nat) (A : Option Addr) (cap : Nat) : Nat → Value → World → Prop
 | 0, v, w => v = .agg (arrB d)
 | 1, v, w => v = .slice A l.length cap
 | 2, v, w => ∃ q, v = .slice (some ⟨q, 0, none⟩) 1 1 ∧ w.cell? ⟨q, 0, none⟩ = some (.slice A l.length cap)
 | 3, v, w => v = .agg (arrB (shaL docH docK l))
 | 4, v, w => v = .bool (!(d == shaL docH docK l))
 | 5, v, w => v = .bool (!(d == shaL docH docK l))
 | _, _, _ => True
theorem R120_4_ext {B : Nat} {p : Nat} {d l : List Nat} {A : Option Addr} {cap : Nat} {w w' : World} (hx : Ext w w') : ∀ j u, R120_4 B p d l A cap j u w → R120_4 B p d l A cap j u w'
 | 0, _, h => h
 | 1, _, h => h
 | 2, _, h => let ⟨q, e, h1⟩ := h; ⟨q, e, cell_extn h1 hx⟩
 | 3, _, h => h
 | 4, _, h => h
 | 5, _, h => h
 | _ + 6, _, _ => trivial
def J120_4 (B : Nat) (w0 : World) (p : Nat) (d l : List Nat) (A : Option Addr) (cap : Nat) (L : Array Bool) (w : World) : Prop := Below B w0 w ∧ w.heap[p]? = some (.cells (arrB d) 177 (0, 0))
theorem J120_4_any {B : Nat} {w0 : World} {p : Nat} {d l : List Nat} {A : Option Addr} {cap : Nat} {L : Array Bool} (L' : Array Bool) {w : World} (h : J120_4 B w0 p d l A cap L w) : J120_4 B w0 p d l A cap L' w := ⟨h.1, h.2⟩
theorem J120_4_ext {B : Nat} {w0 : World} {p : Nat} {d l : List Nat} {A : Option Addr} {cap : Nat} {L : Array Bool} (L' : Array Bool) {w w' : World} (h : J120_4 B w0 p d l A cap L w) (hx : Ext w w') (hb : Below B w w') : J120_4 B w0 p d l A cap L' w' := ⟨h.1.trans hb, blk_ext h.2 hx⟩
theorem J120_4_le {B : Nat} {w0 : World} (hB : B ≤ w0.heap.size) {p : Nat} {d l : List Nat} {A : Option Addr} {cap : Nat} {L : Array Bool} {w : World} (h : J120_4 B w0 p d l A cap L w) : B ≤ w.heap.size := Nat.le_trans hB h.1.size
set_option maxHeartbeats 1600000 in
theorem reg120_4 {ops : Array Oper} (ho : ops = ops120_4) {Q : Exit → Act → World → Prop} {a0 : Act} {w0 : World} {B : Nat} {p : Nat} {d l : List Nat} {A : Option Addr} {cap : Nat} (hB : B ≤ w0.heap.size) (hB2 : w0.heap.size ≤ B) (hp : w0.heap[p]? = some (.cells (arrB d) 177 (0, 0))) (hd32 : d.length = 32) (hd256 : ∀ x ∈ d, x < 256) (hw : ShaD w0) (hl : ∀ x ∈ l, x < 256) (hn : l.length ≤ 100000000) (hc : l.length ≤ cap) (hb : BytesAt w0 A l) (hs5 : a0.eval (.tmp 5) = .pointer (some ⟨p, 0, none⟩)) (hs1 : a0.eval (.tmp 1) = .slice A l.length cap) (hsz : a0.tmps.size = 23)
  (HK : ∀ L a w, J120_4 B w0 p d l A cap L w → a.defers = a0.defers → a.tmps.size = 23 → (∀ s, freeB ops120_4 s = true → a.eval (.tmp s) = a0.eval (.tmp s)) → (∀ i, i < 6 → R120_4 B p d l A cap i (a.eval (.tmp (sl120_4 i))) w) → Q .normal a w) : (Code.region 4 ops true).wp Tryz.prog Q a0 w0 := by
 subst ho
 refine region_made (n := 6) (sl := sl120_4) (J := J120_4 B w0 p d l A cap) (R := R120_4 B p d l A cap) (by kernel_rfl) (by kernel_rfl) (by kernel_rfl) (by rw [hsz]; kernel_rfl) ?_ ⟨(Below.refl _ _).drew, hp⟩ (fun L a w hall hf => HK L a w hf.world hf.defers (hf.size.trans hsz) hf.rest (fun i hi => hf.got i (hall i hi)))
 intro i hi L a w hs h1 hdep hd hst ho
 clear HK
 match i, hi, h1, hdep, ho with
 | 0, _, h1, hdep, ho =>
   have s5 := (hst.rest 5 (by kernel_rfl)).trans hs5
   have hr : (execOp a.eval (opAt ops120_4 0)).run Tryz.prog w = .ok (.value (.agg (arrB d))) w := run_load177 hst.world.2 hd32 (show (opAt ops120_4 0).op = .load 177 (.tmp 5) from (by kernel_rfl)) s5
   exact op_value ho (by kernel_rfl) hr (made_val (d := 17) (by kernel_rfl) rfl (J120_4_any _ hst.world) (fun _ _ _ _ h => h))
 | 1, _, h1, hdep, ho =>
   have s1 := (hst.rest 1 (by kernel_rfl)).trans hs1
   have hr : (execOp a.eval (opAt ops120_4 1)).run Tryz.prog w = .ok (.value (.slice A l.length cap)) w := by
    clear hst hdep hd h1 hs ho
    generalize a.eval = ρ at s1 ⊢
    unfold execOp; rw [show (opAt ops120_4 1).op = .move (.tmp 1) from by kernel_rfl]; try simp only [s1]
    go_simp
   exact op_value ho (by kernel_rfl) hr (made_val (d := 18) (by kernel_rfl) rfl (J120_4_any _ hst.world) (fun _ _ _ _ h => h))
 | 2, _, h1, hdep, ho =>
   have g1 : a.eval (.tmp 18) = .slice A l.length cap := hst.got 1 (hdep 1 (by kernel_rfl))
   have hr : (execOp a.eval (opAt ops120_4 2)).run Tryz.prog w = .ok (.value (.slice (some ⟨w.heap.size, 0, none⟩) 1 1)) (w.alloc (.cells #[.slice A l.length cap] 87)) := by
    clear hst hdep hd h1 hs ho
    generalize a.eval = ρ at g1 ⊢
    unfold execOp; rw [show (opAt ops120_4 2).op = .buildSlice 211 1 #[(0, .tmp 18)] from by kernel_rfl]; try simp only [g1]
    go_simp
   exact op_value ho (by kernel_rfl) hr (made_val (d := 19) (by kernel_rfl) (⟨w.heap.size, rfl, (cell_of_row _ w.heap.size 0 _ 87 (0, 0) (alloc_at rfl)).trans rfl⟩) (J120_4_ext _ hst.world (Ext.alloc _ _) ((Below.refl _ _).alloc (J120_4_le hB hst.world) _)) (fun j _ _ u h => R120_4_ext (Ext.alloc _ _) j u h))
 | 3, _, h1, hdep, ho =>
   obtain ⟨q, e, hcq⟩ := hst.got 2 (hdep 2 (by kernel_rfl))
   have e' : a.eval (.tmp 19) = .slice (some ⟨q, 0, none⟩) 1 1 := e
   clear e
   have hr : (execOp a.eval (opAt ops120_4 3)).run Tryz.prog w = .ok (.enter 114 #[.slice (some ⟨q, 0, none⟩) 1 1]) w := by
    clear hst hdep hd h1 hs ho
    have hk : ∀ f, a.eval (.func f) = .func (.func f) #[] #[] := fun _ => rfl; generalize a.eval = ρ at e' hk ⊢
    unfold execOp; rw [show (opAt ops120_4 3).op = .call { callee := .value (.func 114), args := #[.tmp 19], argTypes := #[211] } from by kernel_rfl]; try simp only [e', hk]
    go_simp
   refine op_call ho (by kernel_rfl) hr ((of_one docH docK l A cap ⟨q, 0, none⟩ w (hw.keep hst.world.1 (Nat.le_trans hw.size hB2)) hl hn hc hcq (hb.keep hst.world.1 hB2)).mono ?_)
   rintro e w'' ⟨rfl, hbb⟩
   exact ⟨_, rfl, made_val (d := 20) (by kernel_rfl) rfl (J120_4_ext _ hst.world (Ext.of_below hbb) (hbb.mono (J120_4_le hB hst.world))) (fun j _ _ u h => R120_4_ext (Ext.of_below hbb) j u h)⟩
 | 4, _, h1, hdep, ho =>
   have g0 : a.eval (.tmp 17) = .agg (arrB d) := hst.got 0 (hdep 0 (by kernel_rfl))
   have g3 : a.eval (.tmp 20) = .agg (arrB (shaL docH docK l)) := hst.got 3 (hdep 3 (by kernel_rfl))
   have hr : (execOp a.eval (opAt ops120_4 4)).run Tryz.prog w = .ok (.value (.bool (!(d == shaL docH docK l)))) w := run_neq177 hd32 (sha_length _ _ _) hd256 (sha_bytes _ _ _) (show (opAt ops120_4 4).op = .binOp .neq 177 (.tmp 17) (.tmp 20) 177 from (by kernel_rfl)) g0 g3
   exact op_value ho (by kernel_rfl) hr (made_val (d := 21) (by kernel_rfl) rfl (J120_4_any _ hst.world) (fun _ _ _ _ h => h))
 | 5, _, h1, hdep, ho =>
   have g4 : a.eval (.tmp 21) = .bool (!(d == shaL docH docK l)) := hst.got 4 (hdep 4 (by kernel_rfl))
   have hr : (execOp a.eval (opAt ops120_4 5)).run Tryz.prog w = .ok (.value (.bool (!(d == shaL docH docK l)))) w := by
    clear hst hdep hd h1 hs ho
    generalize a.eval = ρ at g4 ⊢
    unfold execOp; rw [show (opAt ops120_4 5).op = .assign (.tmp 21) from by kernel_rfl]; try simp only [g4]
    go_simp
   exact op_value ho (by kernel_rfl) hr (made_val (d := 16) (by kernel_rfl) rfl (J120_4_any _ hst.world) (fun _ _ _ _ h => h))
 | k + 6, hi, _, _, _ => exact absurd hi (by omega)
set_option maxHeartbeats 3200000 in
theorem turn120_4 {x0 x1 x2 x3 x4 x5 x6 x7 x8 x9 x10 x11 x12 x13 x14 x15 x16 x17 x18 x19 x20 x21 x22 z16 : Value} {D : _} {a : Act} (hl : Left 23 ops120_4 a (Act.mk #[x0, x1, x2, x3, x4, x5, x6, x7, x8, x9, x10, x11, x12, x13, x14, x15, x16, x17, x18, x19, x20, x21, x22] D)) (h16 : a.eval (.tmp 16) = z16) : ∃ z17 z18 z19 z20 z21, a = ⟨#[x0, x1, x2, x3, x4, x5, x6, x7, x8, x9, x10, x11, x12, x13, x14, x15, z16, z17, z18, z19, z20, z21, x22], D⟩ := by
 subst h16
 exact ⟨a.eval (.tmp 17), a.eval (.tmp 18), a.eval (.tmp 19), a.eval (.tmp 20), a.eval (.tmp 21), (turn_gen [16, 17, 18, 19, 20, 21] (by kernel_rfl) (by kernel_rfl) hl.1 hl.2.1 hl.2.2).trans (by kernel_rfl)⟩
/-- what Verify answers. -/
def VerRes (ok : Bool) (w : World) (e : Ending) (w' : World) : Prop := (∃ v, e = .returned v ∧ ((ok = true ∧ v = .nilIface) ∨ (ok = false ∧ ∃ z : Int, v = .iface 35 (.int .i64 z)))) ∧ Below w.heap.size w w'
set_option maxHeartbeats 3200000 in
theorem verify_any (nm : List UInt8) (l : List Nat) (A : Option Addr) (cap : Nat) (w : World) (hnm : nm.length ≤ 1073741824) (hw : ShaD w) (hl : ∀ x ∈ l, x < 256) (hn : l.length ≤ 100000000) (hc : l.length ≤ cap) (hb : BytesAt w A l) :
  Calls Tryz.prog 120 #[.string ⟨nm.toArray⟩, .slice A l.length cap] w (VerRes (nm == nmL l) w) := by
 have HW := Lib.hid hw
 have HL := Lib.hid hl
 have HB := Lib.hid hb
 clear hw hl hb
 have hpar := dparse_any nm w hnm
 cases hnb : nameB nm with
 | false =>
  have hno : (nm == nmL l) = false := by
   rw [beq_eq_false_iff_ne]
   intro e
   rw [e, nmL, nameB_nameL (sha_length _ _ _) (sha_bytes _ _ _)] at hnb
   cases hnb
  rw [hno]
  have hpar2 : Calls Tryz.prog 108 #[.string ⟨nm.toArray⟩] w fun e w' => e = .returned (.tuple #[.agg (arrB (List.replicate 32 0)), .iface 35 (.int .i64 2)]) ∧ Below w.heap.size w w' := hpar.mono fun e w' h => by
   obtain ⟨h1 | h1, h2⟩ := h
   ·rw [hnb] at h1; exact absurd h1.1 (by decide)
   ·exact ⟨h1.2, h2⟩
  have HPAR := Lib.hid hpar2
  clear hpar hpar2
  go_enter Tryz.func120, Tryz.ntmps120
  go_wp2_with fail
  refine HPAR.out.mono ?_
  rintro e w1 ⟨rfl, hb1⟩
  have HB1 := Lib.hid hb1
  have hz1 := hb1.size
  clear hb1 HPAR
  have hth := Lib.hid (there_of_heap (alloc_at (w := w1) (o := .cells (Array.replicate 32 (.int .u8 0)) 177) rfl) (n := 32) (by simp))
  have hsz' := arrB_size (l := List.replicate 32 0) (by simp)
  go_wp2_with (refine wpList_store_mid (by rfl) 177 (.tmp 5) (.tmp 10) (by rfl) w1.heap.size 0 (arrB (List.replicate 32 0)) (by rfl) (by rfl) (by rw [hsz']; exact hth.out) (by rw [hsz']; exact hi177) (arrB_ones _) ?_)
  go_ret
  exact ⟨⟨_, rfl, .inr ⟨rfl, _, rfl⟩⟩, setCells_below _ hz1 _ _ (HB1.out.alloc hz1 _)⟩
 | true =>
  obtain ⟨D, d1, d2, d3, d4⟩ := nameB_bytes hnb
  have hpar2 : Calls Tryz.prog 108 #[.string ⟨nm.toArray⟩] w fun e w' => e = .returned (.tuple #[.agg (arrB D), .nilIface]) ∧ Below w.heap.size w w' := hpar.mono fun e w' h => by
   obtain ⟨h1 | h1, h2⟩ := h
   ·exact ⟨by rw [h1.2.2, d4, arrB_full d1], h2⟩
   ·rw [hnb] at h1; exact absurd h1.1 (by decide)
  have HPAR := Lib.hid hpar2
  have heq : (nm == nmL l) = (D == shaL docH docK l) := by
   rw [← d3, Bool.eq_iff_iff]
   simp only [beq_iff_eq]
   exact ⟨fun h => nameL_inj d2 (sha_bytes _ _ _) h, fun h => by rw [h]; rfl⟩
  rw [heq]
  have HD2 := Lib.hid d2
  clear hpar hpar2 heq d3 d4 d2
  go_enter Tryz.func120, Tryz.ntmps120
  go_wp2_with fail
  refine HPAR.out.mono ?_
  rintro e w1 ⟨rfl, hb1⟩
  have HB1 := Lib.hid hb1
  have hz1 := hb1.size
  clear hb1 HPAR
  have hth := Lib.hid (there_of_heap (alloc_at (w := w1) (o := .cells (Array.replicate 32 (.int .u8 0)) 177) rfl) (n := 32) (by simp))
  have hsz' := arrB_size (l := D) (by omega)
  go_upto_region 4 with (refine wpList_store_mid (by rfl) 177 (.tmp 5) (.tmp 10) (by rfl) w1.heap.size 0 (arrB D) (by rfl) (by rfl) (by rw [hsz']; exact hth.out) (by rw [hsz']; exact hi177) (arrB_ones _) ?_)
  rename_i Kf hKf
  generalize hWW : World.setCells _ _ _ _ = W2
  have HX2 := Lib.hid (show W2.heap[w1.heap.size]? = some (.cells (arrB D) 177 (0, 0)) from by rw [← hWW]; exact setCells_whole (alloc_at rfl) (by rw [hsz']; rfl))
  have HB2 := Lib.hid (show Below w.heap.size w W2 from by rw [← hWW]; exact setCells_below _ hz1 _ _ (HB1.out.alloc hz1 _))
  clear hWW hth
  refine reg120_4 (B := W2.heap.size) (p := w1.heap.size) (d := D) (l := l) (A := A) (cap := cap) (by kernel_rfl) (Nat.le_refl _) (Nat.le_refl _) HX2.out d1 HD2.out (HW.out.keep HB2.out HW.out.size) HL.out hn hc (HB.out.keep HB2.out (Nat.le_refl _)) rfl rfl rfl (fun LL a w3 hJ hd hs hr hR => ?_)
  have HB3 := Lib.hid (HB2.out.trans (hJ.1.mono HB2.out.size))
  obtain ⟨z17, z18, z19, z20, z21, rfl⟩ := turn120_4 ⟨hd, hs, hr⟩ (hR 5 (by decide))
  clear hd hs hr hR hJ
  refine hKf _ _ ?_
  clear hKf
  cases hq : (D == shaL docH docK l) with
  | true =>
   have HQ := Lib.hid hq
   go_wp2
   go_ret
   exact ⟨⟨_, rfl, .inl ⟨HQ.out, rfl⟩⟩, HB3.out⟩
  | false =>
   have HQ := Lib.hid hq
   go_wp2
   go_ret
   exact ⟨⟨_, rfl, .inr ⟨rfl, _, rfl⟩⟩, HB3.out⟩
set_option maxHeartbeats 1600000 in
/-- a copy of bytes. -/
theorem clone_any (l : List Nat) (A : Option Addr) (cap : Nat) (w : World) (hl : ∀ x ∈ l, x < 256) (hn : l.length ≤ 100000000) (hA : A = none → l.length = 0 ∧ cap = 0) (hc : l.length ≤ cap) (hb : BytesAt w A l) :
  Calls Tryz.prog 121 #[.slice A l.length cap] w fun e w' => (∃ A' cap', e = .returned (.slice A' l.length cap') ∧ (A' = none → l.length = 0 ∧ cap' = 0) ∧ l.length ≤ cap' ∧ BytesAt w' A' l) ∧ Below w.heap.size w w' := by
 obtain ⟨i0, hi0, hz0, hzz1, hzz2⟩ := info_parts info5
 cases hAo : A with
 | none =>
  obtain ⟨h1, h2⟩ := hA hAo
  have hl0 : l = [] := List.eq_nil_of_length_eq_zero h1
  subst hl0 h2
  clear hA hb
  have hnil := fun w => Lib.run_eql_slice_nil (P := Tryz.prog) w 87 5 none 0 0 0 0 Tryz.underlying87
  go_enter Tryz.func121, Tryz.ntmps121
  go_wp2
  go_ret
  exact ⟨⟨none, 0, rfl, by simp, by simp, .inl rfl⟩, Below.refl _ _⟩
 | some a =>
  have hcells : ∀ j u, (l.map B8)[j]? = some u → (w.alloc (.cells #[] 5)).cell? (a.add j) = some u := fun j u hu => by
   rcases hb with h | ⟨a', ha', h⟩
   ·rw [h] at hu; simp at hu
   ·obtain rfl : a = a' := Option.some.inj (hAo.symm.trans ha')
    obtain ⟨hj, rfl⟩ := List.getElem?_eq_some_iff.1 hu
    have hj' : j < l.length := by simpa using hj
    rw [List.getElem_map]
    exact cell_below ((Below.refl w.heap.size w).alloc (Nat.le_refl _) _) (h j hj')
  have hone : ∀ u ∈ l.map B8, u.oneCell' = true := fun u hu => by
   obtain ⟨x, -, rfl⟩ := List.mem_map.1 hu; rfl
  have HCE := Lib.hid hcells
  have HONE := Lib.hid hone
  have HO0 := Lib.hid (World.ownsRow_made (e := 5) (size := 1) (base := w.heap.size) w #[] 0 (Nat.le_refl _) (by decide) rfl)
  have HB0 := Lib.hid ((Below.refl w.heap.size w).alloc (Nat.le_refl _) (.cells #[] 5))
  have hTz : w.heap.size ≤ (w.alloc (.cells #[] 5)).heap.size := by rw [alloc_size1]; omega
  have hlm : l.length ≤ maxLen := by unfold maxLen; omega
  clear hcells hone hAo hA hb hl
  have hnil := fun w => Lib.run_eql_slice_nil (P := Tryz.prog) w 87 5 (some a) l.length cap 0 0 Tryz.underlying87
  go_enter Tryz.func121, Tryz.ntmps121
  go_wp2_with (at_builtin; (refine wpList_append_own _ rfl _ _ 87 rfl w.heap.size 5 i0 (.int .u8 0) 1 1 Tryz.underlying87 hi0 hz0 hzz1 hzz2 rfl (by decide) _ 0 _ rfl HO0.out a l.length cap (l.map B8) rfl (by simp) HCE.out HONE.out (by omega) (by omega) hTz ?_; intro v' w1 hown' hgrow hnil))
  go_ret
  rw [Nat.zero_add, List.nil_append] at hown'
  have hbw : Below w.heap.size w w1 := HB0.out.grown hgrow hTz (fun k hk => (HO0.out.lt k hk).1)
  refine ⟨?_, hbw⟩
  rcases hown'.2 with ⟨h, h0⟩ | ⟨g, cc, cur, rfl, -, -, hle, -⟩
  ·exact ⟨none, 0, by rw [h, h0]; rfl, fun _ => ⟨h0, rfl⟩, by omega, .inl (List.eq_nil_of_length_eq_zero h0)⟩
  ·refine ⟨_, cc, rfl, fun e => (by cases e), hle, .inr ⟨_, rfl, fun j hj => ?_⟩⟩
   rw [addr_add0]
   have h1 := hown'.cellAt j (by omega)
   rw [List.getElem?_map, List.getElem?_eq_getElem hj] at h1
   exact h1
end Go.Proofs.YtoimjnmhinfbkaaGreatDoor

namespace Go.Proofs.YtoimjnmhinfbkaaGreatDoor
open Go.RowKit
set_option maxRecDepth 100000
/-- a blob in memory: its name, where its bytes lie, its bytes. -/
structure Bl where
 nm : ByteArray
 A : Option Addr
 cap : Nat
 dat : List Nat
def Bl.pair (b : Bl) : ByteArray × Value := (b.nm, .slice b.A b.dat.length b.cap)
def Bl.key (b : Bl) : ByteArray × List Nat := (b.nm, b.dat)
/-- bytes that lie in a slice. -/
structure BytesOk (w : World) (A : Option Addr) (cap : Nat) (l : List Nat) : Prop where
 nil : A = none → l.length = 0 ∧ cap = 0
 le : l.length ≤ cap
 by' : ∀ x ∈ l, x < 256
 at' : BytesAt w A l
theorem BytesOk.keep {w w' : World} {A : Option Addr} {cap : Nat} {l : List Nat} (h : BytesOk w A cap l) (hb : Below w.heap.size w w') : BytesOk w' A cap l := ⟨h.nil, h.le, h.by', h.at'.keep hb (Nat.le_refl _)⟩
structure StoreAt (w : World) (S : Option Addr) (bs : List Bl) : Prop where
 pairs : Pairs w S (bs.map Bl.pair)
 ok : ∀ b ∈ bs, BytesOk w b.A b.cap b.dat
theorem StoreAt.keep {w w' : World} {S : Option Addr} {bs : List Bl} (h : StoreAt w S bs) (hb : Below w.heap.size w w') : StoreAt w' S bs := ⟨h.pairs.keep hb, fun b hm => (h.ok b hm).keep hb⟩
/-- what is got of a store. -/
def getA (s : List (ByteArray × List Nat)) (name : ByteArray) : Except Int (List Nat) := match s.find? (fun x => x.1 == name) with
 | none => .error 4
 | some x => if (name.data.toList == nmL x.2) = true then .ok x.2 else .error 6
def fetchA (s : List (ByteArray × List Nat)) (name : ByteArray) (size : Int) : Except Int (List Nat) := match getA s name with
 | .error c => .error c
 | .ok d => if (d.length : Int) = size then .ok d else .error 12
theorem pos_cases (s : List (ByteArray × List Nat)) (name : ByteArray) : (pos (s.map (·.1)) name = -1 ∧ s.find? (fun x => x.1 == name) = none) ∨ ∃ k, ∃ h : k < s.length, pos (s.map (·.1)) name = k ∧ s.find? (fun x => x.1 == name) = some s[k] := by
 cases hf : s.find? (fun x => x.1 == name) with
 | none =>
  refine .inl ⟨pos_no fun j hj => ?_, rfl⟩
  rw [List.find?_eq_none] at hf
  have hj' : j < s.length := by simpa using hj
  have := hf s[j] (List.getElem_mem hj')
  rw [List.getElem_map]
  simpa using this
 | some x =>
  rw [List.find?_eq_some_iff_getElem] at hf
  obtain ⟨h1, k, hk, rfl, h3⟩ := hf
  refine .inr ⟨k, hk, pos_at (by simpa using hk) (by rw [List.getElem_map]; exact h1) (fun j hj => ?_), rfl⟩
  rw [List.getElem_map]
  simpa using h3 j hj
theorem getA_codes {s : List (ByteArray × List Nat)} {name : ByteArray} {c : Int} (h : getA s name = .error c) : c = 4 ∨ c = 6 := by
 unfold getA at h
 split at h
 ·injection h with h; exact .inl h.symm
 ·split at h
  ·cases h
  ·injection h with h; exact .inr h.symm
/-- the program's answer. -/
def GotP (r : Except Int (List Nat)) (w : World) (e : Ending) (w' : World) : Prop := (match r with
 | .error c => e = .returned (.tuple #[.slice none 0 0, .iface 35 (.int .i64 c)])
 | .ok d => ∃ A cap, e = .returned (.tuple #[.slice A d.length cap, .nilIface]) ∧ BytesOk w' A cap d) ∧ Below w.heap.size w w'
set_option maxHeartbeats 3200000 in
theorem sget_any (bs : List Bl) (name : ByteArray) (S : Option Addr) (cap : Nat) (w : World) (hw : ShaD w) (hs : StoreAt w S bs) (hlen : bs.length ≤ 1000000000) (hbig : ∀ b ∈ bs, b.dat.length ≤ 100000000) (hname : name.size ≤ 1073741824) :
  Calls Tryz.prog 88 #[.slice S bs.length cap, .string name] w (GotP (getA (bs.map Bl.key) name) w) := by
 have hpl := splace_any (bs.map Bl.pair) name S cap w (by simpa using hlen) hs.pairs (fun x hx => by
  obtain ⟨b, -, rfl⟩ := List.mem_map.1 hx; rfl)
 rw [List.length_map, List.map_map, show ((fun x : ByteArray × Value => x.1) ∘ Bl.pair) = Bl.nm from rfl] at hpl
 have hpc := pos_cases (bs.map Bl.key) name
 rw [List.map_map, show ((fun x : ByteArray × List Nat => x.1) ∘ Bl.key) = Bl.nm from rfl] at hpc
 have HPL := Lib.hid hpl
 have HS := Lib.hid hs
 have HW := Lib.hid hw
 clear hpl hs hw
 have hgd : getA (bs.map Bl.key) name = match (bs.map Bl.key).find? (fun x => x.1 == name) with
  | none => .error 4
  | some x => if (name.data.toList == nmL x.2) = true then .ok x.2 else .error 6 := rfl
 rcases hpc with ⟨hp, hf⟩ | ⟨k, hk', hp, hf⟩
 ·rw [hf] at hgd
  rw [hgd]
  rw [hp] at HPL
  clear hgd hf hp
  go_enter Tryz.func88, Tryz.ntmps88
  go_wp2_with fail
  refine HPL.out.mono ?_
  rintro e w1 ⟨rfl, hb1⟩
  have HB1 := Lib.hid hb1
  clear hb1
  go_wp2
  refine bodyPost_ret (v := .tuple #[.slice none 0 0, .iface 35 (.int .i64 4)]) (by simp [results, Tryz.results88, go_sem]) rfl ?_
  exact ⟨rfl, HB1.out⟩
 ·have hk : k < bs.length := by simpa using hk'
  rw [hf] at hgd
  have hat := HS.out.pairs.at' (k := k) (by simpa using hk)
  have hok := HS.out.ok _ (List.getElem_mem hk)
  have hb9 := hbig _ (List.getElem_mem hk)
  rw [List.getElem_map] at hat hgd
  rw [hp] at HPL
  obtain ⟨bk, hbk⟩ : ∃ bk, bk = bs[k] := ⟨_, rfl⟩
  rw [← hbk] at hat hgd hok hb9
  clear hf hp hbk hk'
  obtain ⟨nmk, Ak, capk, dk⟩ := bk
  simp only [Bl.pair, Bl.key] at hat hgd hok hb9
  obtain ⟨b, o, rfl, hc1, hc2⟩ := hat
  have HOK := Lib.hid hok
  clear hok
  have hk0 : (0 : Int) ≤ (k : Int) := Int.natCast_nonneg _
  have hkl : (k : Int) < (bs.length : Int) := by omega
  have hvr := fun w1 hw1 (hk1 : BytesOk w1 Ak capk dk) => verify_any name.data.toList dk Ak capk w1 (by rw [Array.length_toList]; exact hname) hw1 hk1.by' hb9 hk1.le hk1.at'
  rw [ba_eta] at hvr
  cases hq : (name.data.toList == nmL dk) with
  | true =>
   have hgd2 : getA (bs.map Bl.key) name = .ok dk := hgd.trans (if_pos hq)
   rw [hq] at hvr
   have HV := Lib.hid hvr
   rw [hgd2]
   clear hgd2
   clear hgd hvr hq
   go_enter Tryz.func88, Tryz.ntmps88
   go_wp2_with fail
   refine HPL.out.mono ?_
   rintro e w1 ⟨rfl, hb1⟩
   have HB1 := Lib.hid hb1
   have hc3 := cell_below hb1 hc2
   have HOK1 := Lib.hid (HOK.out.keep hb1)
   clear hb1 hc1 hc2 HOK
   go_wp2_with fail
   refine (HV.out w1 (HW.out.keep HB1.out HW.out.size) HOK1.out).mono ?_
   rintro e w2 ⟨⟨v, rfl, hv⟩, hb2⟩
   have HB2 := Lib.hid (HB1.out.trans (hb2.mono HB1.out.size))
   have HOK2 := Lib.hid (HOK1.out.keep hb2)
   have hc4 := cell_below hb2 hc3
   obtain rfl : v = .nilIface := by
    rcases hv with ⟨-, h⟩ | ⟨h, -⟩
    ·exact h
    ·cases h
   clear hb2 hc3 hv HOK1
   go_wp2_with fail
   refine (clone_any dk Ak capk w2 HOK2.out.by' hb9 HOK2.out.nil HOK2.out.le HOK2.out.at').mono ?_
   rintro e w3 ⟨⟨A3, cap3, rfl, h1, h2, h3⟩, hb3⟩
   have HB3 := Lib.hid (HB2.out.trans (hb3.mono HB2.out.size))
   have HR := Lib.hid (BytesOk.mk h1 h2 HOK2.out.by' h3)
   clear h1 h2 h3 hb3
   go_wp2
   refine bodyPost_ret (v := .tuple #[.slice A3 dk.length cap3, .nilIface]) (by simp [results, Tryz.results88, go_sem]) rfl ?_
   exact ⟨⟨A3, cap3, rfl, HR.out⟩, HB3.out⟩
  | false =>
   have hgd2 : getA (bs.map Bl.key) name = .error 6 := hgd.trans (if_neg (by rw [hq]; decide))
   rw [hq] at hvr
   have HV := Lib.hid hvr
   rw [hgd2]
   clear hgd2
   clear hgd hvr hq
   go_enter Tryz.func88, Tryz.ntmps88
   go_wp2_with fail
   refine HPL.out.mono ?_
   rintro e w1 ⟨rfl, hb1⟩
   have HB1 := Lib.hid hb1
   have hc3 := cell_below hb1 hc2
   have HOK1 := Lib.hid (HOK.out.keep hb1)
   clear hb1 hc1 hc2 HOK
   go_wp2_with fail
   refine (HV.out w1 (HW.out.keep HB1.out HW.out.size) HOK1.out).mono ?_
   rintro e w2 ⟨⟨v, rfl, hv⟩, hb2⟩
   have HB2 := Lib.hid (HB1.out.trans (hb2.mono HB1.out.size))
   have hc4 := cell_below hb2 hc3
   obtain ⟨z, rfl⟩ : ∃ z : Int, v = .iface 35 (.int .i64 z) := by
    rcases hv with ⟨h, -⟩ | ⟨-, h⟩
    ·cases h
    ·exact h
   clear hb2 hc3 hv HOK1
   go_wp2
   refine bodyPost_ret (v := .tuple #[.slice none 0 0, .iface 35 (.int .i64 6)]) (by simp [results, Tryz.results88, go_sem]) rfl ?_
   exact ⟨rfl, HB2.out⟩
set_option maxHeartbeats 3200000 in
theorem fetch_any (bs : List Bl) (m n : ByteArray) (z : Int) (a o v : ByteArray) (S : Option Addr) (cap : Nat) (w : World) (hw : ShaD w) (hs : StoreAt w S bs) (hlen : bs.length ≤ 1000000000) (hbig : ∀ b ∈ bs, b.dat.length ≤ 100000000) (hname : n.size ≤ 1073741824) :
  Calls Tryz.prog 40 #[.slice S bs.length cap, .agg #[.string m, .string n, .int .i64 z, .string a, .string o, .string v]] w (GotP (fetchA (bs.map Bl.key) n z) w) := by
 have hB0 := (Below.refl w.heap.size w).alloc (Nat.le_refl _) (.cells #[.string m, .string n, .int .i64 z, .string a, .string o, .string v] 62)
 have hget := sget_any bs n S cap _ (hw.keep hB0 hw.size) (hs.keep hB0) hlen hbig hname
 have hfd : fetchA (bs.map Bl.key) n z = match getA (bs.map Bl.key) n with
  | .error c => .error c
  | .ok d => if (d.length : Int) = z then .ok d else .error 12 := rfl
 have HB0 := Lib.hid hB0
 clear hw hs hB0 hbig
 cases hg : getA (bs.map Bl.key) n with
 | error c =>
  rw [hg] at hget hfd
  rw [hfd]
  have HGET := Lib.hid hget
  clear hg hget hfd
  go_enter Tryz.func40, Tryz.ntmps40
  go_wp2_with fail
  refine HGET.out.mono ?_
  rintro e w1 ⟨he, hb1⟩
  obtain rfl : e = _ := he
  have HB1 := Lib.hid (HB0.out.trans (hb1.mono (by rw [alloc_size1]; omega)))
  have HX := Lib.hid ((hb1.block w.heap.size (by rw [alloc_size1]; omega)).trans (alloc_at rfl))
  have c1 := fun o => cell_of_row w1 w.heap.size o _ 62 (0, 0) HX.out
  clear hb1
  go_wp2
  refine bodyPost_ret (v := .tuple #[.slice none 0 0, .iface 35 (.int .i64 c)]) (by simp [results, Tryz.results40, go_sem]) rfl ?_
  exact ⟨rfl, HB1.out⟩
 | ok d =>
  rw [hg] at hget hfd
  by_cases hz : (d.length : Int) = z
  ·have hfd2 := hfd.trans (if_pos hz)
   rw [hfd2]
   have HGET := Lib.hid hget
   clear hg hget hfd hfd2
   subst hz
   go_enter Tryz.func40, Tryz.ntmps40
   go_wp2_with fail
   refine HGET.out.mono ?_
   rintro e w1 ⟨⟨A1, cap1, he, hok⟩, hb1⟩
   obtain rfl : e = _ := he
   have HB1 := Lib.hid (HB0.out.trans (hb1.mono (by rw [alloc_size1]; omega)))
   have HX := Lib.hid ((hb1.block w.heap.size (by rw [alloc_size1]; omega)).trans (alloc_at rfl))
   have c1 := fun o => cell_of_row w1 w.heap.size o _ 62 (0, 0) HX.out
   have HOK := Lib.hid hok
   clear hb1 hok
   go_wp2
   refine bodyPost_ret (v := .tuple #[.slice A1 d.length cap1, .nilIface]) (by simp [results, Tryz.results40, go_sem]) rfl ?_
   exact ⟨⟨A1, cap1, rfl, HOK.out⟩, HB1.out⟩
  ·have hfd2 := hfd.trans (if_neg hz)
   rw [hfd2]
   have HGET := Lib.hid hget
   clear hg hget hfd hfd2
   go_enter Tryz.func40, Tryz.ntmps40
   go_wp2_with fail
   refine HGET.out.mono ?_
   rintro e w1 ⟨⟨A1, cap1, he, hok⟩, hb1⟩
   obtain rfl : e = _ := he
   have HB1 := Lib.hid (HB0.out.trans (hb1.mono (by rw [alloc_size1]; omega)))
   have HX := Lib.hid ((hb1.block w.heap.size (by rw [alloc_size1]; omega)).trans (alloc_at rfl))
   have c1 := fun o => cell_of_row w1 w.heap.size o _ 62 (0, 0) HX.out
   clear hb1 hok
   go_wp2
   refine bodyPost_ret (v := .tuple #[.slice none 0 0, .iface 35 (.int .i64 12)]) (by simp [results, Tryz.results40, go_sem]) rfl ?_
   exact ⟨rfl, HB1.out⟩
end Go.Proofs.YtoimjnmhinfbkaaGreatDoor

namespace Go.Proofs.YtoimjnmhinfbkaaGreatDoor
open Go.RowKit
set_option maxRecDepth 100000
/-! the document's store. -/
def bytesN (s : ByteArray) : List Nat := s.data.toList.map UInt8.toNat
def strN (l : List Nat) : ByteArray := ⟨(l.map UInt8.ofNat).toArray⟩
theorem bytesN_length (s : ByteArray) : (bytesN s).length = s.size := by unfold bytesN; rw [List.length_map, Array.length_toList]; rfl
theorem bytesN_lt (s : ByteArray) : ∀ x ∈ bytesN s, x < 256 := fun x hx => by
 obtain ⟨c, -, rfl⟩ := List.mem_map.1 hx
 exact c.toNat_lt
theorem strN_bytesN (s : ByteArray) : strN (bytesN s) = s := by
 unfold strN bytesN
 rw [List.map_map, show (UInt8.ofNat ∘ UInt8.toNat) = id from funext fun c => UInt8.ofNat_toNat, List.map_id]
theorem bytesN_strN {l : List Nat} (h : ∀ x ∈ l, x < 256) : bytesN (strN l) = l := by
 unfold strN bytesN
 simp only [List.map_map]
 conv => rhs; rw [← List.map_id l]
 refine List.map_congr_left fun x hx => ?_
 have := h x hx
 simp [Nat.mod_eq_of_lt this]
theorem strN_size (l : List Nat) : (strN l).size = l.length := by
 show ((l.map UInt8.ofNat).toArray).size = _
 simp
/-- a text's bytes, laid. -/
theorem conv_bytes (s : ByteArray) (w : World) : ∃ cap w', (convert 9 87 (.string s)).run Tryz.prog w = .ok (.slice (some ⟨w.heap.size, 0, none⟩) s.size cap) w' ∧ Below w.heap.size w w' ∧ BytesOk w' (some ⟨w.heap.size, 0, none⟩) cap (bytesN s) := by
 refine ⟨_, _, run_bytes_of_string w 9 87 5 s Tryz.underlying9 Tryz.underlying87 Tryz.underlying5, (Below.refl _ _).drew.alloc (Nat.le_refl _) _, fun e => (by cases e), by rw [bytesN_length]; exact grownCap_ge _ _ _ _, bytesN_lt s, .inr ⟨_, rfl, fun j hj => ?_⟩⟩
 have hj' : j < s.data.size := by rw [bytesN_length] at hj; exact hj
 rw [addr_add0]
 have h1 := World.cell?_alloc_mark w.drew (bytesRow s (grownCap w s.size 0 5)) 5 ((bytesRow s (grownCap w s.size 0 5)).size, (bytesRow s (grownCap w s.size 0 5)).size + 1) j
 refine h1.trans ?_
 have e : (bytesN s)[j] = s.data[j].toNat := by simp [bytesN]
 rw [bytesRow_at s _ j hj', e]
theorem beq_name (l : List UInt8) (name : ByteArray) : ((⟨l.toArray⟩ : ByteArray).toList == name.toList) = (name.data.toList == l) := by
 rw [ByteArray.toList_eq, ByteArray.toList_eq]
 show (l == name.data.toList) = _
 rw [Bool.eq_iff_iff]
 simp only [beq_iff_eq]
 exact eq_comm
def dkey (x : ByteArray × ByteArray) : ByteArray × List Nat := (x.1, bytesN x.2)
def dpair (x : ByteArray × ByteArray) : ByteArray × Value := (x.1, .string x.2)
/-- the document's answer. -/
def GotD (r : Except Int (List Nat)) (w : World) (e : Ending) (w' : World) : Prop := (match r with
 | .error c => e = .returned (.tuple #[.string ⟨#[]⟩, .int .i64 c])
 | .ok d => e = .returned (.tuple #[.string (strN d), .int .i64 0])) ∧ Below w.heap.size w w'
set_option maxHeartbeats 3200000 in
theorem dsget_any (ds : List (ByteArray × ByteArray)) (name : ByteArray) (S : Option Addr) (cap : Nat) (w : World) (hs : Pairs w S (ds.map dpair)) (hlen : ds.length ≤ 1000000000) (hbig : ∀ x ∈ ds, x.2.size ≤ 100000000) :
  Calls Tryz.prog 89 #[.slice S ds.length cap, .string name] w (GotD (getA (ds.map dkey) name) w) := by
 have hpl := dplace_any (ds.map (·.1)) name S cap w (by simpa using hlen) (by have h := hs.names; rwa [List.map_map] at h)
 rw [List.length_map] at hpl
 have hpc := pos_cases (ds.map dkey) name
 rw [List.map_map, show ((fun x : ByteArray × List Nat => x.1) ∘ dkey) = (fun x : ByteArray × ByteArray => x.1) from rfl] at hpc
 have HPL := Lib.hid hpl
 have HS := Lib.hid hs
 clear hpl hs
 have hgd : getA (ds.map dkey) name = match (ds.map dkey).find? (fun x => x.1 == name) with
  | none => .error 4
  | some x => if (name.data.toList == nmL x.2) = true then .ok x.2 else .error 6 := rfl
 rcases hpc with ⟨hp, hf⟩ | ⟨k, hk', hp, hf⟩
 ·rw [hf] at hgd
  rw [hgd]
  rw [hp] at HPL
  clear hgd hf hp
  go_enter Tryz.func89, Tryz.ntmps89
  go_wp2_with fail
  refine HPL.out.mono ?_
  rintro e w1 ⟨rfl, rfl⟩
  go_wp2
  refine bodyPost_ret (v := .tuple #[.string ⟨#[]⟩, .int .i64 4]) (by simp [results, Tryz.results89, go_sem]) rfl ?_
  exact ⟨rfl, Below.refl _ _⟩
 ·have hk : k < ds.length := by simpa using hk'
  rw [hf] at hgd
  have hat := HS.out.at' (k := k) (by simpa using hk)
  have hb9 := hbig _ (List.getElem_mem hk)
  rw [List.getElem_map] at hat hgd
  rw [hp] at HPL
  obtain ⟨bk, hbk⟩ : ∃ bk, bk = ds[k] := ⟨_, rfl⟩
  rw [← hbk] at hat hgd hb9
  clear hf hp hbk hk'
  obtain ⟨nmk, sk⟩ := bk
  simp only [dpair, dkey] at hat hgd hb9
  obtain ⟨b, o, rfl, hc1, hc2⟩ := hat
  have hk0 : (0 : Int) ≤ (k : Int) := Int.natCast_nonneg _
  have hkl : (k : Int) < (ds.length : Int) := by omega
  obtain ⟨cb, wb, hcv, hbb, hok⟩ := conv_bytes sk w
  have HBB := Lib.hid hbb
  have HOK := Lib.hid hok
  have hnm := docName_any (bytesN sk) (some ⟨w.heap.size, 0, none⟩) cb wb hok.by' (by rw [bytesN_length]; exact hb9) hok.nil hok.le hok.at'
  rw [bytesN_length] at hnm
  have HNM := Lib.hid hnm
  clear hbb hok hnm
  have hbn := beq_name (nmL (bytesN sk)) name
  cases hq : (name.data.toList == nmL (bytesN sk)) with
  | true =>
   have hgd2 : getA (ds.map dkey) name = .ok (bytesN sk) := hgd.trans (if_pos hq)
   rw [hq] at hbn
   rw [hgd2]
   have hsn := strN_bytesN sk
   have HSN := Lib.hid hsn
   clear hgd2 hgd hq hsn
   generalize hbl : (⟨(nmL (bytesN sk)).toArray⟩ : ByteArray) = bl at hbn HNM
   clear hbl
   go_enter Tryz.func89, Tryz.ntmps89
   go_wp2_with fail
   refine HPL.out.mono ?_
   rintro e w1 ⟨rfl, rfl⟩
   go_wp2_with fail
   refine HNM.out.mono ?_
   rintro e w2 ⟨rfl, hb2⟩
   have HB2 := Lib.hid (HBB.out.trans (hb2.mono HBB.out.size))
   have hc3 := cell_below HB2.out hc2
   clear hb2 hc1 hc2 hcv
   go_wp2
   refine bodyPost_ret (v := .tuple #[.string sk, .int .i64 0]) (by simp [results, Tryz.results89, go_sem]) rfl ?_
   exact ⟨congrArg (fun z => Ending.returned (.tuple #[.string z, .int .i64 0])) HSN.out.symm, HB2.out⟩
  | false =>
   have hgd2 : getA (ds.map dkey) name = .error 6 := hgd.trans (if_neg (by rw [hq]; decide))
   rw [hq] at hbn
   rw [hgd2]
   clear hgd2 hgd hq
   generalize hbl : (⟨(nmL (bytesN sk)).toArray⟩ : ByteArray) = bl at hbn HNM
   clear hbl
   go_enter Tryz.func89, Tryz.ntmps89
   go_wp2_with fail
   refine HPL.out.mono ?_
   rintro e w1 ⟨rfl, rfl⟩
   go_wp2_with fail
   refine HNM.out.mono ?_
   rintro e w2 ⟨rfl, hb2⟩
   have HB2 := Lib.hid (HBB.out.trans (hb2.mono HBB.out.size))
   clear hb2 hc1 hc2 hcv
   go_wp2
   refine bodyPost_ret (v := .tuple #[.string ⟨#[]⟩, .int .i64 6]) (by simp [results, Tryz.results89, go_sem]) rfl ?_
   exact ⟨rfl, HB2.out⟩
set_option maxHeartbeats 3200000 in
theorem dfetch_any (ds : List (ByteArray × ByteArray)) (m n : ByteArray) (z : Int) (a o v : ByteArray) (S : Option Addr) (cap : Nat) (w : World) (hs : Pairs w S (ds.map dpair)) (hlen : ds.length ≤ 1000000000) (hbig : ∀ x ∈ ds, x.2.size ≤ 100000000) :
  Calls Tryz.prog 41 #[.slice S ds.length cap, .agg #[.string m, .string n, .int .i64 z, .string a, .string o, .string v]] w (GotD (fetchA (ds.map dkey) n z) w) := by
 have hB0 := (Below.refl w.heap.size w).alloc (Nat.le_refl _) (.cells #[.string m, .string n, .int .i64 z, .string a, .string o, .string v] 67)
 have hget := dsget_any ds n S cap _ (hs.keep hB0) hlen hbig
 have hfd : fetchA (ds.map dkey) n z = match getA (ds.map dkey) n with
  | .error c => .error c
  | .ok d => if (d.length : Int) = z then .ok d else .error 12 := rfl
 have HB0 := Lib.hid hB0
 clear hs hB0 hbig
 cases hg : getA (ds.map dkey) n with
 | error c =>
  have hc0 : c ≠ 0 := by
   rcases getA_codes hg with h | h <;> omega
  have hcb : (c == 0) = false := by simpa using hc0
  rw [hg] at hget hfd
  rw [hfd]
  have HGET := Lib.hid hget
  clear hg hget hfd
  go_enter Tryz.func41, Tryz.ntmps41
  go_wp2_with fail
  refine HGET.out.mono ?_
  rintro e w1 ⟨he, hb1⟩
  obtain rfl : e = _ := he
  have HB1 := Lib.hid (HB0.out.trans (hb1.mono (by rw [alloc_size1]; omega)))
  have HX := Lib.hid ((hb1.block w.heap.size (by rw [alloc_size1]; omega)).trans (alloc_at rfl))
  have c1 := fun o => cell_of_row w1 w.heap.size o _ 67 (0, 0) HX.out
  clear hb1
  go_wp2
  refine bodyPost_ret (v := .tuple #[.string ⟨#[]⟩, .int .i64 c]) (by simp [results, Tryz.results41, go_sem]) rfl ?_
  exact ⟨rfl, HB1.out⟩
 | ok d =>
  rw [hg] at hget hfd
  have hsz := strN_size d
  by_cases hz : (d.length : Int) = z
  ·have hfd2 := hfd.trans (if_pos hz)
   rw [hfd2]
   have HGET := Lib.hid hget
   clear hg hget hfd hfd2
   subst hz
   rw [← hsz] at *
   obtain ⟨sd, hsd⟩ : ∃ sd, sd = strN d := ⟨_, rfl⟩
   have HSD := Lib.hid hsd
   go_enter Tryz.func41, Tryz.ntmps41
   go_wp2_with fail
   refine HGET.out.mono ?_
   rintro e w1 ⟨he, hb1⟩
   obtain rfl : e = _ := he
   have HB1 := Lib.hid (HB0.out.trans (hb1.mono (by rw [alloc_size1]; omega)))
   have HX := Lib.hid ((hb1.block w.heap.size (by rw [alloc_size1]; omega)).trans (alloc_at rfl))
   rw [← hsd] at HX ⊢
   clear hsd hsz
   have c1 := fun o => cell_of_row w1 w.heap.size o _ 67 (0, 0) HX.out
   clear hb1
   go_wp2
   refine bodyPost_ret (v := .tuple #[.string sd, .int .i64 0]) (by simp [results, Tryz.results41, go_sem]) rfl ?_
   exact ⟨by rw [HSD.out], HB1.out⟩
  ·have hfd2 := hfd.trans (if_neg hz)
   rw [hfd2]
   have HGET := Lib.hid hget
   have hz' : ¬ ((strN d).size : Int) = z := by rw [hsz]; exact hz
   clear hg hget hfd hfd2 hsz hz
   go_enter Tryz.func41, Tryz.ntmps41
   go_wp2_with fail
   refine HGET.out.mono ?_
   rintro e w1 ⟨he, hb1⟩
   obtain rfl : e = _ := he
   have HB1 := Lib.hid (HB0.out.trans (hb1.mono (by rw [alloc_size1]; omega)))
   have HX := Lib.hid ((hb1.block w.heap.size (by rw [alloc_size1]; omega)).trans (alloc_at rfl))
   obtain ⟨sd, hsd⟩ : ∃ sd, sd = strN d := ⟨_, rfl⟩
   rw [← hsd] at hz' ⊢
   clear hsd
   have c1 := fun o => cell_of_row w1 w.heap.size o _ 67 (0, 0) HX.out
   clear hb1
   go_wp2
   refine bodyPost_ret (v := .tuple #[.string ⟨#[]⟩, .int .i64 12]) (by simp [results, Tryz.results41, go_sem]) rfl ?_
   exact ⟨rfl, HB1.out⟩
end Go.Proofs.YtoimjnmhinfbkaaGreatDoor
