import Derived.Deep.Slices
import Derived.Test.YtoimjnmhinfbkaaGreatDoorS08
namespace Go.Proofs.YtoimjnmhinfbkaaGreatDoor
open Go.RowKit
set_option maxRecDepth 100000
section
variable {ρ : Operand → Value} {w : World} {o : Oper} {x y : Operand}
theorem run_f253_2 {b : Nat} (ho : o.op = .fieldAddr 253 x 2) (h : ρ x = .pointer (some ⟨b, 0, none⟩)) : (execOp ρ o).run Tryz.prog w = .ok (.value (.pointer (some ⟨b, 72, none⟩))) w := by
 unfold execOp; rw [ho]; simp only [h]; go_simp
theorem run_f253_1 {b : Nat} (ho : o.op = .fieldAddr 253 x 1) (h : ρ x = .pointer (some ⟨b, 0, none⟩)) : (execOp ρ o).run Tryz.prog w = .ok (.value (.pointer (some ⟨b, 8, none⟩))) w := by
 unfold execOp; rw [ho]; simp only [h]; go_simp
theorem run_f253_0 {b : Nat} (ho : o.op = .fieldAddr 253 x 0) (h : ρ x = .pointer (some ⟨b, 0, none⟩)) : (execOp ρ o).run Tryz.prog w = .ok (.value (.pointer (some ⟨b, 0, none⟩))) w := by
 unfold execOp; rw [ho]; simp only [h]; go_simp
theorem run_load3 {p : Addr} {z : Int} (hc : w.cell? p = some (.int .i64 z)) (ho : o.op = .load 3 x) (h1 : ρ x = .pointer (some p)) : (execOp ρ o).run Tryz.prog w = .ok (.value (.int .i64 z)) w := by
 unfold execOp; rw [ho]; simp only [h1]; go_simp
theorem run_rem64 {n : Nat} (hn : n ≤ 1000000000) (ho : o.op = .binOp .rem 3 x y 3) (h1 : ρ x = .int .i64 (n : Int)) (h2 : ρ y = .int .i64 64) : (execOp ρ o).run Tryz.prog w = .ok (.value (.int .i64 ((n % 64 : Nat) : Int))) w := by
 have h0 : (0 : Int) ≤ (n : Int) := Int.natCast_nonneg _
 have h3 : (n : Int) ≤ 1000000000 := by omega
 unfold execOp; rw [ho]; simp only [h1, h2]; go_simp
 exact Int.tmod_eq_emod_of_nonneg h0
theorem run_slice251 {b k : Nat} (hk : k < 64) (ho : o.op = .slice 251 x (some y) none none) (h1 : ρ x = .pointer (some ⟨b, 8, none⟩)) (h2 : ρ y = .int .i64 (k : Int)) : (execOp ρ o).run Tryz.prog w = .ok (.value (.slice (some ⟨b, 8 + k, none⟩) (64 - k) (64 - k))) w := by
 have h0 : (0 : Int) ≤ (k : Int) := Int.natCast_nonneg _
 have h3 : (k : Int) < 64 := by omega
 have h4 : (k : Int) ≤ 64 := by omega
 unfold execOp; rw [ho]; simp only [h1, h2, Option.map]; go_simp
 intro h; omega
theorem run_store3 {p : Addr} {z : Int} {v : Value} (hc : w.cell? p = some v) (hf : w.frozen? p = false) (ho : o.op = .store 3 x y) (h1 : ρ x = .pointer (some p)) (h2 : ρ y = .int .i64 z) : (execOp ρ o).run Tryz.prog w = .ok .skip (w.setCell p (.int .i64 z)) := by
 unfold execOp; rw [ho]; simp only [h1, h2]; go_simp
theorem run_copy87 {b n m dl dc sl sc : Nat} {A : Addr} {cs : List Value} (hl : cs.length = Nat.min sl dl) (hsrc : ∀ j v, cs[j]? = some v → w.cell? (A.add j) = some v) (hc : ∀ j, j < cs.length → (w.cell? ⟨b, n + j, none⟩).isSome = true) (hf : ∀ j, j < cs.length → w.frozen? ⟨b, n + j, none⟩ = false) (h1 : ∀ v ∈ cs, v.oneCell' = true) (hm : cs.length = m)
  (ho : o.op = .call { callee := .builtin .copy, args := #[x, y], argTypes := #[87, 87] }) (hx : ρ x = .slice (some ⟨b, n, none⟩) dl dc) (hy : ρ y = .slice (some A) sl sc) : (execOp ρ o).run Tryz.prog w = .ok (.value (.int .i64 (m : Int))) (w.setCells b n cs) := by
 have hr := run_copy_cells (P := Tryz.prog) w 87 87 o.type 5 b n dl dc A sl sc cs Tryz.underlying87 (by kernel_rfl) hl hsrc hc hf h1
 unfold execOp
 simp only [ho, resolve, invoke, builtin, Sem.run_bind, Sem.run_pure, Result.andThen_ok, List.map_toArray, List.map_cons, List.map_nil, hx, hy, hr, hm]
 rfl
theorem run_slice87 {A : Addr} {len cap k : Nat} (hk : k ≤ len) (hlc : len ≤ cap) (ho : o.op = .slice 87 x (some y) none none) (h1 : ρ x = .slice (some A) len cap) (h2 : ρ y = .int .i64 (k : Int)) : (execOp ρ o).run Tryz.prog w = .ok (.value (.slice (some (if cap - k = 0 then A else A.add k)) (len - k) (cap - k))) w := by
 have h0 : (0 : Int) ≤ (k : Int) := Int.natCast_nonneg _
 have h3 : (k : Int) ≤ (len : Int) := by omega
 have h4 : (len : Int) ≤ (cap : Int) := by omega
 unfold execOp; rw [ho]; simp only [h1, h2, Option.map]; go_simp
 by_cases e : cap = k
 ·rw [if_pos e, if_pos (by omega)]
 ·rw [if_neg e, if_neg (by omega)]
end
noncomputable def ops140_4 : Array Oper := (Tryz.f140.body.bind (inCode 4)).getD #[]
def sl140_4 : Nat → Nat
 | 0 => 12
 | 1 => 13
 | 2 => 14
 | 3 => 15
 | 4 => 16
 | 5 => 5
 | _ => 0
def R140_4 (hb : Nat) (n : Nat) : Nat → Value → World → Prop
 | 0, v, _ => v = .pointer (some ⟨hb, 0, none⟩)
 | 1, v, _ => v = .pointer (some ⟨hb, 0, none⟩)
 | 2, v, _ => v = .pointer (some ⟨hb, 72, none⟩)
 | 3, v, _ => v = .int .i64 (n : Int)
 | 4, v, _ => v = .int .i64 ((n % 64 : Nat) : Int)
 | 5, v, _ => v = .int .i64 ((n % 64 : Nat) : Int)
 | _, _, _ => True
def J140_4 (W0 : World) (hb : Nat) (n : Nat) (L : Array Bool) (w : World) : Prop := w = W0
set_option maxHeartbeats 3200000 in
theorem reg140_4 {ops : Array Oper} (ho : ops = ops140_4) {Q : Exit → Act → World → Prop} {a0 : Act} {w0 W0 : World} (hW : w0 = W0) {hb : Nat} {n : Nat} (hn : n ≤ 1000000000) (cn : W0.cell? ⟨hb, 72, none⟩ = some (.int .i64 (n : Int))) (hs0 : a0.eval (.tmp 0) = .pointer (some ⟨hb, 0, none⟩)) (hsz : a0.tmps.size = 51)
  (HK : ∀ a, a.defers = a0.defers → a.tmps.size = 51 → (∀ s, freeB ops140_4 s = true → a.eval (.tmp s) = a0.eval (.tmp s)) → (∀ i, i < 6 → R140_4 hb n i (a.eval (.tmp (sl140_4 i))) (W0)) → Q .normal a (W0)) : (Code.region 4 ops false).wp Tryz.prog Q a0 w0 := by
 subst ho
 refine region_made_seq (n := 6) (sl := sl140_4) (J := J140_4 W0 hb n) (R := R140_4 hb n) (by kernel_rfl) (by kernel_rfl) (by kernel_rfl) (by rw [hsz]; kernel_rfl) ?_ (show _ = _ from hW) (fun L a w hall hf => ?_)
 rotate_left
 ·obtain rfl : w = W0 := hf.world
  exact HK a hf.defers (hf.size.trans hsz) hf.rest (fun i hi => hf.got i (hall i hi))
 intro i hi L a w hs h1 hdep hd hst ho
 clear HK
 match i, hi, h1, hdep, ho with
 | 0, _, h1, hdep, ho =>
   have hw : w = W0 := hst.world
   obtain rfl : W0 = w := hw.symm
   have s0 : a.eval (.tmp 0) = .pointer (some ⟨hb, 0, none⟩) := (hst.rest 0 (by kernel_rfl)).trans hs0
   have hr : (execOp a.eval (opAt ops140_4 0)).run Tryz.prog W0 = .ok (.value (.pointer (some ⟨hb, 0, none⟩))) W0 := run_moved (x := .tmp 0) (by kernel_rfl) s0
   exact op_value ho (by kernel_rfl) hr (made_val (d := 12) (by kernel_rfl) rfl rfl (fun _ _ _ _ h => h))
 | 1, _, h1, hdep, ho =>
   have hw : w = W0 := hst.world
   obtain rfl : W0 = w := hw.symm
   have g0 : a.eval (.tmp 12) = .pointer (some ⟨hb, 0, none⟩) := hst.got 0 (hdep 0 (by kernel_rfl))
   have hr : (execOp a.eval (opAt ops140_4 1)).run Tryz.prog W0 = .ok (.value (.pointer (some ⟨hb, 0, none⟩))) W0 := run_nil (x := .tmp 12) (by kernel_rfl) g0
   exact op_value ho (by kernel_rfl) hr (made_val (d := 13) (by kernel_rfl) rfl rfl (fun _ _ _ _ h => h))
 | 2, _, h1, hdep, ho =>
   have hw : w = W0 := hst.world
   obtain rfl : W0 = w := hw.symm
   have g1 : a.eval (.tmp 13) = .pointer (some ⟨hb, 0, none⟩) := hst.got 1 (hdep 1 (by kernel_rfl))
   have hr : (execOp a.eval (opAt ops140_4 2)).run Tryz.prog W0 = .ok (.value (.pointer (some ⟨hb, 72, none⟩))) W0 := run_f253_2 (show (opAt ops140_4 2).op = .fieldAddr 253 (.tmp 13) 2 from (by kernel_rfl)) g1
   exact op_value ho (by kernel_rfl) hr (made_val (d := 14) (by kernel_rfl) rfl rfl (fun _ _ _ _ h => h))
 | 3, _, h1, hdep, ho =>
   have hw : w = W0 := hst.world
   obtain rfl : W0 = w := hw.symm
   have g2 : a.eval (.tmp 14) = .pointer (some ⟨hb, 72, none⟩) := hst.got 2 (hdep 2 (by kernel_rfl))
   have hr : (execOp a.eval (opAt ops140_4 3)).run Tryz.prog W0 = .ok (.value (.int .i64 (n : Int))) W0 := run_load3 cn (show (opAt ops140_4 3).op = .load 3 (.tmp 14) from (by kernel_rfl)) g2
   exact op_value ho (by kernel_rfl) hr (made_val (d := 15) (by kernel_rfl) rfl rfl (fun _ _ _ _ h => h))
 | 4, _, h1, hdep, ho =>
   have hw : w = W0 := hst.world
   obtain rfl : W0 = w := hw.symm
   have g3 : a.eval (.tmp 15) = .int .i64 (n : Int) := hst.got 3 (hdep 3 (by kernel_rfl))
   have hr : (execOp a.eval (opAt ops140_4 4)).run Tryz.prog W0 = .ok (.value (.int .i64 ((n % 64 : Nat) : Int))) W0 := run_rem64 hn (show (opAt ops140_4 4).op = .binOp .rem 3 (.tmp 15) (.const (.int .i64 64)) 3 from (by kernel_rfl)) g3 rfl
   exact op_value ho (by kernel_rfl) hr (made_val (d := 16) (by kernel_rfl) rfl rfl (fun _ _ _ _ h => h))
 | 5, _, h1, hdep, ho =>
   have hw : w = W0 := hst.world
   obtain rfl : W0 = w := hw.symm
   have g4 : a.eval (.tmp 16) = .int .i64 ((n % 64 : Nat) : Int) := hst.got 4 (hdep 4 (by kernel_rfl))
   have hr : (execOp a.eval (opAt ops140_4 5)).run Tryz.prog W0 = .ok (.value (.int .i64 ((n % 64 : Nat) : Int))) W0 := run_moved_as (x := .tmp 16) (by kernel_rfl) g4
   exact op_value ho (by kernel_rfl) hr (made_val (d := 5) (by kernel_rfl) rfl rfl (fun _ _ _ _ h => h))
 | k + 6, hi, _, _, _ => exact absurd hi (by omega)
noncomputable def ops140_5 : Array Oper := (Tryz.f140.body.bind (inCode 5)).getD #[]
def sl140_5 : Nat → Nat
 | 0 => 17
 | 1 => 18
 | 2 => 19
 | 3 => 20
 | 4 => 21
 | 5 => 22
 | 6 => 23
 | 7 => 6
 | _ => 0
def R140_5 (hb : Nat) (at0 : Nat) (A : Addr) (len : Nat) (cap : Nat) (m : Nat) (cs : List Value) : Nat → Value → World → Prop
 | 0, v, _ => v = .pointer (some ⟨hb, 0, none⟩)
 | 1, v, _ => v = .pointer (some ⟨hb, 0, none⟩)
 | 2, v, _ => v = .pointer (some ⟨hb, 8, none⟩)
 | 3, v, _ => v = .int .i64 (at0 : Int)
 | 4, v, _ => v = .slice (some ⟨hb, 8 + at0, none⟩) (64 - at0) (64 - at0)
 | 5, v, _ => v = .slice (some A) len cap
 | 6, v, _ => v = .int .i64 (m : Int)
 | 7, v, _ => v = .int .i64 (m : Int)
 | _, _, _ => True
def J140_5 (W0 : World) (hb : Nat) (at0 : Nat) (A : Addr) (len : Nat) (cap : Nat) (m : Nat) (cs : List Value) (L : Array Bool) (w : World) : Prop := (L.getD 6 false = false → w = W0) ∧ (L.getD 6 false = true → w = W0.setCells hb (8 + at0) cs)
theorem J140_5_any {W0 : World} {hb : Nat} {at0 : Nat} {A : Addr} {len : Nat} {cap : Nat} {m : Nat} {cs : List Value} {L : Array Bool} {w : World} (i : Nat) (hi : i ≠ 6) (h : J140_5 W0 hb at0 A len cap m cs L w) : J140_5 W0 hb at0 A len cap m cs (L.setIfInBounds i true) w := by
 obtain ⟨h0, h1⟩ := h
 exact ⟨fun h => h0 (unset h), fun h => h1 (set_ne (by omega) h)⟩
set_option maxHeartbeats 3200000 in
theorem reg140_5 {ops : Array Oper} (ho : ops = ops140_5) {Q : Exit → Act → World → Prop} {a0 : Act} {w0 W0 : World} (hW : w0 = W0) {hb : Nat} {at0 : Nat} {A : Addr} {len : Nat} {cap : Nat} {m : Nat} {cs : List Value} (hat : at0 < 64) (hcl : cs.length = Nat.min len (64 - at0)) (hsr : ∀ j v, cs[j]? = some v → W0.cell? (A.add j) = some v) (hth : ∀ j, j < cs.length → (W0.cell? ⟨hb, 8 + at0 + j, none⟩).isSome = true) (hfz : ∀ j, j < cs.length → W0.frozen? ⟨hb, 8 + at0 + j, none⟩ = false) (hon : ∀ v ∈ cs, v.oneCell' = true) (hm : cs.length = m) (hs0 : a0.eval (.tmp 0) = .pointer (some ⟨hb, 0, none⟩)) (hs1 : a0.eval (.tmp 1) = .slice (some A) len cap) (hs5 : a0.eval (.tmp 5) = .int .i64 (at0 : Int)) (hsz : a0.tmps.size = 51)
  (HK : ∀ a, a.defers = a0.defers → a.tmps.size = 51 → (∀ s, freeB ops140_5 s = true → a.eval (.tmp s) = a0.eval (.tmp s)) → (∀ i, i < 8 → R140_5 hb at0 A len cap m cs i (a.eval (.tmp (sl140_5 i))) (W0.setCells hb (8 + at0) cs)) → Q .normal a (W0.setCells hb (8 + at0) cs)) : (Code.region 5 ops false).wp Tryz.prog Q a0 w0 := by
 subst ho
 refine region_made_seq (n := 8) (sl := sl140_5) (J := J140_5 W0 hb at0 A len cap m cs) (R := R140_5 hb at0 A len cap m cs) (by kernel_rfl) (by kernel_rfl) (by kernel_rfl) (by rw [hsz]; kernel_rfl) ?_ (by rw [hW]; exact ⟨fun _ => rfl, fun h => by simp [Array.getD] at h⟩) (fun L a w hall hf => ?_)
 rotate_left
 ·have hw1 : w = W0.setCells hb (8 + at0) cs := hf.world.2 (hall 6 (by decide))
  subst w
  exact HK a hf.defers (hf.size.trans hsz) hf.rest (fun i hi => hf.got i (hall i hi))
 intro i hi L a w hs h1 hdep hd hst ho
 clear HK
 match i, hi, h1, hdep, ho with
 | 0, _, h1, hdep, ho =>
   have JJ := J140_5_any 0 (by decide) hst.world
   have s0 : a.eval (.tmp 0) = .pointer (some ⟨hb, 0, none⟩) := (hst.rest 0 (by kernel_rfl)).trans hs0
   have hr : (execOp a.eval (opAt ops140_5 0)).run Tryz.prog w = .ok (.value (.pointer (some ⟨hb, 0, none⟩))) w := run_moved (x := .tmp 0) (by kernel_rfl) s0
   exact op_value ho (by kernel_rfl) hr (made_val (d := 17) (by kernel_rfl) rfl JJ (fun _ _ _ _ h => h))
 | 1, _, h1, hdep, ho =>
   have JJ := J140_5_any 1 (by decide) hst.world
   have g0 : a.eval (.tmp 17) = .pointer (some ⟨hb, 0, none⟩) := hst.got 0 (hdep 0 (by kernel_rfl))
   have hr : (execOp a.eval (opAt ops140_5 1)).run Tryz.prog w = .ok (.value (.pointer (some ⟨hb, 0, none⟩))) w := run_nil (x := .tmp 17) (by kernel_rfl) g0
   exact op_value ho (by kernel_rfl) hr (made_val (d := 18) (by kernel_rfl) rfl JJ (fun _ _ _ _ h => h))
 | 2, _, h1, hdep, ho =>
   have JJ := J140_5_any 2 (by decide) hst.world
   have g1 : a.eval (.tmp 18) = .pointer (some ⟨hb, 0, none⟩) := hst.got 1 (hdep 1 (by kernel_rfl))
   have hr : (execOp a.eval (opAt ops140_5 2)).run Tryz.prog w = .ok (.value (.pointer (some ⟨hb, 8, none⟩))) w := run_f253_1 (show (opAt ops140_5 2).op = .fieldAddr 253 (.tmp 18) 1 from (by kernel_rfl)) g1
   exact op_value ho (by kernel_rfl) hr (made_val (d := 19) (by kernel_rfl) rfl JJ (fun _ _ _ _ h => h))
 | 3, _, h1, hdep, ho =>
   have JJ := J140_5_any 3 (by decide) hst.world
   have s5 : a.eval (.tmp 5) = .int .i64 (at0 : Int) := (hst.rest 5 (by kernel_rfl)).trans hs5
   have hr : (execOp a.eval (opAt ops140_5 3)).run Tryz.prog w = .ok (.value (.int .i64 (at0 : Int))) w := run_moved (x := .tmp 5) (by kernel_rfl) s5
   exact op_value ho (by kernel_rfl) hr (made_val (d := 20) (by kernel_rfl) rfl JJ (fun _ _ _ _ h => h))
 | 4, _, h1, hdep, ho =>
   have JJ := J140_5_any 4 (by decide) hst.world
   have g2 : a.eval (.tmp 19) = .pointer (some ⟨hb, 8, none⟩) := hst.got 2 (hdep 2 (by kernel_rfl))
   have g3 : a.eval (.tmp 20) = .int .i64 (at0 : Int) := hst.got 3 (hdep 3 (by kernel_rfl))
   have hr : (execOp a.eval (opAt ops140_5 4)).run Tryz.prog w = .ok (.value (.slice (some ⟨hb, 8 + at0, none⟩) (64 - at0) (64 - at0))) w := run_slice251 hat (show (opAt ops140_5 4).op = .slice 251 (.tmp 19) (some (.tmp 20)) none none from (by kernel_rfl)) g2 g3
   exact op_value ho (by kernel_rfl) hr (made_val (d := 21) (by kernel_rfl) rfl JJ (fun _ _ _ _ h => h))
 | 5, _, h1, hdep, ho =>
   have JJ := J140_5_any 5 (by decide) hst.world
   have s1 : a.eval (.tmp 1) = .slice (some A) len cap := (hst.rest 1 (by kernel_rfl)).trans hs1
   have hr : (execOp a.eval (opAt ops140_5 5)).run Tryz.prog w = .ok (.value (.slice (some A) len cap)) w := run_moved (x := .tmp 1) (by kernel_rfl) s1
   exact op_value ho (by kernel_rfl) hr (made_val (d := 22) (by kernel_rfl) rfl JJ (fun _ _ _ _ h => h))
 | 6, _, h1, hdep, ho =>
   have hw : w = W0 := hst.world.1 (unl h1)
   obtain rfl : W0 = w := hw.symm
   have g4 : a.eval (.tmp 21) = .slice (some ⟨hb, 8 + at0, none⟩) (64 - at0) (64 - at0) := hst.got 4 (hdep 4 (by kernel_rfl))
   have g5 : a.eval (.tmp 22) = .slice (some A) len cap := hst.got 5 (hdep 5 (by kernel_rfl))
   have hr : (execOp a.eval (opAt ops140_5 6)).run Tryz.prog (W0) = .ok (.value (.int .i64 (m : Int))) (W0.setCells hb (8 + at0) cs) := run_copy87 hcl hsr hth hfz hon hm (show (opAt ops140_5 6).op = .call { callee := .builtin .copy, args := #[.tmp 21, .tmp 22], argTypes := #[87, 87] } from (by kernel_rfl)) g4 g5
   refine op_value ho (by kernel_rfl) hr (made_val (d := 23) (by kernel_rfl) rfl ⟨fun h => by (rw [set_same (by rw [hs]; decide)] at h; cases h), fun _ => rfl⟩ (fun j _ _ u h => ?_))
   match j, h with
   | 0, h => exact (show _ = _ from h)
   | 1, h => exact (show _ = _ from h)
   | 2, h => exact (show _ = _ from h)
   | 3, h => exact (show _ = _ from h)
   | 4, h => exact (show _ = _ from h)
   | 5, h => exact (show _ = _ from h)
   | 6, h => exact (show _ = _ from h)
   | 7, h => exact (show _ = _ from h)
   | _ + 8, _ => exact trivial
 | 7, _, h1, hdep, ho =>
   have JJ := J140_5_any 7 (by decide) hst.world
   have g6 : a.eval (.tmp 23) = .int .i64 (m : Int) := hst.got 6 (hdep 6 (by kernel_rfl))
   have hr : (execOp a.eval (opAt ops140_5 7)).run Tryz.prog w = .ok (.value (.int .i64 (m : Int))) w := run_moved_as (x := .tmp 23) (by kernel_rfl) g6
   exact op_value ho (by kernel_rfl) hr (made_val (d := 6) (by kernel_rfl) rfl JJ (fun _ _ _ _ h => h))
 | k + 8, hi, _, _, _ => exact absurd hi (by omega)
noncomputable def ops140_6 : Array Oper := (Tryz.f140.body.bind (inCode 6)).getD #[]
def sl140_6 : Nat → Nat
 | 0 => 24
 | 1 => 25
 | 2 => 26
 | 3 => 27
 | 4 => 28
 | 5 => 29
 | 6 => 30
 | 7 => 31
 | 8 => 32
 | 9 => 33
 | 10 => 34
 | 11 => 35
 | 12 => 1000001
 | 13 => 1
 | _ => 0
def R140_6 (hb : Nat) (n : Nat) (A : Addr) (len : Nat) (cap : Nat) (m : Nat) : Nat → Value → World → Prop
 | 0, v, _ => v = .pointer (some ⟨hb, 0, none⟩)
 | 1, v, _ => v = .pointer (some ⟨hb, 0, none⟩)
 | 2, v, _ => v = .pointer (some ⟨hb, 0, none⟩)
 | 3, v, _ => v = .pointer (some ⟨hb, 72, none⟩)
 | 4, v, _ => v = .int .i64 (n : Int)
 | 5, v, _ => v = .int .i64 (m : Int)
 | 6, v, _ => v = .int .i64 ((n + m : Nat) : Int)
 | 7, v, _ => v = .slice (some A) len cap
 | 8, v, _ => v = .int .i64 (m : Int)
 | 9, v, _ => v = .slice (some (if cap - m = 0 then A else A.add m)) (len - m) (cap - m)
 | 10, v, _ => v = .pointer (some ⟨hb, 0, none⟩)
 | 11, v, _ => v = .pointer (some ⟨hb, 72, none⟩)
 | 12, v, _ => True
 | 13, v, _ => v = .slice (some (if cap - m = 0 then A else A.add m)) (len - m) (cap - m)
 | _, _, _ => True
def J140_6 (W0 : World) (hb : Nat) (n : Nat) (A : Addr) (len : Nat) (cap : Nat) (m : Nat) (L : Array Bool) (w : World) : Prop := (L.getD 12 false = false → w = W0) ∧ (L.getD 12 false = true → w = W0.setCell ⟨hb, 72, none⟩ (.int .i64 ((n + m : Nat) : Int)))
theorem J140_6_any {W0 : World} {hb : Nat} {n : Nat} {A : Addr} {len : Nat} {cap : Nat} {m : Nat} {L : Array Bool} {w : World} (i : Nat) (hi : i ≠ 12) (h : J140_6 W0 hb n A len cap m L w) : J140_6 W0 hb n A len cap m (L.setIfInBounds i true) w := by
 obtain ⟨h0, h1⟩ := h
 exact ⟨fun h => h0 (unset h), fun h => h1 (set_ne (by omega) h)⟩
set_option maxHeartbeats 3200000 in
theorem reg140_6 {ops : Array Oper} (ho : ops = ops140_6) {Q : Exit → Act → World → Prop} {a0 : Act} {w0 W0 : World} (hW : w0.drew = W0) {hb : Nat} {n : Nat} {A : Addr} {len : Nat} {cap : Nat} {m : Nat} (hn : n + m ≤ 1000000000) (hml : m ≤ len) (hlc : len ≤ cap) (cn : W0.cell? ⟨hb, 72, none⟩ = some (.int .i64 (n : Int))) (hfz : ∀ o, W0.frozen? ⟨hb, o, none⟩ = false) (hs0 : a0.eval (.tmp 0) = .pointer (some ⟨hb, 0, none⟩)) (hs1 : a0.eval (.tmp 1) = .slice (some A) len cap) (hs6 : a0.eval (.tmp 6) = .int .i64 (m : Int)) (hsz : a0.tmps.size = 51)
  (HK : ∀ a, a.defers = a0.defers → a.tmps.size = 51 → (∀ s, freeB ops140_6 s = true → a.eval (.tmp s) = a0.eval (.tmp s)) → (∀ i, i < 14 → R140_6 hb n A len cap m i (a.eval (.tmp (sl140_6 i))) (W0.setCell ⟨hb, 72, none⟩ (.int .i64 ((n + m : Nat) : Int)))) → Q .normal a (W0.setCell ⟨hb, 72, none⟩ (.int .i64 ((n + m : Nat) : Int)))) : (Code.region 6 ops true).wp Tryz.prog Q a0 w0 := by
 subst ho
 refine region_madeE (n := 14) (sl := sl140_6) (J := J140_6 W0 hb n A len cap m) (R := R140_6 hb n A len cap m) (by kernel_rfl) (by kernel_rfl) (by kernel_rfl) (by rw [hsz]; kernel_rfl) ?_ (by rw [hW]; exact ⟨fun _ => rfl, fun h => by simp [Array.getD] at h⟩) (fun L a w hall hfE => ?_)
 rotate_left
 ·have hf := hfE.base
  have hw1 : w = W0.setCell ⟨hb, 72, none⟩ (.int .i64 ((n + m : Nat) : Int)) := hf.world.2 (hall 12 (by decide))
  subst w
  exact HK a hf.defers (hf.size.trans hsz) hf.rest (fun i hi => hf.got i (hall i hi))
 intro i hi L a w hs h1 hdep hd hE ho
 clear HK
 have hst := hE.base
 match i, hi, h1, hdep, ho with
 | 0, _, h1, hdep, ho =>
   have JJ := J140_6_any 0 (by decide) hst.world
   have s0 : a.eval (.tmp 0) = .pointer (some ⟨hb, 0, none⟩) := (hst.rest 0 (by kernel_rfl)).trans hs0
   have hr : (execOp a.eval (opAt ops140_6 0)).run Tryz.prog w = .ok (.value (.pointer (some ⟨hb, 0, none⟩))) w := run_moved (x := .tmp 0) (by kernel_rfl) s0
   exact op_value ho (by kernel_rfl) hr (made_val (d := 24) (by kernel_rfl) rfl JJ (fun _ _ _ _ h => h))
 | 1, _, h1, hdep, ho =>
   have JJ := J140_6_any 1 (by decide) hst.world
   have s0 : a.eval (.tmp 0) = .pointer (some ⟨hb, 0, none⟩) := (hst.rest 0 (by kernel_rfl)).trans hs0
   have hr : (execOp a.eval (opAt ops140_6 1)).run Tryz.prog w = .ok (.value (.pointer (some ⟨hb, 0, none⟩))) w := run_moved (x := .tmp 0) (by kernel_rfl) s0
   exact op_value ho (by kernel_rfl) hr (made_val (d := 25) (by kernel_rfl) rfl JJ (fun _ _ _ _ h => h))
 | 2, _, h1, hdep, ho =>
   have JJ := J140_6_any 2 (by decide) hst.world
   have g1 : a.eval (.tmp 25) = .pointer (some ⟨hb, 0, none⟩) := hst.got 1 (hdep 1 (by kernel_rfl))
   have hr : (execOp a.eval (opAt ops140_6 2)).run Tryz.prog w = .ok (.value (.pointer (some ⟨hb, 0, none⟩))) w := run_nil (x := .tmp 25) (by kernel_rfl) g1
   exact op_value ho (by kernel_rfl) hr (made_val (d := 26) (by kernel_rfl) rfl JJ (fun _ _ _ _ h => h))
 | 3, _, h1, hdep, ho =>
   have JJ := J140_6_any 3 (by decide) hst.world
   have g2 : a.eval (.tmp 26) = .pointer (some ⟨hb, 0, none⟩) := hst.got 2 (hdep 2 (by kernel_rfl))
   have hr : (execOp a.eval (opAt ops140_6 3)).run Tryz.prog w = .ok (.value (.pointer (some ⟨hb, 72, none⟩))) w := run_f253_2 (show (opAt ops140_6 3).op = .fieldAddr 253 (.tmp 26) 2 from (by kernel_rfl)) g2
   exact op_value ho (by kernel_rfl) hr (made_val (d := 27) (by kernel_rfl) rfl JJ (fun _ _ _ _ h => h))
 | 4, _, h1, hdep, ho =>
   have JJ := J140_6_any 4 (by decide) hst.world
   have hw : w = W0 := hst.world.1 (unlisted hs hd h1 (show waits .any ops140_6 12 4 = true from (by kernel_rfl)))
   obtain rfl : W0 = w := hw.symm
   have g3 : a.eval (.tmp 27) = .pointer (some ⟨hb, 72, none⟩) := hst.got 3 (hdep 3 (by kernel_rfl))
   have hr : (execOp a.eval (opAt ops140_6 4)).run Tryz.prog W0 = .ok (.value (.int .i64 (n : Int))) W0 := run_load3 cn (show (opAt ops140_6 4).op = .load 3 (.tmp 27) from (by kernel_rfl)) g3
   exact op_value ho (by kernel_rfl) hr (made_val (d := 28) (by kernel_rfl) rfl JJ (fun _ _ _ _ h => h))
 | 5, _, h1, hdep, ho =>
   have JJ := J140_6_any 5 (by decide) hst.world
   have s6 : a.eval (.tmp 6) = .int .i64 (m : Int) := (hst.rest 6 (by kernel_rfl)).trans hs6
   have hr : (execOp a.eval (opAt ops140_6 5)).run Tryz.prog w = .ok (.value (.int .i64 (m : Int))) w := run_moved (x := .tmp 6) (by kernel_rfl) s6
   exact op_value ho (by kernel_rfl) hr (made_val (d := 29) (by kernel_rfl) rfl JJ (fun _ _ _ _ h => h))
 | 6, _, h1, hdep, ho =>
   have JJ := J140_6_any 6 (by decide) hst.world
   have g4 : a.eval (.tmp 28) = .int .i64 (n : Int) := hst.got 4 (hdep 4 (by kernel_rfl))
   have g5 : a.eval (.tmp 29) = .int .i64 (m : Int) := hst.got 5 (hdep 5 (by kernel_rfl))
   have hr : (execOp a.eval (opAt ops140_6 6)).run Tryz.prog w = .ok (.value (.int .i64 ((n + m : Nat) : Int))) w := run_add64 (by rw [IntKind.wrap_i64]; omega) (show (opAt ops140_6 6).op = .binOp .add 3 (.tmp 28) (.tmp 29) 3 from (by kernel_rfl)) g4 g5
   exact op_value ho (by kernel_rfl) hr (made_val (d := 30) (by kernel_rfl) rfl JJ (fun _ _ _ _ h => h))
 | 7, _, h1, hdep, ho =>
   have JJ := J140_6_any 7 (by decide) hst.world
   have s1 : a.eval (.tmp 1) = .slice (some A) len cap := (hE.early 1 (early_of (j := 13) (by kernel_rfl) (unlisted hs hd h1 (show waits .any ops140_6 13 7 = true from (by kernel_rfl))))).trans hs1
   have hr : (execOp a.eval (opAt ops140_6 7)).run Tryz.prog w = .ok (.value (.slice (some A) len cap)) w := run_moved (x := .tmp 1) (by kernel_rfl) s1
   exact op_value ho (by kernel_rfl) hr (made_val (d := 31) (by kernel_rfl) rfl JJ (fun _ _ _ _ h => h))
 | 8, _, h1, hdep, ho =>
   have JJ := J140_6_any 8 (by decide) hst.world
   have s6 : a.eval (.tmp 6) = .int .i64 (m : Int) := (hst.rest 6 (by kernel_rfl)).trans hs6
   have hr : (execOp a.eval (opAt ops140_6 8)).run Tryz.prog w = .ok (.value (.int .i64 (m : Int))) w := run_moved (x := .tmp 6) (by kernel_rfl) s6
   exact op_value ho (by kernel_rfl) hr (made_val (d := 32) (by kernel_rfl) rfl JJ (fun _ _ _ _ h => h))
 | 9, _, h1, hdep, ho =>
   have JJ := J140_6_any 9 (by decide) hst.world
   have g7 : a.eval (.tmp 31) = .slice (some A) len cap := hst.got 7 (hdep 7 (by kernel_rfl))
   have g8 : a.eval (.tmp 32) = .int .i64 (m : Int) := hst.got 8 (hdep 8 (by kernel_rfl))
   have hr : (execOp a.eval (opAt ops140_6 9)).run Tryz.prog w = .ok (.value (.slice (some (if cap - m = 0 then A else A.add m)) (len - m) (cap - m))) w := run_slice87 hml hlc (show (opAt ops140_6 9).op = .slice 87 (.tmp 31) (some (.tmp 32)) none none from (by kernel_rfl)) g7 g8
   exact op_value ho (by kernel_rfl) hr (made_val (d := 33) (by kernel_rfl) rfl JJ (fun _ _ _ _ h => h))
 | 10, _, h1, hdep, ho =>
   have JJ := J140_6_any 10 (by decide) hst.world
   have g0 : a.eval (.tmp 24) = .pointer (some ⟨hb, 0, none⟩) := hst.got 0 (hdep 0 (by kernel_rfl))
   have hr : (execOp a.eval (opAt ops140_6 10)).run Tryz.prog w = .ok (.value (.pointer (some ⟨hb, 0, none⟩))) w := run_nil (x := .tmp 24) (by kernel_rfl) g0
   exact op_value ho (by kernel_rfl) hr (made_val (d := 34) (by kernel_rfl) rfl JJ (fun _ _ _ _ h => h))
 | 11, _, h1, hdep, ho =>
   have JJ := J140_6_any 11 (by decide) hst.world
   have g10 : a.eval (.tmp 34) = .pointer (some ⟨hb, 0, none⟩) := hst.got 10 (hdep 10 (by kernel_rfl))
   have hr : (execOp a.eval (opAt ops140_6 11)).run Tryz.prog w = .ok (.value (.pointer (some ⟨hb, 72, none⟩))) w := run_f253_2 (show (opAt ops140_6 11).op = .fieldAddr 253 (.tmp 34) 2 from (by kernel_rfl)) g10
   exact op_value ho (by kernel_rfl) hr (made_val (d := 35) (by kernel_rfl) rfl JJ (fun _ _ _ _ h => h))
 | 12, _, h1, hdep, ho =>
   have hw : w = W0 := hst.world.1 (unl h1)
   obtain rfl : W0 = w := hw.symm
   have g11 : a.eval (.tmp 35) = .pointer (some ⟨hb, 72, none⟩) := hst.got 11 (hdep 11 (by kernel_rfl))
   have g6 : a.eval (.tmp 30) = .int .i64 ((n + m : Nat) : Int) := hst.got 6 (hdep 6 (by kernel_rfl))
   have hr : (execOp a.eval (opAt ops140_6 12)).run Tryz.prog (W0) = .ok .skip (W0.setCell ⟨hb, 72, none⟩ (.int .i64 ((n + m : Nat) : Int))) := run_store3 cn (hfz _) (show (opAt ops140_6 12).op = .store 3 (.tmp 35) (.tmp 30) from (by kernel_rfl)) g11 g6
   refine op_skip ho (by kernel_rfl) hr (made_skip (by kernel_rfl) trivial ⟨fun h => by (rw [set_same (by rw [hs]; decide)] at h; cases h), fun _ => rfl⟩ (fun j _ _ u h => ?_))
   match j, h with
   | 0, h => exact (show _ = _ from h)
   | 1, h => exact (show _ = _ from h)
   | 2, h => exact (show _ = _ from h)
   | 3, h => exact (show _ = _ from h)
   | 4, h => exact (show _ = _ from h)
   | 5, h => exact (show _ = _ from h)
   | 6, h => exact (show _ = _ from h)
   | 7, h => exact (show _ = _ from h)
   | 8, h => exact (show _ = _ from h)
   | 9, h => exact (show _ = _ from h)
   | 10, h => exact (show _ = _ from h)
   | 11, h => exact (show _ = _ from h)
   | 12, h => exact (show True from h)
   | 13, h => exact (show _ = _ from h)
   | _ + 14, _ => exact trivial
 | 13, _, h1, hdep, ho =>
   have JJ := J140_6_any 13 (by decide) hst.world
   have g9 : a.eval (.tmp 33) = .slice (some (if cap - m = 0 then A else A.add m)) (len - m) (cap - m) := hst.got 9 (hdep 9 (by kernel_rfl))
   have hr : (execOp a.eval (opAt ops140_6 13)).run Tryz.prog w = .ok (.value (.slice (some (if cap - m = 0 then A else A.add m)) (len - m) (cap - m))) w := run_moved_as (x := .tmp 33) (by kernel_rfl) g9
   exact op_value ho (by kernel_rfl) hr (made_val (d := 1) (by kernel_rfl) rfl JJ (fun _ _ _ _ h => h))
 | k + 14, hi, _, _, _ => exact absurd hi (by omega)
/-- what a block's taking does to the world. -/
def TakeW (kl s : List (BitVec 32)) (hd : List Nat) (n : Int) (hb : Nat) (w w' : World) : Prop := w'.heap[hb]? = some (.cells (hashC (blk kl s (fun k => hd.getD k 0)) hd n) 253 (0, 0)) ∧ Also (fun b => b ≠ hb) w w' ∧ Below hb w w'
noncomputable def ops140_8 : Array Oper := (Tryz.f140.body.bind (inCode 8)).getD #[]
def sl140_8 : Nat → Nat
 | 0 => 40
 | 1 => 41
 | 2 => 42
 | 3 => 43
 | 4 => 44
 | 5 => 45
 | 6 => 46
 | _ => 0
def R140_8 (hb : Nat) (kl : List (BitVec 32)) (s : List (BitVec 32)) (hd : List Nat) (nn : Int) : Nat → Value → World → Prop
 | 0, v, _ => v = .pointer (some ⟨hb, 0, none⟩)
 | 1, v, _ => v = .pointer (some ⟨hb, 0, none⟩)
 | 2, v, _ => v = .pointer (some ⟨hb, 0, none⟩)
 | 3, v, _ => v = .pointer (some ⟨hb, 0, none⟩)
 | 4, v, _ => v = .pointer (some ⟨hb, 0, none⟩)
 | 5, v, _ => v = .pointer (some ⟨hb, 8, none⟩)
 | 6, v, _ => v = .tuple #[]
 | _, _, _ => True
def J140_8 (W0 : World) (hb : Nat) (kl : List (BitVec 32)) (s : List (BitVec 32)) (hd : List Nat) (nn : Int) (L : Array Bool) (w : World) : Prop := (L.getD 6 false = false → w = W0) ∧ (L.getD 6 false = true → TakeW kl s hd nn hb W0 w)
theorem J140_8_any {W0 : World} {hb : Nat} {kl : List (BitVec 32)} {s : List (BitVec 32)} {hd : List Nat} {nn : Int} {L : Array Bool} {w : World} (i : Nat) (hi : i ≠ 6) (h : J140_8 W0 hb kl s hd nn L w) : J140_8 W0 hb kl s hd nn (L.setIfInBounds i true) w := by
 obtain ⟨h0, h1⟩ := h
 exact ⟨fun h => h0 (unset h), fun h => h1 (set_ne (by omega) h)⟩
set_option maxHeartbeats 3200000 in
theorem reg140_8 {ops : Array Oper} (ho : ops = ops140_8) {Q : Exit → Act → World → Prop} {a0 : Act} {w0 W0 : World} (hW : w0.drew = W0) {hb : Nat} {kl : List (BitVec 32)} {s : List (BitVec 32)} {hd : List Nat} {nn : Int} (HT : Calls Tryz.prog 176 #[.pointer (some ⟨hb, 0, none⟩), .pointer (some ⟨hb, 8, none⟩)] W0 (TakeRes kl s hd nn hb W0)) (hs0 : a0.eval (.tmp 0) = .pointer (some ⟨hb, 0, none⟩)) (hsz : a0.tmps.size = 51)
  (HK : ∀ a w, (TakeW kl s hd nn hb W0 w) → a.defers = a0.defers → a.tmps.size = 51 → (∀ s, freeB ops140_8 s = true → a.eval (.tmp s) = a0.eval (.tmp s)) → (∀ i, i < 7 → R140_8 hb kl s hd nn i (a.eval (.tmp (sl140_8 i))) (w)) → Q .normal a (w)) : (Code.region 8 ops true).wp Tryz.prog Q a0 w0 := by
 subst ho
 refine region_made (n := 7) (sl := sl140_8) (J := J140_8 W0 hb kl s hd nn) (R := R140_8 hb kl s hd nn) (by kernel_rfl) (by kernel_rfl) (by kernel_rfl) (by rw [hsz]; kernel_rfl) ?_ (by rw [hW]; exact ⟨fun _ => rfl, fun h => by simp [Array.getD] at h⟩) (fun L a w hall hf => ?_)
 rotate_left
 ·have hw1 := hf.world.2 (hall 6 (by decide))
  exact HK a w hw1 hf.defers (hf.size.trans hsz) hf.rest (fun i hi => hf.got i (hall i hi))
 intro i hi L a w hs h1 hdep hd hst ho
 clear HK
 match i, hi, h1, hdep, ho with
 | 0, _, h1, hdep, ho =>
   have JJ := J140_8_any 0 (by decide) hst.world
   have s0 : a.eval (.tmp 0) = .pointer (some ⟨hb, 0, none⟩) := (hst.rest 0 (by kernel_rfl)).trans hs0
   have hr : (execOp a.eval (opAt ops140_8 0)).run Tryz.prog w = .ok (.value (.pointer (some ⟨hb, 0, none⟩))) w := run_moved (x := .tmp 0) (by kernel_rfl) s0
   exact op_value ho (by kernel_rfl) hr (made_val (d := 40) (by kernel_rfl) rfl JJ (fun _ _ _ _ h => h))
 | 1, _, h1, hdep, ho =>
   have JJ := J140_8_any 1 (by decide) hst.world
   have g0 : a.eval (.tmp 40) = .pointer (some ⟨hb, 0, none⟩) := hst.got 0 (hdep 0 (by kernel_rfl))
   have hr : (execOp a.eval (opAt ops140_8 1)).run Tryz.prog w = .ok (.value (.pointer (some ⟨hb, 0, none⟩))) w := run_nil (x := .tmp 40) (by kernel_rfl) g0
   exact op_value ho (by kernel_rfl) hr (made_val (d := 41) (by kernel_rfl) rfl JJ (fun _ _ _ _ h => h))
 | 2, _, h1, hdep, ho =>
   have JJ := J140_8_any 2 (by decide) hst.world
   have g1 : a.eval (.tmp 41) = .pointer (some ⟨hb, 0, none⟩) := hst.got 1 (hdep 1 (by kernel_rfl))
   have hr : (execOp a.eval (opAt ops140_8 2)).run Tryz.prog w = .ok (.value (.pointer (some ⟨hb, 0, none⟩))) w := run_f253_0 (show (opAt ops140_8 2).op = .fieldAddr 253 (.tmp 41) 0 from (by kernel_rfl)) g1
   exact op_value ho (by kernel_rfl) hr (made_val (d := 42) (by kernel_rfl) rfl JJ (fun _ _ _ _ h => h))
 | 3, _, h1, hdep, ho =>
   have JJ := J140_8_any 3 (by decide) hst.world
   have s0 : a.eval (.tmp 0) = .pointer (some ⟨hb, 0, none⟩) := (hst.rest 0 (by kernel_rfl)).trans hs0
   have hr : (execOp a.eval (opAt ops140_8 3)).run Tryz.prog w = .ok (.value (.pointer (some ⟨hb, 0, none⟩))) w := run_moved (x := .tmp 0) (by kernel_rfl) s0
   exact op_value ho (by kernel_rfl) hr (made_val (d := 43) (by kernel_rfl) rfl JJ (fun _ _ _ _ h => h))
 | 4, _, h1, hdep, ho =>
   have JJ := J140_8_any 4 (by decide) hst.world
   have g3 : a.eval (.tmp 43) = .pointer (some ⟨hb, 0, none⟩) := hst.got 3 (hdep 3 (by kernel_rfl))
   have hr : (execOp a.eval (opAt ops140_8 4)).run Tryz.prog w = .ok (.value (.pointer (some ⟨hb, 0, none⟩))) w := run_nil (x := .tmp 43) (by kernel_rfl) g3
   exact op_value ho (by kernel_rfl) hr (made_val (d := 44) (by kernel_rfl) rfl JJ (fun _ _ _ _ h => h))
 | 5, _, h1, hdep, ho =>
   have JJ := J140_8_any 5 (by decide) hst.world
   have g4 : a.eval (.tmp 44) = .pointer (some ⟨hb, 0, none⟩) := hst.got 4 (hdep 4 (by kernel_rfl))
   have hr : (execOp a.eval (opAt ops140_8 5)).run Tryz.prog w = .ok (.value (.pointer (some ⟨hb, 8, none⟩))) w := run_f253_1 (show (opAt ops140_8 5).op = .fieldAddr 253 (.tmp 44) 1 from (by kernel_rfl)) g4
   exact op_value ho (by kernel_rfl) hr (made_val (d := 45) (by kernel_rfl) rfl JJ (fun _ _ _ _ h => h))
 | 6, _, h1, hdep, ho =>
   have hw : w = W0 := hst.world.1 (unl h1)
   obtain rfl : W0 = w := hw.symm
   have g2 : a.eval (.tmp 42) = .pointer (some ⟨hb, 0, none⟩) := hst.got 2 (hdep 2 (by kernel_rfl))
   have g5 : a.eval (.tmp 45) = .pointer (some ⟨hb, 8, none⟩) := hst.got 5 (hdep 5 (by kernel_rfl))
   have hr : (execOp a.eval (opAt ops140_8 6)).run Tryz.prog W0 = .ok (.enter 176 #[.pointer (some ⟨hb, 0, none⟩), .pointer (some ⟨hb, 8, none⟩)]) W0 := by
    clear hst hdep hd h1 hs ho
    have hk : ∀ f, a.eval (.func f) = .func (.func f) #[] #[] := fun _ => rfl
    have hc : ∀ v, a.eval (.const v) = v := fun _ => rfl
    generalize a.eval = ρ at g2 g5 hk hc ⊢
    unfold execOp; rw [show (opAt ops140_8 6).op = .call { callee := .value (.func 176), args := #[.tmp 42, .tmp 45], argTypes := #[250, 255] } from (by kernel_rfl)]; simp only [g2, g5, hk, hc]
    go_simp
   refine op_call ho (by kernel_rfl) hr ((HT).mono ?_)
   rintro e w1 ⟨rfl, hT⟩
   refine ⟨_, rfl, made_val (d := 46) (by kernel_rfl) rfl ⟨fun h => by (rw [set_same (by rw [hs]; decide)] at h; cases h), fun _ => hT⟩ (fun j _ _ u h => ?_)⟩
   match j, h with
   | 0, h => exact (show _ = _ from h)
   | 1, h => exact (show _ = _ from h)
   | 2, h => exact (show _ = _ from h)
   | 3, h => exact (show _ = _ from h)
   | 4, h => exact (show _ = _ from h)
   | 5, h => exact (show _ = _ from h)
   | 6, h => exact (show _ = _ from h)
   | _ + 7, _ => exact trivial
 | k + 7, hi, _, _, _ => exact absurd hi (by omega)
end Go.Proofs.YtoimjnmhinfbkaaGreatDoor

namespace Go.Proofs.YtoimjnmhinfbkaaGreatDoor
open Go.RowKit
set_option maxRecDepth 100000
theorem act51 {a : Act} (hs : a.tmps.size = 51) : a = ⟨#[a.eval (.tmp 0), a.eval (.tmp 1), a.eval (.tmp 2), a.eval (.tmp 3), a.eval (.tmp 4), a.eval (.tmp 5), a.eval (.tmp 6), a.eval (.tmp 7), a.eval (.tmp 8), a.eval (.tmp 9), a.eval (.tmp 10), a.eval (.tmp 11), a.eval (.tmp 12), a.eval (.tmp 13), a.eval (.tmp 14), a.eval (.tmp 15), a.eval (.tmp 16), a.eval (.tmp 17), a.eval (.tmp 18), a.eval (.tmp 19), a.eval (.tmp 20), a.eval (.tmp 21), a.eval (.tmp 22), a.eval (.tmp 23), a.eval (.tmp 24), a.eval (.tmp 25), a.eval (.tmp 26), a.eval (.tmp 27), a.eval (.tmp 28), a.eval (.tmp 29), a.eval (.tmp 30), a.eval (.tmp 31), a.eval (.tmp 32), a.eval (.tmp 33), a.eval (.tmp 34), a.eval (.tmp 35), a.eval (.tmp 36), a.eval (.tmp 37), a.eval (.tmp 38), a.eval (.tmp 39), a.eval (.tmp 40), a.eval (.tmp 41), a.eval (.tmp 42), a.eval (.tmp 43), a.eval (.tmp 44), a.eval (.tmp 45), a.eval (.tmp 46), a.eval (.tmp 47), a.eval (.tmp 48), a.eval (.tmp 49), a.eval (.tmp 50)], a.defers⟩ := act_ext rfl (by rw [hs]; rfl) (fun s h => by
 rw [hs] at h
 match s, h with
 | 0, _ => rfl
 | 1, _ => rfl
 | 2, _ => rfl
 | 3, _ => rfl
 | 4, _ => rfl
 | 5, _ => rfl
 | 6, _ => rfl
 | 7, _ => rfl
 | 8, _ => rfl
 | 9, _ => rfl
 | 10, _ => rfl
 | 11, _ => rfl
 | 12, _ => rfl
 | 13, _ => rfl
 | 14, _ => rfl
 | 15, _ => rfl
 | 16, _ => rfl
 | 17, _ => rfl
 | 18, _ => rfl
 | 19, _ => rfl
 | 20, _ => rfl
 | 21, _ => rfl
 | 22, _ => rfl
 | 23, _ => rfl
 | 24, _ => rfl
 | 25, _ => rfl
 | 26, _ => rfl
 | 27, _ => rfl
 | 28, _ => rfl
 | 29, _ => rfl
 | 30, _ => rfl
 | 31, _ => rfl
 | 32, _ => rfl
 | 33, _ => rfl
 | 34, _ => rfl
 | 35, _ => rfl
 | 36, _ => rfl
 | 37, _ => rfl
 | 38, _ => rfl
 | 39, _ => rfl
 | 40, _ => rfl
 | 41, _ => rfl
 | 42, _ => rfl
 | 43, _ => rfl
 | 44, _ => rfl
 | 45, _ => rfl
 | 46, _ => rfl
 | 47, _ => rfl
 | 48, _ => rfl
 | 49, _ => rfl
 | 50, _ => rfl
 | k + 51, h => exact absurd h (by omega))
theorem add_block (a : Addr) (j : Nat) : (a.add j).block = a.block := by unfold Addr.add; split <;> rfl
def sliceN : Value → Nat
 | .slice _ n _ => n
 | _ => 0
/-- bytes behind an address. -/
def Bytes (w : World) (hb : Nat) (A : Option Addr) (r : List Nat) : Prop := r = [] ∨ ∃ a, A = some a ∧ a.block ≠ hb ∧ ∀ j, ∀ h : j < r.length, w.cell? (a.add j) = some (.int .u8 (r[j] : Int))
theorem Bytes.keep {w w' : World} {hb : Nat} {A : Option Addr} {r : List Nat} (h : Bytes w hb A r) (ha : Also (fun b => b ≠ hb) w w') : Bytes w' hb A r := by
 rcases h with h | ⟨a, h1, h2, h3⟩
 ·exact .inl h
 ·refine .inr ⟨a, h1, h2, fun j hj => ?_⟩
  have := h3 j hj
  rw [← this]
  refine World.cell?_of_block ?_
  rw [add_block]
  exact ha.block _ h2 (by have := World.block_lt_of_cell? w _ this; rwa [add_block] at this)
theorem Bytes.rest {w : World} {hb : Nat} {a : Addr} {r : List Nat} {m cap : Nat} (hc : r.length ≤ cap) (h2 : a.block ≠ hb) (h3 : ∀ j, ∀ h : j < r.length, w.cell? (a.add j) = some (.int .u8 (r[j] : Int))) (_hm : m ≤ r.length) : Bytes w hb (some (if cap - m = 0 then a else a.add m)) (r.drop m) := by
 by_cases e : cap - m = 0
 ·exact .inl (List.drop_of_length_le (by omega))
 ·rw [if_neg e]
  refine .inr ⟨_, rfl, by rw [add_block]; exact h2, fun j hj => ?_⟩
  have hj' : m + j < r.length := by simp at hj; omega
  rw [Deep.add_add, h3 (m + j) hj']
  simp
/-- what Write does. -/
def WriteRes (kl : List (BitVec 32)) (h : HS) (l : List Nat) (hb : Nat) (w : World) (e : Ending) (w' : World) : Prop := e = .returned (.int .i64 ((feed kl h l).n : Int)) ∧ HAt w' hb (feed kl h l) ∧ Also (fun b => b ≠ hb) w w' ∧ Below hb w w'
structure HOk (h : HS) : Prop where
 s : h.s.length = 8
 hd : h.hd.length = 64
 by' : ∀ x ∈ h.hd, x < 256
theorem HOk.feed {kl : List (BitVec 32)} {h : HS} (hk : HOk h) {l : List Nat} (hl : ∀ x ∈ l, x < 256) : HOk (feed kl h l) := ⟨(feed_lens hk.s hk.hd l).1, (feed_lens hk.s hk.hd l).2, feed_bytes hk.by' hl⟩
theorem Also.trans' {P : Nat → Prop} {w w1 w2 : World} (h : Also P w w1) (h2 : Also P w1 w2) : Also P w w2 := ⟨Nat.le_trans h.size h2.size, fun b hp hb => (h2.block b hp (Nat.lt_of_lt_of_le hb h.size)).trans (h.block b hp hb)⟩
structure WInv (kl : List (BitVec 32)) (h : HS) (l : List Nat) (hb : Nat) (w : World) (d r : List Nat) (A : Option Addr) (cap : Nat) (wr : World) : Prop where
 all : l = d ++ r
 cap : r.length ≤ cap
 bytes : Bytes wr hb A r
 at' : HAt wr hb (feed kl h d)
 also : Also (fun b => b ≠ hb) w wr
 below : Below hb w wr
set_option maxHeartbeats 3200000 in
theorem write_any (kl : List (BitVec 32)) (h : HS) (l : List Nat) (hb : Nat) (A : Option Addr) (cap : Nat) (w : World) (hok : HOk h) (hl : ∀ x ∈ l, x < 256) (hn : h.n + l.length ≤ 1000000000) (hat : HAt w hb h) (hbt : Bytes w hb A l) (hc : l.length ≤ cap) (h4 : hb ≠ 4) (hkl : ∀ k, k < 64 → w.cell? ⟨4, k, none⟩ = some (U (kl.getD k 0))) :
  Calls Tryz.prog 140 #[.pointer (some ⟨hb, 0, none⟩), .slice A l.length cap] w (WriteRes kl h l hb w) := by
 have HI := Lib.hid (show WInv kl h l hb w [] l A cap w from ⟨rfl, hc, hbt, hat, ⟨Nat.le_refl _, fun _ _ _ => rfl⟩, Below.refl _ _⟩)
 have HKL := Lib.hid hkl
 have HL := Lib.hid hl
 have HN := Lib.hid hn
 have HOK := Lib.hid hok
 clear hkl hl hn hok hat hbt hc
 go_enter Tryz.func140, Tryz.ntmps140
 go_wp2_with fail
 go_loopw [1] (fun i wr => ∃ d r A' cap', i = .slice A' r.length cap' ∧ WInv kl h l hb w d r A' cap' wr) (fun i _ => sliceN i)
 case atStart => exact ⟨[], l, A, cap, rfl, HI.out⟩
 case round =>
  clear HI
  obtain ⟨d, r, A', cap', rfl, hI⟩ := hrel
  have HI := Lib.hid hI
  have hdl : ∀ x ∈ d, x < 256 := fun x hx => HL.out x (by rw [hI.all]; simp [hx])
  have hrl : ∀ x ∈ r, x < 256 := fun x hx => HL.out x (by rw [hI.all]; simp [hx])
  have hgok : HOk (feed kl h d) := HOK.out.feed hdl
  have hgn : (feed kl h d).n + r.length ≤ 1000000000 := by
   have := HN.out
   rw [feed_n]
   have h2 := congrArg List.length hI.all
   simp at h2
   omega
  have HRL := Lib.hid hrl
  have HGK := Lib.hid hgok
  have hr0 : (0 : Int) ≤ (r.length : Int) := Int.natCast_nonneg _
  clear hdl hrl hgok
  by_cases hre : r = []
  ·subst hre
   have hc9 := (cell_of_row _ hb 72 _ 253 (0, 0) hI.at').trans (hash_n HGK.out.s HGK.out.hd)
   have hall : l = d := by rw [hI.all]; simp
   clear hI
   go_wp2
   go_ret
   have hii := HI.out
   exact ⟨by rw [hall]; rfl, by rw [hall]; exact hii.at', hii.also, hii.below⟩
  ·have hrp : (0 : Int) < (r.length : Int) := by have := List.length_pos_iff.2 hre; omega
   obtain ⟨a, rfl, ha1, ha2⟩ := hI.bytes.resolve_left hre
   go_upto_region 4 with (fail)
   rename_i Kf hKf
   have hrpn : 0 < r.length := by omega
   have hgat := hI.at'
   generalize hge : feed kl h d = g at HGK hgn hgat
   have HGE := Lib.hid hge
   have hat0 : g.n % 64 < 64 := Nat.mod_lt _ (by decide)
   have hcn := (cell_of_row _ hb 72 _ 253 (0, 0) hgat).trans (hash_n HGK.out.s HGK.out.hd)
   refine reg140_4 (hb := hb) (n := g.n) (by kernel_rfl) rfl (by omega) hcn rfl rfl (fun A0 hd' hs hr hR => ?_)
   have y5 : A0.eval (.tmp 5) = .int .i64 ((g.n % 64 : Nat) : Int) := hR 5 (by decide)
   have y0 : A0.eval (.tmp 0) = .pointer (some ⟨hb, 0, none⟩) := hr 0 (by kernel_rfl)
   have y1 : A0.eval (.tmp 1) = .slice (some a) r.length cap' := hr 1 (by kernel_rfl)
   have y2 : A0.eval (.tmp 2) = undef := hr 2 (by kernel_rfl)
   have y3 : A0.eval (.tmp 3) = undef := hr 3 (by kernel_rfl)
   have y4 : A0.eval (.tmp 4) = .int .i64 0 := hr 4 (by kernel_rfl)
   have y5 : A0.eval (.tmp 5) = .int .i64 ((g.n % 64 : Nat) : Int) := y5
   have y7 : A0.eval (.tmp 7) = .pointer (some ⟨hb, 0, none⟩) := hr 7 (by kernel_rfl)
   have y8 : A0.eval (.tmp 8) = .bool false := hr 8 (by kernel_rfl)
   have y9 : A0.eval (.tmp 9) = .slice (some a) r.length cap' := hr 9 (by kernel_rfl)
   have y10 : A0.eval (.tmp 10) = .int .i64 (r.length : Int) := hr 10 (by kernel_rfl)
   have y11 : A0.eval (.tmp 11) = .bool (decide (0 < r.length)) := hr 11 (by kernel_rfl)
   have y47 : A0.eval (.tmp 47) = undef := hr 47 (by kernel_rfl)
   have y48 : A0.eval (.tmp 48) = undef := hr 48 (by kernel_rfl)
   have y49 : A0.eval (.tmp 49) = undef := hr 49 (by kernel_rfl)
   have y50 : A0.eval (.tmp 50) = undef := hr 50 (by kernel_rfl)
   rw [act51 hs, hd', y0, y1, y2, y3, y4, y5, y7, y8, y9, y10, y11, y47, y48, y49, y50]
   generalize A0.eval (.tmp 6) = x1_6
   generalize A0.eval (.tmp 12) = x1_12
   generalize A0.eval (.tmp 13) = x1_13
   generalize A0.eval (.tmp 14) = x1_14
   generalize A0.eval (.tmp 15) = x1_15
   generalize A0.eval (.tmp 16) = x1_16
   generalize A0.eval (.tmp 17) = x1_17
   generalize A0.eval (.tmp 18) = x1_18
   generalize A0.eval (.tmp 19) = x1_19
   generalize A0.eval (.tmp 20) = x1_20
   generalize A0.eval (.tmp 21) = x1_21
   generalize A0.eval (.tmp 22) = x1_22
   generalize A0.eval (.tmp 23) = x1_23
   generalize A0.eval (.tmp 24) = x1_24
   generalize A0.eval (.tmp 25) = x1_25
   generalize A0.eval (.tmp 26) = x1_26
   generalize A0.eval (.tmp 27) = x1_27
   generalize A0.eval (.tmp 28) = x1_28
   generalize A0.eval (.tmp 29) = x1_29
   generalize A0.eval (.tmp 30) = x1_30
   generalize A0.eval (.tmp 31) = x1_31
   generalize A0.eval (.tmp 32) = x1_32
   generalize A0.eval (.tmp 33) = x1_33
   generalize A0.eval (.tmp 34) = x1_34
   generalize A0.eval (.tmp 35) = x1_35
   generalize A0.eval (.tmp 36) = x1_36
   generalize A0.eval (.tmp 37) = x1_37
   generalize A0.eval (.tmp 38) = x1_38
   generalize A0.eval (.tmp 39) = x1_39
   generalize A0.eval (.tmp 40) = x1_40
   generalize A0.eval (.tmp 41) = x1_41
   generalize A0.eval (.tmp 42) = x1_42
   generalize A0.eval (.tmp 43) = x1_43
   generalize A0.eval (.tmp 44) = x1_44
   generalize A0.eval (.tmp 45) = x1_45
   generalize A0.eval (.tmp 46) = x1_46
   clear hr hs hd' y0 y1 y2 y3 y4 y5 y7 y8 y9 y10 y11 y47 y48 y49 y50
   clear hR hcn hge
   refine hKf _ _ ?_
   clear hKf
   -- the bytes go over
   obtain ⟨m, hme⟩ : ∃ m, m = Nat.min r.length (64 - g.n % 64) := ⟨_, rfl⟩
   have hm1 : m ≤ r.length := by rw [hme]; exact Nat.min_le_left _ _
   have hm2 : g.n % 64 + m ≤ 64 := by (have : m ≤ 64 - g.n % 64 := by rw [hme]; exact Nat.min_le_right _ _); omega
   have hm3 : 0 < m := by rw [hme]; exact Nat.lt_min.2 ⟨hrpn, by omega⟩
   have htl : (r.take m).length = m := by simp [Nat.min_eq_left hm1]
   have HME := Lib.hid hme
   have HTL := Lib.hid htl
   have hbox : wr.heap[hb]? = some (.cells (hashC g.s g.hd (g.n : Int)) 253 (0, 0)) := hgat
   have HBOX := Lib.hid hbox
   have HI2 := Lib.hid hI
   have hsz := hash_size (n := (g.n : Int)) HGK.out.s HGK.out.hd
   have hthere := there_of_heap hbox hsz
   clear hI hme htl hgat
   go_upto_region 5 with (fail)
   rename_i Kf hKf
   refine reg140_5 (hb := hb) (at0 := g.n % 64) (A := a) (len := r.length) (cap := cap') (m := m) (cs := (r.take m).map fun (z : Nat) => Value.int .u8 (z : Int)) (by kernel_rfl) rfl hat0 (by rw [List.length_map, HTL.out, HME.out]) (fun j v hv => by
     have hj : j < m := by have := (List.getElem?_eq_some_iff.1 hv).1; simpa [Nat.min_eq_left hm1] using this
     rw [ha2 j (by omega), ← hv]
     simp [List.getElem?_take, hj, List.getElem?_eq_getElem (show j < r.length by omega)]) (fun j hj => by
     rw [List.length_map, HTL.out] at hj
     have := (hthere (8 + g.n % 64 + j) (by omega)).1
     rwa [Nat.zero_add] at this) (fun j _ => by simp [World.frozen?, HBOX.out]) (fun v hv => by
     obtain ⟨z, -, rfl⟩ := List.mem_map.1 hv; rfl) (by rw [List.length_map, HTL.out]) rfl rfl rfl rfl (fun A0 hd' hs hr hR => ?_)
   have y6 : A0.eval (.tmp 6) = .int .i64 (m : Int) := hR 7 (by decide)
   generalize hW5 : World.setCells _ _ _ _ = W5
   have HB5 := Lib.hid (show W5.heap[hb]? = some (.cells (hashC g.s (putL g.hd (g.n % 64) (r.take m)) (g.n : Int)) 253 (0, 0)) from by rw [← hW5]; exact hash_puts HGK.out.s _ _ _ _ (by rw [HTL.out, HGK.out.hd]; exact hm2) HBOX.out)
   have HA5 := Lib.hid (show Also (fun b => b ≠ hb) wr W5 from by rw [← hW5]; exact ⟨by rw [setCells_size]; exact Nat.le_refl _, fun b hb' _ => setCells_block _ _ _ _ _ hb'⟩)
   have HL5 := Lib.hid (show Below hb wr W5 from by rw [← hW5]; exact setCells_below _ (Nat.le_refl _) _ _ (Below.refl _ _))
   clear hW5
   have y0 : A0.eval (.tmp 0) = .pointer (some ⟨hb, 0, none⟩) := hr 0 (by kernel_rfl)
   have y1 : A0.eval (.tmp 1) = .slice (some a) r.length cap' := hr 1 (by kernel_rfl)
   have y2 : A0.eval (.tmp 2) = undef := hr 2 (by kernel_rfl)
   have y3 : A0.eval (.tmp 3) = undef := hr 3 (by kernel_rfl)
   have y4 : A0.eval (.tmp 4) = .int .i64 0 := hr 4 (by kernel_rfl)
   have y5 : A0.eval (.tmp 5) = .int .i64 ((g.n % 64 : Nat) : Int) := hr 5 (by kernel_rfl)
   have y6 : A0.eval (.tmp 6) = .int .i64 (m : Int) := y6
   have y7 : A0.eval (.tmp 7) = .pointer (some ⟨hb, 0, none⟩) := hr 7 (by kernel_rfl)
   have y8 : A0.eval (.tmp 8) = .bool false := hr 8 (by kernel_rfl)
   have y9 : A0.eval (.tmp 9) = .slice (some a) r.length cap' := hr 9 (by kernel_rfl)
   have y10 : A0.eval (.tmp 10) = .int .i64 (r.length : Int) := hr 10 (by kernel_rfl)
   have y11 : A0.eval (.tmp 11) = .bool (decide (0 < r.length)) := hr 11 (by kernel_rfl)
   have y47 : A0.eval (.tmp 47) = undef := hr 47 (by kernel_rfl)
   have y48 : A0.eval (.tmp 48) = undef := hr 48 (by kernel_rfl)
   have y49 : A0.eval (.tmp 49) = undef := hr 49 (by kernel_rfl)
   have y50 : A0.eval (.tmp 50) = undef := hr 50 (by kernel_rfl)
   rw [act51 hs, hd', y0, y1, y2, y3, y4, y5, y6, y7, y8, y9, y10, y11, y47, y48, y49, y50]
   generalize A0.eval (.tmp 12) = x2_12
   generalize A0.eval (.tmp 13) = x2_13
   generalize A0.eval (.tmp 14) = x2_14
   generalize A0.eval (.tmp 15) = x2_15
   generalize A0.eval (.tmp 16) = x2_16
   generalize A0.eval (.tmp 17) = x2_17
   generalize A0.eval (.tmp 18) = x2_18
   generalize A0.eval (.tmp 19) = x2_19
   generalize A0.eval (.tmp 20) = x2_20
   generalize A0.eval (.tmp 21) = x2_21
   generalize A0.eval (.tmp 22) = x2_22
   generalize A0.eval (.tmp 23) = x2_23
   generalize A0.eval (.tmp 24) = x2_24
   generalize A0.eval (.tmp 25) = x2_25
   generalize A0.eval (.tmp 26) = x2_26
   generalize A0.eval (.tmp 27) = x2_27
   generalize A0.eval (.tmp 28) = x2_28
   generalize A0.eval (.tmp 29) = x2_29
   generalize A0.eval (.tmp 30) = x2_30
   generalize A0.eval (.tmp 31) = x2_31
   generalize A0.eval (.tmp 32) = x2_32
   generalize A0.eval (.tmp 33) = x2_33
   generalize A0.eval (.tmp 34) = x2_34
   generalize A0.eval (.tmp 35) = x2_35
   generalize A0.eval (.tmp 36) = x2_36
   generalize A0.eval (.tmp 37) = x2_37
   generalize A0.eval (.tmp 38) = x2_38
   generalize A0.eval (.tmp 39) = x2_39
   generalize A0.eval (.tmp 40) = x2_40
   generalize A0.eval (.tmp 41) = x2_41
   generalize A0.eval (.tmp 42) = x2_42
   generalize A0.eval (.tmp 43) = x2_43
   generalize A0.eval (.tmp 44) = x2_44
   generalize A0.eval (.tmp 45) = x2_45
   generalize A0.eval (.tmp 46) = x2_46
   clear hr hs hd' y0 y1 y2 y3 y4 y5 y6 y7 y8 y9 y10 y11 y47 y48 y49 y50
   clear hR hthere hbox HBOX
   refine hKf _ _ ?_
   clear hKf
   go_upto_region 6 with (fail)
   rename_i Kf hKf
   have hg2 : (putL g.hd (g.n % 64) (r.take m)).length = 64 := by rw [putL_length]; exact HGK.out.hd
   have hfc := feed_chunk kl (r.take m) g (by rw [HTL.out]; exact hm2) (by intro e; have := HTL.out; rw [e] at this; simp at this; omega)
   rw [HTL.out] at hfc
   have HFC := Lib.hid hfc
   have hb5 : W5.drew.heap[hb]? = some (.cells (hashC g.s (putL g.hd (g.n % 64) (r.take m)) (g.n : Int)) 253 (0, 0)) := HB5.out
   clear hfc
   refine reg140_6 (hb := hb) (n := g.n) (A := a) (len := r.length) (cap := cap') (m := m) (by kernel_rfl) rfl (by omega) hm1 HI2.out.cap ((cell_of_row _ hb 72 _ 253 (0, 0) hb5).trans (hash_n HGK.out.s hg2)) (fun o => by simp [World.frozen?, hb5]) rfl rfl rfl rfl (fun A0 hd' hs hr hR => ?_)
   have y1 : A0.eval (.tmp 1) = .slice (some (if cap' - m = 0 then a else a.add m)) (r.length - m) (cap' - m) := hR 13 (by decide)
   generalize hW6 : World.setCell _ _ _ = W6
   have HB6 := Lib.hid (show W6.heap[hb]? = some (.cells (hashC g.s (putL g.hd (g.n % 64) (r.take m)) ((g.n + m : Nat) : Int)) 253 (0, 0)) from by rw [← hW6, blk_set hb5, hash_putn HGK.out.s hg2])
   have HA6 := Lib.hid (show Also (fun b => b ≠ hb) w W6 from HI2.out.also.trans' (HA5.out.trans' (by rw [← hW6]; exact ⟨by rw [setCell_size]; exact Nat.le_refl _, fun b hb' _ => Below.heap_setCell _ _ _ b hb'⟩)))
   have HL6 := Lib.hid (show Below hb w W6 from HI2.out.below.trans (HL5.out.trans (by rw [← hW6]; exact Below.setCell ((Below.refl hb W5).drew) (Nat.le_refl hb) _)))
   have HBT := Lib.hid (Bytes.rest (w := wr) HI2.out.cap ha1 ha2 hm1)
   have HBT6 := Lib.hid (HBT.out.keep (HA5.out.trans' (show Also (fun b => b ≠ hb) W5 W6 from by rw [← hW6]; exact ⟨by rw [setCell_size]; exact Nat.le_refl _, fun b hb' _ => Below.heap_setCell _ _ _ b hb'⟩)))
   clear hW6
   have y0 : A0.eval (.tmp 0) = .pointer (some ⟨hb, 0, none⟩) := hr 0 (by kernel_rfl)
   have y1 : A0.eval (.tmp 1) = .slice (some (if cap' - m = 0 then a else a.add m)) (r.length - m) (cap' - m) := y1
   have y2 : A0.eval (.tmp 2) = undef := hr 2 (by kernel_rfl)
   have y3 : A0.eval (.tmp 3) = undef := hr 3 (by kernel_rfl)
   have y4 : A0.eval (.tmp 4) = .int .i64 0 := hr 4 (by kernel_rfl)
   have y5 : A0.eval (.tmp 5) = .int .i64 ((g.n % 64 : Nat) : Int) := hr 5 (by kernel_rfl)
   have y6 : A0.eval (.tmp 6) = .int .i64 (m : Int) := hr 6 (by kernel_rfl)
   have y7 : A0.eval (.tmp 7) = .pointer (some ⟨hb, 0, none⟩) := hr 7 (by kernel_rfl)
   have y8 : A0.eval (.tmp 8) = .bool false := hr 8 (by kernel_rfl)
   have y9 : A0.eval (.tmp 9) = .slice (some a) r.length cap' := hr 9 (by kernel_rfl)
   have y10 : A0.eval (.tmp 10) = .int .i64 (r.length : Int) := hr 10 (by kernel_rfl)
   have y11 : A0.eval (.tmp 11) = .bool (decide (0 < r.length)) := hr 11 (by kernel_rfl)
   have y47 : A0.eval (.tmp 47) = undef := hr 47 (by kernel_rfl)
   have y48 : A0.eval (.tmp 48) = undef := hr 48 (by kernel_rfl)
   have y49 : A0.eval (.tmp 49) = undef := hr 49 (by kernel_rfl)
   have y50 : A0.eval (.tmp 50) = undef := hr 50 (by kernel_rfl)
   rw [act51 hs, hd', y0, y1, y2, y3, y4, y5, y6, y7, y8, y9, y10, y11, y47, y48, y49, y50]
   generalize A0.eval (.tmp 12) = x3_12
   generalize A0.eval (.tmp 13) = x3_13
   generalize A0.eval (.tmp 14) = x3_14
   generalize A0.eval (.tmp 15) = x3_15
   generalize A0.eval (.tmp 16) = x3_16
   generalize A0.eval (.tmp 17) = x3_17
   generalize A0.eval (.tmp 18) = x3_18
   generalize A0.eval (.tmp 19) = x3_19
   generalize A0.eval (.tmp 20) = x3_20
   generalize A0.eval (.tmp 21) = x3_21
   generalize A0.eval (.tmp 22) = x3_22
   generalize A0.eval (.tmp 23) = x3_23
   generalize A0.eval (.tmp 24) = x3_24
   generalize A0.eval (.tmp 25) = x3_25
   generalize A0.eval (.tmp 26) = x3_26
   generalize A0.eval (.tmp 27) = x3_27
   generalize A0.eval (.tmp 28) = x3_28
   generalize A0.eval (.tmp 29) = x3_29
   generalize A0.eval (.tmp 30) = x3_30
   generalize A0.eval (.tmp 31) = x3_31
   generalize A0.eval (.tmp 32) = x3_32
   generalize A0.eval (.tmp 33) = x3_33
   generalize A0.eval (.tmp 34) = x3_34
   generalize A0.eval (.tmp 35) = x3_35
   generalize A0.eval (.tmp 36) = x3_36
   generalize A0.eval (.tmp 37) = x3_37
   generalize A0.eval (.tmp 38) = x3_38
   generalize A0.eval (.tmp 39) = x3_39
   generalize A0.eval (.tmp 40) = x3_40
   generalize A0.eval (.tmp 41) = x3_41
   generalize A0.eval (.tmp 42) = x3_42
   generalize A0.eval (.tmp 43) = x3_43
   generalize A0.eval (.tmp 44) = x3_44
   generalize A0.eval (.tmp 45) = x3_45
   generalize A0.eval (.tmp 46) = x3_46
   clear hr hs hd' y0 y1 y2 y3 y4 y5 y6 y7 y8 y9 y10 y11 y47 y48 y49 y50
   clear hR hb5 HB5 HA5 HL5 HBT ha2
   refine hKf _ _ ?_
   clear hKf
   have hat0i : (0 : Int) ≤ ((g.n % 64 : Nat) : Int) := Int.natCast_nonneg _
   have hdrop : l = (d ++ r.take m) ++ r.drop m := by rw [HI2.out.all]; simp
   have HDROP := Lib.hid hdrop
   have hdl : (r.drop m).length = r.length - m := by simp
   have HDL := Lib.hid hdl
   have hca : r.length - m ≤ cap' - m := by have := HI2.out.cap; omega
   have HFE := Lib.hid (show feed kl h (d ++ r.take m) = feed kl g (r.take m) by rw [feed_app, HGE.out])
   clear hdrop hdl
   by_cases hfull : g.n % 64 + m = 64
   ·have hf1 : (((g.n % 64 : Nat) : Int) + (m : Int)) = 64 := by omega
    have hf2 : ((((g.n % 64 : Nat) : Int) + (m : Int)) == 64) = true := by rw [hf1]; rfl
    go_upto_region 8 with (fail)
    have hb6 : W6.drew.heap[hb]? = some (.cells (hashC g.s (putL g.hd (g.n % 64) (r.take m)) ((g.n + m : Nat) : Int)) 253 (0, 0)) := HB6.out
    have hpb : ∀ x ∈ putL g.hd (g.n % 64) (r.take m), x < 256 := by
     have h1 := (HGK.out.feed (kl := kl) (l := r.take m) (fun x hx => HRL.out x (List.mem_of_mem_take hx))).by'
     rw [HFC.out] at h1
     exact h1
    have HPB := Lib.hid hpb
    clear hpb
    refine reg140_8 (hb := hb) (kl := kl) (s := g.s) (hd := putL g.hd (g.n % 64) (r.take m)) (nn := ((g.n + m : Nat) : Int)) (by kernel_rfl) rfl (take_blk kl g.s _ _ hb _ HGK.out.s hg2 (fun k hk => by
     rw [List.getD, List.getElem?_eq_getElem (by omega)]
     exact HPB.out _ (List.getElem_mem _)) hb6 (fun k hk => by
     have h1 := HKL.out k hk
     have h2 := (HA6.out.block 4 (fun e => h4 e.symm) (World.block_lt_of_cell? w _ h1))
     exact ((cell_of_heap (w' := W6.drew) (w := w) h2)).trans h1)) rfl rfl (fun A0 W8 hT hd' hs hr hR => ?_)
    have HB8 := Lib.hid hT.1
    have HA8 := Lib.hid (HA6.out.trans' (show Also (fun b => b ≠ hb) W6 W8 from ⟨hT.2.1.size, fun b h1 h2 => hT.2.1.block b h1 h2⟩))
    have HL8 := Lib.hid (show Below hb w W8 from HL6.out.trans ((Below.refl hb W6).drew.trans hT.2.2))
    have HBT8 := Lib.hid (HBT6.out.keep (show Also (fun b => b ≠ hb) W6 W8 from ⟨hT.2.1.size, fun b h1 h2 => hT.2.1.block b h1 h2⟩))
    clear hT hb6
    have y0 : A0.eval (.tmp 0) = .pointer (some ⟨hb, 0, none⟩) := hr 0 (by kernel_rfl)
    have y1 : A0.eval (.tmp 1) = .slice (some (if cap' - m = 0 then a else a.add m)) (r.length - m) (cap' - m) := hr 1 (by kernel_rfl)
    have y2 : A0.eval (.tmp 2) = undef := hr 2 (by kernel_rfl)
    have y3 : A0.eval (.tmp 3) = undef := hr 3 (by kernel_rfl)
    have y4 : A0.eval (.tmp 4) = .int .i64 0 := hr 4 (by kernel_rfl)
    have y5 : A0.eval (.tmp 5) = .int .i64 ((g.n : Int) % 64) := hr 5 (by kernel_rfl)
    have y6 : A0.eval (.tmp 6) = .int .i64 (m : Int) := hr 6 (by kernel_rfl)
    have y7 : A0.eval (.tmp 7) = .pointer (some ⟨hb, 0, none⟩) := hr 7 (by kernel_rfl)
    have y8 : A0.eval (.tmp 8) = .bool false := hr 8 (by kernel_rfl)
    have y9 : A0.eval (.tmp 9) = .slice (some a) r.length cap' := hr 9 (by kernel_rfl)
    have y10 : A0.eval (.tmp 10) = .int .i64 (r.length : Int) := hr 10 (by kernel_rfl)
    have y11 : A0.eval (.tmp 11) = .bool true := hr 11 (by kernel_rfl)
    have y47 : A0.eval (.tmp 47) = undef := hr 47 (by kernel_rfl)
    have y48 : A0.eval (.tmp 48) = undef := hr 48 (by kernel_rfl)
    have y49 : A0.eval (.tmp 49) = undef := hr 49 (by kernel_rfl)
    have y50 : A0.eval (.tmp 50) = undef := hr 50 (by kernel_rfl)
    rw [act51 hs, hd', y0, y1, y2, y3, y4, y5, y6, y7, y8, y9, y10, y11, y47, y48, y49, y50]
    generalize A0.eval (.tmp 12) = x4_12
    generalize A0.eval (.tmp 13) = x4_13
    generalize A0.eval (.tmp 14) = x4_14
    generalize A0.eval (.tmp 15) = x4_15
    generalize A0.eval (.tmp 16) = x4_16
    generalize A0.eval (.tmp 17) = x4_17
    generalize A0.eval (.tmp 18) = x4_18
    generalize A0.eval (.tmp 19) = x4_19
    generalize A0.eval (.tmp 20) = x4_20
    generalize A0.eval (.tmp 21) = x4_21
    generalize A0.eval (.tmp 22) = x4_22
    generalize A0.eval (.tmp 23) = x4_23
    generalize A0.eval (.tmp 24) = x4_24
    generalize A0.eval (.tmp 25) = x4_25
    generalize A0.eval (.tmp 26) = x4_26
    generalize A0.eval (.tmp 27) = x4_27
    generalize A0.eval (.tmp 28) = x4_28
    generalize A0.eval (.tmp 29) = x4_29
    generalize A0.eval (.tmp 30) = x4_30
    generalize A0.eval (.tmp 31) = x4_31
    generalize A0.eval (.tmp 32) = x4_32
    generalize A0.eval (.tmp 33) = x4_33
    generalize A0.eval (.tmp 34) = x4_34
    generalize A0.eval (.tmp 35) = x4_35
    generalize A0.eval (.tmp 36) = x4_36
    generalize A0.eval (.tmp 37) = x4_37
    generalize A0.eval (.tmp 38) = x4_38
    generalize A0.eval (.tmp 39) = x4_39
    generalize A0.eval (.tmp 40) = x4_40
    generalize A0.eval (.tmp 41) = x4_41
    generalize A0.eval (.tmp 42) = x4_42
    generalize A0.eval (.tmp 43) = x4_43
    generalize A0.eval (.tmp 44) = x4_44
    generalize A0.eval (.tmp 45) = x4_45
    generalize A0.eval (.tmp 46) = x4_46
    clear hr hs hd' y0 y1 y2 y3 y4 y5 y6 y7 y8 y9 y10 y11 y47 y48 y49 y50
    clear hR
    go_wp2
    go_roundw
    case rel =>
     refine ⟨d ++ r.take m, r.drop m, _, _, by rw [HDL.out], HDROP.out, by rw [HDL.out]; exact hca, HBT8.out, ?_, HA8.out, HL8.out⟩
     rw [HFE.out, HFC.out]
     unfold HAt
     rw [if_pos hfull]
     exact HB8.out
    case measure => simp [sliceN]; omega
   ·have hf2 : ((((g.n % 64 : Nat) : Int) + (m : Int)) == 64) = false := by simp; omega
    go_wp2
    go_roundw
    case rel =>
     refine ⟨d ++ r.take m, r.drop m, _, _, by rw [HDL.out], HDROP.out, by rw [HDL.out]; exact hca, HBT6.out, ?_, HA6.out, HL6.out⟩
     rw [HFE.out, HFC.out]
     unfold HAt
     rw [if_neg hfull]
     exact HB6.out
    case measure => simp [sliceN]; omega
end Go.Proofs.YtoimjnmhinfbkaaGreatDoor

namespace Go.Proofs.YtoimjnmhinfbkaaGreatDoor
open Go.RowKit
set_option maxRecDepth 100000
/-- the empty text's hash. -/
def hash0 (il : List (BitVec 32)) : HS := ⟨il, List.replicate 64 0, 0⟩
theorem hash0_ok {il : List (BitVec 32)} (h : il.length = 8) : HOk (hash0 il) := ⟨h, by simp [hash0], fun x hx => by
 have := (List.mem_replicate.1 hx).2
 omega⟩
set_option maxHeartbeats 1600000 in
theorem new_any (il : List (BitVec 32)) (w : World) (hl : il.length = 8) (hg : ∀ k, k < 8 → w.cell? ⟨0, k, none⟩ = some (U (il.getD k 0))) : Calls Tryz.prog 139 #[] w fun e w' => e = .returned (.pointer (some ⟨w.heap.size, 0, none⟩)) ∧ w' = w.alloc (.cells (hashC (hash0 il).s (hash0 il).hd ((hash0 il).n : Int)) 253) := by
 obtain ⟨s0, s1, s2, s3, s4, s5, s6, s7, rfl⟩ := eight hl
 have e0 := hg 0 (by omega)
 have e1 := hg 1 (by omega)
 have e2 := hg 2 (by omega)
 have e3 := hg 3 (by omega)
 have e4 := hg 4 (by omega)
 have e5 := hg 5 (by omega)
 have e6 := hg 6 (by omega)
 have e7 := hg 7 (by omega)
 simp only [List.getD_cons_zero, List.getD_cons_succ] at e0 e1 e2 e3 e4 e5 e6 e7
 clear hg hl
 go_enter Tryz.func139, Tryz.ntmps139
 go_wp2
 go_ret
 exact ⟨rfl, rfl⟩
theorem hu253 : ∃ d, Tryz.prog.underlying 253 = some d ∧ d.isRow = true := ⟨_, Tryz.underlying253, rfl⟩
theorem hi253 : (Tryz.prog.info? 253).map (·.size) = some 73 := by kernel_rfl
section
variable {ρ : Operand → Value} {w : World} {o : Oper} {x y : Operand}
end
theorem hash_ones (s : List (BitVec 32)) (hd : List Nat) (n : Int) : (hashC s hd n).all (·.oneCell') = true := by
 unfold hashC
 refine all_ones _ fun v hv => ?_
 rcases List.mem_append.1 hv with h | h
 ·rcases List.mem_append.1 h with h | h
  ·obtain ⟨x, -, rfl⟩ := List.mem_map.1 h; rfl
  ·obtain ⟨x, -, rfl⟩ := List.mem_map.1 h; rfl
 ·obtain rfl := List.mem_singleton.1 h; rfl
def putC : Array Value → Nat → List Value → Array Value
 | c, _, [] => c
 | c, o, v :: vs => putC (c.setIfInBounds o v) (o + 1) vs
theorem putC_get : ∀ (vs : List Value) (c : Array Value) (o j : Nat), o + vs.length ≤ c.size → (putC c o vs)[j]? = if o ≤ j ∧ j < o + vs.length then vs[j - o]? else c[j]?
 | [], c, o, j, _ => by
  have h : ¬ (o ≤ j ∧ j < o + ([] : List Value).length) := by simp
  rw [if_neg h]; rfl
 | v :: vs, c, o, j, hl => by
  have hl' : o + (vs.length + 1) ≤ c.size := hl
  rw [putC, putC_get vs _ (o + 1) j (by simp; omega)]
  simp only [List.length_cons]
  by_cases h1 : o + 1 ≤ j ∧ j < o + 1 + vs.length
  ·rw [if_pos h1, if_pos (by omega), show j - o = (j - (o + 1)) + 1 by omega, List.getElem?_cons_succ]
  ·rw [if_neg h1]
   by_cases h2 : j = o
   ·subst h2
    rw [if_pos (by omega), Nat.sub_self, Array.getElem?_setIfInBounds_self_of_lt (by omega)]; rfl
   ·rw [if_neg (by omega), Array.getElem?_setIfInBounds_ne (fun e => h2 e.symm)]
theorem putC_all {vs : List Value} {c : Array Value} (h : vs.length = c.size) : putC c 0 vs = vs.toArray := by
 apply Array.ext_getElem?
 intro j
 rw [putC_get vs c 0 j (by omega)]
 by_cases hj : j < vs.length
 ·rw [if_pos (by omega)]; simp
 ·rw [if_neg (by omega), Array.getElem?_eq_none (by omega)]
  simp; omega
theorem setCells_heap {b t : Nat} : ∀ (vs : List Value) (o : Nat) (w : World) (c : Array Value), w.heap[b]? = some (.cells c t (0, 0)) → (w.setCells b o vs).heap[b]? = some (.cells (putC c o vs) t (0, 0))
 | [], _, _, _, h => h
 | v :: vs, o, w, c, h => setCells_heap vs (o + 1) (w.setCell ⟨b, o, none⟩ v) (c.setIfInBounds o v) (blk_set h o v)
theorem setCells_whole {w : World} {b t : Nat} {c c0 : Array Value} (h : w.heap[b]? = some (.cells c0 t (0, 0))) (hl : c.size = c0.size) : (w.setCells b 0 c.toList).heap[b]? = some (.cells c t (0, 0)) := by
 rw [setCells_heap c.toList 0 w c0 h, putC_all (by simpa using hl)]
/-- how many noughts are filled in. -/
def zerosN (n : Nat) : Nat := (119 - n % 64) % 64
def lenB (n i : Nat) : Nat := n * 8 / 2 ^ (56 - 8 * i) % 256
def nAt (x : Nat) (w : World) : Nat := match w.heap[x]? with
 | some (.cells c _ _) => match c[72]? with
  | some (Value.int _ n) => n.toNat
  | _ => 0
 | _ => 0
theorem nAt_of {w : World} {x : Nat} {h : HS} (hk : HOk h) (ha : HAt w x h) : nAt x w = h.n := by
 unfold nAt
 rw [ha]
 simp only [hash_n hk.s hk.hd]
 simp
end Go.Proofs.YtoimjnmhinfbkaaGreatDoor
