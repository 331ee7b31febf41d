import Derived.Laws.IdiomCopy
import Derived.Test.YtoimjnmhinfbkaaGreatDoorS06
namespace Go.Proofs.YtoimjnmhinfbkaaGreatDoor
open Go.RowKit
set_option maxRecDepth 100000
section
variable {ρ : Operand → Value} {w : World} {o : Oper} {x y z : Operand}
theorem run_idx250 {b n : Nat} {k : Nat} {i : Int} (hz : i = (k : Int)) (hk : k < 8) (ho : o.op = .indexAddr 250 x y) (h1 : ρ x = .pointer (some ⟨b, n, none⟩)) (h2 : ρ y = .int .i64 i) : (execOp ρ o).run Tryz.prog w = .ok (.value (.pointer (some ⟨b, n + k, none⟩))) w := by
 subst hz
 have h0 : (0 : Int) ≤ (k : Int) := Int.natCast_nonneg _
 have h3 : (k : Int) < 8 := by omega
 unfold execOp; rw [ho]; simp only [h1, h2]; go_simp
theorem run_index_arr {l : List (BitVec 32)} {k : Nat} (hl : l.length = 64) (hk : k < 64) : (Instr.index 186 (.agg (arr l)) (.int .i64 (k : Int))).run Tryz.prog w = .ok (U (l.getD k 0)) w := by
 have h3 : (k : Int) < 64 := by omega
 have h4 := arr_at (l := l) (o := k) (by omega)
 have hi : (Tryz.prog.info? 184).map (·.size) = some 1 := by kernel_rfl
 cases hq : Tryz.prog.info? 184 with
 | none => simp [hq] at hi
 | some i =>
  have hs : i.size = 1 := by simpa [hq] using hi
  simp [Instr.index, asIntOf, Sem.run_bind, run_underlying hu186, h3, part, sizeOf, typeInfo, hq, hs, h4]
  intro h; omega
theorem run_ix186 {l : List (BitVec 32)} {k : Nat} (hl : l.length = 64) (hk : k < 64) (ho : o.op = .index 186 x y) (h1 : ρ x = .agg (arr l)) (h2 : ρ y = .int .i64 (k : Int)) : (execOp ρ o).run Tryz.prog w = .ok (.value (U (l.getD k 0))) w := by
 unfold execOp
 simp only [ho, h1, h2, Sem.run_bind, run_index_arr hl hk, Result.andThen_ok]
 rfl
theorem run_slice_lo {b n : Nat} (ho : o.op = .slice 250 x (some y) none none) (h1 : ρ x = .pointer (some ⟨b, n, none⟩)) (h2 : ρ y = .int .i64 1) : (execOp ρ o).run Tryz.prog w = .ok (.value (.slice (some ⟨b, n + 1, none⟩) 7 7)) w := by
 unfold execOp; rw [ho]; simp only [h1, h2, Option.map]; go_simp
theorem run_slice_hi {b n : Nat} (ho : o.op = .slice 250 x none (some y) none) (h1 : ρ x = .pointer (some ⟨b, n, none⟩)) (h2 : ρ y = .int .i64 7) : (execOp ρ o).run Tryz.prog w = .ok (.value (.slice (some ⟨b, n, none⟩) 7 8)) w := by
 unfold execOp; rw [ho]; simp only [h1, h2, Option.map]; go_simp
theorem run_copy189 {b n m : Nat} {c1 c2 : Nat} {cs : List Value} (hl : cs.length = 7) (hsrc : ∀ j v, cs[j]? = some v → w.cell? ((⟨b, m, none⟩ : Addr).add j) = some v) (hc : ∀ j, j < cs.length → (w.cell? ⟨b, n + j, none⟩).isSome = true) (hf : ∀ j, j < cs.length → w.frozen? ⟨b, n + j, none⟩ = false) (h1 : ∀ v ∈ cs, v.oneCell' = true)
  (ho : o.op = .call { callee := .builtin .copy, args := #[x, y], argTypes := #[189, 189] }) (hx : ρ x = .slice (some ⟨b, n, none⟩) 7 c1) (hy : ρ y = .slice (some ⟨b, m, none⟩) 7 c2) : (execOp ρ o).run Tryz.prog w = .ok (.value (.int .i64 7)) (w.setCells b n cs) := by
 have hr := run_copy_cells (P := Tryz.prog) w 189 189 o.type 184 b n 7 c1 ⟨b, m, none⟩ 7 c2 cs Tryz.underlying189 (by kernel_rfl) (by rw [hl]; rfl) hsrc hc hf h1
 unfold execOp
 simp only [ho, resolve, invoke, builtin, Sem.run_bind, Sem.run_pure, Result.andThen_ok, List.map_toArray, List.map_cons, List.map_nil, hx, hy, hr, hl]
 rfl
end
def ch (x y z : BitVec 32) : BitVec 32 := (x &&& y) ^^^ (~~~x &&& z)
def mj (x y z : BitVec 32) : BitVec 32 := (x &&& y) ^^^ (x &&& z) ^^^ (y &&& z)
def Sg1 (x : BitVec 32) : BitVec 32 := rotr x 6 ^^^ rotr x 11 ^^^ rotr x 25
def Sg0 (x : BitVec 32) : BitVec 32 := rotr x 2 ^^^ rotr x 13 ^^^ rotr x 22
noncomputable def ops176_3 : Array Oper := (Tryz.f176.body.bind (inCode 3)).getD #[]
def sl176_3 : Nat → Nat
 | 0 => 19
 | 1 => 20
 | 2 => 5
 | 3 => 6
 | _ => 0
def R176_3 (ws : List (BitVec 32)) (kk : Nat) : Nat → Value → World → Prop
 | 0, v, _ => v = .int .i64 (kk : Int)
 | 1, v, _ => v = U (ws.getD kk 0)
 | 2, v, _ => v = .int .i64 (kk : Int)
 | 3, v, _ => v = U (ws.getD kk 0)
 | _, _, _ => True
def J176_3 (W0 : World) (ws : List (BitVec 32)) (kk : Nat) (L : Array Bool) (w : World) : Prop := w = W0
set_option maxHeartbeats 3200000 in
theorem reg176_3 {ops : Array Oper} (ho : ops = ops176_3) {Q : Exit → Act → World → Prop} {a0 : Act} {w0 W0 : World} (hW : w0 = W0) {ws : List (BitVec 32)} {kk : Nat} (hws : ws.length = 64) (hkk : kk < 64) (hs16 : a0.eval (.tmp 16) = .agg (arr ws)) (hs17 : a0.eval (.tmp 17) = .int .i64 (kk : Int)) (hsz : a0.tmps.size = 105)
  (HK : ∀ a, a.defers = a0.defers → a.tmps.size = 105 → (∀ s, freeB ops176_3 s = true → a.eval (.tmp s) = a0.eval (.tmp s)) → (∀ i, i < 4 → R176_3 ws kk i (a.eval (.tmp (sl176_3 i))) (W0)) → Q .normal a (W0)) : (Code.region 3 ops false).wp Tryz.prog Q a0 w0 := by
 subst ho
 refine region_made_seq (n := 4) (sl := sl176_3) (J := J176_3 W0 ws kk) (R := R176_3 ws kk) (by kernel_rfl) (by kernel_rfl) (by kernel_rfl) (by rw [hsz]; kernel_rfl) ?_ (show _ = _ from hW) (fun L a w hall hf => ?_)
 rotate_left
 ·obtain rfl : w = W0 := hf.world
  exact HK a hf.defers (hf.size.trans hsz) hf.rest (fun i hi => hf.got i (hall i hi))
 intro i hi L a w hs h1 hdep hd hst ho
 clear HK
 match i, hi, h1, hdep, ho with
 | 0, _, h1, hdep, ho =>
   have hw : w = W0 := hst.world
   obtain rfl : W0 = w := hw.symm
   have s17 : a.eval (.tmp 17) = .int .i64 (kk : Int) := (hst.rest 17 (by kernel_rfl)).trans hs17
   have hr : (execOp a.eval (opAt ops176_3 0)).run Tryz.prog W0 = .ok (.value (.int .i64 (kk : Int))) W0 := run_moved (x := .tmp 17) (by kernel_rfl) s17
   exact op_value ho (by kernel_rfl) hr (made_val (d := 19) (by kernel_rfl) rfl rfl (fun _ _ _ _ h => h))
 | 1, _, h1, hdep, ho =>
   have hw : w = W0 := hst.world
   obtain rfl : W0 = w := hw.symm
   have s16 : a.eval (.tmp 16) = .agg (arr ws) := (hst.rest 16 (by kernel_rfl)).trans hs16
   have s17 : a.eval (.tmp 17) = .int .i64 (kk : Int) := (hst.rest 17 (by kernel_rfl)).trans hs17
   have hr : (execOp a.eval (opAt ops176_3 1)).run Tryz.prog W0 = .ok (.value (U (ws.getD kk 0))) W0 := run_ix186 hws hkk (show (opAt ops176_3 1).op = .index 186 (.tmp 16) (.tmp 17) from (by kernel_rfl)) s16 s17
   exact op_value ho (by kernel_rfl) hr (made_val (d := 20) (by kernel_rfl) rfl rfl (fun _ _ _ _ h => h))
 | 2, _, h1, hdep, ho =>
   have hw : w = W0 := hst.world
   obtain rfl : W0 = w := hw.symm
   have g0 : a.eval (.tmp 19) = .int .i64 (kk : Int) := hst.got 0 (hdep 0 (by kernel_rfl))
   have hr : (execOp a.eval (opAt ops176_3 2)).run Tryz.prog W0 = .ok (.value (.int .i64 (kk : Int))) W0 := run_moved_as (x := .tmp 19) (by kernel_rfl) g0
   exact op_value ho (by kernel_rfl) hr (made_val (d := 5) (by kernel_rfl) rfl rfl (fun _ _ _ _ h => h))
 | 3, _, h1, hdep, ho =>
   have hw : w = W0 := hst.world
   obtain rfl : W0 = w := hw.symm
   have g1 : a.eval (.tmp 20) = U (ws.getD kk 0) := hst.got 1 (hdep 1 (by kernel_rfl))
   have hr : (execOp a.eval (opAt ops176_3 3)).run Tryz.prog W0 = .ok (.value (U (ws.getD kk 0))) W0 := run_moved_as (x := .tmp 20) (by kernel_rfl) g1
   exact op_value ho (by kernel_rfl) hr (made_val (d := 6) (by kernel_rfl) rfl rfl (fun _ _ _ _ h => h))
 | k + 4, hi, _, _, _ => exact absurd hi (by omega)
noncomputable def ops176_4 : Array Oper := (Tryz.f176.body.bind (inCode 4)).getD #[]
def sl176_4 : Nat → Nat
 | 0 => 21
 | 1 => 22
 | 2 => 23
 | 3 => 24
 | 4 => 7
 | 5 => 8
 | _ => 0
def R176_4 (c : Nat) (x0 : BitVec 32) (x1 : BitVec 32) (x2 : BitVec 32) (x3 : BitVec 32) (x4 : BitVec 32) (x5 : BitVec 32) (x6 : BitVec 32) (x7 : BitVec 32) : Nat → Value → World → Prop
 | 0, v, _ => v = .pointer (some ⟨c, 0, none⟩)
 | 1, v, _ => v = U x0
 | 2, v, _ => v = .pointer (some ⟨c, 4, none⟩)
 | 3, v, _ => v = U x4
 | 4, v, _ => v = U x0
 | 5, v, _ => v = U x4
 | _, _, _ => True
def J176_4 (W0 : World) (c : Nat) (x0 : BitVec 32) (x1 : BitVec 32) (x2 : BitVec 32) (x3 : BitVec 32) (x4 : BitVec 32) (x5 : BitVec 32) (x6 : BitVec 32) (x7 : BitVec 32) (L : Array Bool) (w : World) : Prop := w = W0
set_option maxHeartbeats 3200000 in
theorem reg176_4 {ops : Array Oper} (ho : ops = ops176_4) {Q : Exit → Act → World → Prop} {a0 : Act} {w0 W0 : World} (hW : w0.drew = W0) {c : Nat} {x0 : BitVec 32} {x1 : BitVec 32} {x2 : BitVec 32} {x3 : BitVec 32} {x4 : BitVec 32} {x5 : BitVec 32} {x6 : BitVec 32} {x7 : BitVec 32} (c0 : W0.cell? ⟨c, 0, none⟩ = some (U x0)) (c1 : W0.cell? ⟨c, 1, none⟩ = some (U x1)) (c2 : W0.cell? ⟨c, 2, none⟩ = some (U x2)) (c3 : W0.cell? ⟨c, 3, none⟩ = some (U x3)) (c4 : W0.cell? ⟨c, 4, none⟩ = some (U x4)) (c5 : W0.cell? ⟨c, 5, none⟩ = some (U x5)) (c6 : W0.cell? ⟨c, 6, none⟩ = some (U x6)) (c7 : W0.cell? ⟨c, 7, none⟩ = some (U x7)) (hs4 : a0.eval (.tmp 4) = .pointer (some ⟨c, 0, none⟩)) (hsz : a0.tmps.size = 105)
  (HK : ∀ a, a.defers = a0.defers → a.tmps.size = 105 → (∀ s, freeB ops176_4 s = true → a.eval (.tmp s) = a0.eval (.tmp s)) → (∀ i, i < 6 → R176_4 c x0 x1 x2 x3 x4 x5 x6 x7 i (a.eval (.tmp (sl176_4 i))) (W0)) → Q .normal a (W0)) : (Code.region 4 ops true).wp Tryz.prog Q a0 w0 := by
 subst ho
 refine region_made (n := 6) (sl := sl176_4) (J := J176_4 W0 c x0 x1 x2 x3 x4 x5 x6 x7) (R := R176_4 c x0 x1 x2 x3 x4 x5 x6 x7) (by kernel_rfl) (by kernel_rfl) (by kernel_rfl) (by rw [hsz]; kernel_rfl) ?_ (show _ = _ from hW) (fun L a w hall hf => ?_)
 rotate_left
 ·obtain rfl : w = W0 := hf.world
  exact HK a hf.defers (hf.size.trans hsz) hf.rest (fun i hi => hf.got i (hall i hi))
 intro i hi L a w hs h1 hdep hd hst ho
 clear HK
 match i, hi, h1, hdep, ho with
 | 0, _, h1, hdep, ho =>
   have hw : w = W0 := hst.world
   obtain rfl : W0 = w := hw.symm
   have s4 : a.eval (.tmp 4) = .pointer (some ⟨c, 0, none⟩) := (hst.rest 4 (by kernel_rfl)).trans hs4
   have hr : (execOp a.eval (opAt ops176_4 0)).run Tryz.prog W0 = .ok (.value (.pointer (some ⟨c, 0, none⟩))) W0 := (show 0 + 0 = 0 from Nat.zero_add _) ▸ run_idx250 (n := 0) (k := 0) rfl (by decide) (show (opAt ops176_4 0).op = .indexAddr 250 (.tmp 4) (.const (.int .i64 0)) from (by kernel_rfl)) s4 rfl
   exact op_value ho (by kernel_rfl) hr (made_val (d := 21) (by kernel_rfl) rfl rfl (fun _ _ _ _ h => h))
 | 1, _, h1, hdep, ho =>
   have hw : w = W0 := hst.world
   obtain rfl : W0 = w := hw.symm
   have g0 : a.eval (.tmp 21) = .pointer (some ⟨c, 0, none⟩) := hst.got 0 (hdep 0 (by kernel_rfl))
   have hr : (execOp a.eval (opAt ops176_4 1)).run Tryz.prog W0 = .ok (.value (U x0)) W0 := run_load184 c0 (show (opAt ops176_4 1).op = .load 184 (.tmp 21) from (by kernel_rfl)) g0
   exact op_value ho (by kernel_rfl) hr (made_val (d := 22) (by kernel_rfl) rfl rfl (fun _ _ _ _ h => h))
 | 2, _, h1, hdep, ho =>
   have hw : w = W0 := hst.world
   obtain rfl : W0 = w := hw.symm
   have s4 : a.eval (.tmp 4) = .pointer (some ⟨c, 0, none⟩) := (hst.rest 4 (by kernel_rfl)).trans hs4
   have hr : (execOp a.eval (opAt ops176_4 2)).run Tryz.prog W0 = .ok (.value (.pointer (some ⟨c, 4, none⟩))) W0 := (show 0 + 4 = 4 from Nat.zero_add _) ▸ run_idx250 (n := 0) (k := 4) rfl (by decide) (show (opAt ops176_4 2).op = .indexAddr 250 (.tmp 4) (.const (.int .i64 4)) from (by kernel_rfl)) s4 rfl
   exact op_value ho (by kernel_rfl) hr (made_val (d := 23) (by kernel_rfl) rfl rfl (fun _ _ _ _ h => h))
 | 3, _, h1, hdep, ho =>
   have hw : w = W0 := hst.world
   obtain rfl : W0 = w := hw.symm
   have g2 : a.eval (.tmp 23) = .pointer (some ⟨c, 4, none⟩) := hst.got 2 (hdep 2 (by kernel_rfl))
   have hr : (execOp a.eval (opAt ops176_4 3)).run Tryz.prog W0 = .ok (.value (U x4)) W0 := run_load184 c4 (show (opAt ops176_4 3).op = .load 184 (.tmp 23) from (by kernel_rfl)) g2
   exact op_value ho (by kernel_rfl) hr (made_val (d := 24) (by kernel_rfl) rfl rfl (fun _ _ _ _ h => h))
 | 4, _, h1, hdep, ho =>
   have hw : w = W0 := hst.world
   obtain rfl : W0 = w := hw.symm
   have g1 : a.eval (.tmp 22) = U x0 := hst.got 1 (hdep 1 (by kernel_rfl))
   have hr : (execOp a.eval (opAt ops176_4 4)).run Tryz.prog W0 = .ok (.value (U x0)) W0 := run_moved_as (x := .tmp 22) (by kernel_rfl) g1
   exact op_value ho (by kernel_rfl) hr (made_val (d := 7) (by kernel_rfl) rfl rfl (fun _ _ _ _ h => h))
 | 5, _, h1, hdep, ho =>
   have hw : w = W0 := hst.world
   obtain rfl : W0 = w := hw.symm
   have g3 : a.eval (.tmp 24) = U x4 := hst.got 3 (hdep 3 (by kernel_rfl))
   have hr : (execOp a.eval (opAt ops176_4 5)).run Tryz.prog W0 = .ok (.value (U x4)) W0 := run_moved_as (x := .tmp 24) (by kernel_rfl) g3
   exact op_value ho (by kernel_rfl) hr (made_val (d := 8) (by kernel_rfl) rfl rfl (fun _ _ _ _ h => h))
 | k + 6, hi, _, _, _ => exact absurd hi (by omega)
noncomputable def ops176_5 : Array Oper := (Tryz.f176.body.bind (inCode 5)).getD #[]
def sl176_5 : Nat → Nat
 | 0 => 25
 | 1 => 26
 | 2 => 27
 | 3 => 28
 | 4 => 29
 | 5 => 30
 | 6 => 31
 | 7 => 32
 | 8 => 33
 | 9 => 34
 | 10 => 35
 | 11 => 36
 | 12 => 37
 | 13 => 38
 | 14 => 39
 | 15 => 40
 | 16 => 41
 | 17 => 42
 | 18 => 43
 | 19 => 44
 | 20 => 45
 | 21 => 46
 | 22 => 47
 | 23 => 48
 | 24 => 49
 | 25 => 50
 | 26 => 51
 | 27 => 52
 | 28 => 9
 | _ => 0
def R176_5 (c : Nat) (x0 : BitVec 32) (x1 : BitVec 32) (x2 : BitVec 32) (x3 : BitVec 32) (x4 : BitVec 32) (x5 : BitVec 32) (x6 : BitVec 32) (x7 : BitVec 32) (kk : Nat) (kc : BitVec 32) (wk : BitVec 32) (e : BitVec 32) : Nat → Value → World → Prop
 | 0, v, _ => v = .pointer (some ⟨c, 7, none⟩)
 | 1, v, _ => v = U x7
 | 2, v, _ => v = U e
 | 3, v, _ => v = U (rotr e 6)
 | 4, v, _ => v = U e
 | 5, v, _ => v = U (rotr e 11)
 | 6, v, _ => v = U ((rotr e 6) ^^^ (rotr e 11))
 | 7, v, _ => v = U e
 | 8, v, _ => v = U (rotr e 25)
 | 9, v, _ => v = U (((rotr e 6) ^^^ (rotr e 11)) ^^^ (rotr e 25))
 | 10, v, _ => v = U (x7 + (((rotr e 6) ^^^ (rotr e 11)) ^^^ (rotr e 25)))
 | 11, v, _ => v = U e
 | 12, v, _ => v = .pointer (some ⟨c, 5, none⟩)
 | 13, v, _ => v = U x5
 | 14, v, _ => v = U (e &&& x5)
 | 15, v, _ => v = U e
 | 16, v, _ => v = U (~~~e)
 | 17, v, _ => v = .pointer (some ⟨c, 6, none⟩)
 | 18, v, _ => v = U x6
 | 19, v, _ => v = U ((~~~e) &&& x6)
 | 20, v, _ => v = U ((e &&& x5) ^^^ ((~~~e) &&& x6))
 | 21, v, _ => v = U ((x7 + (((rotr e 6) ^^^ (rotr e 11)) ^^^ (rotr e 25))) + ((e &&& x5) ^^^ ((~~~e) &&& x6)))
 | 22, v, _ => v = .int .i64 (kk : Int)
 | 23, v, _ => v = .pointer (some ⟨4, kk, none⟩)
 | 24, v, _ => v = U kc
 | 25, v, _ => v = U (((x7 + (((rotr e 6) ^^^ (rotr e 11)) ^^^ (rotr e 25))) + ((e &&& x5) ^^^ ((~~~e) &&& x6))) + kc)
 | 26, v, _ => v = U wk
 | 27, v, _ => v = U ((((x7 + (((rotr e 6) ^^^ (rotr e 11)) ^^^ (rotr e 25))) + ((e &&& x5) ^^^ ((~~~e) &&& x6))) + kc) + wk)
 | 28, v, _ => v = U ((((x7 + (((rotr e 6) ^^^ (rotr e 11)) ^^^ (rotr e 25))) + ((e &&& x5) ^^^ ((~~~e) &&& x6))) + kc) + wk)
 | _, _, _ => True
def J176_5 (W0 : World) (c : Nat) (x0 : BitVec 32) (x1 : BitVec 32) (x2 : BitVec 32) (x3 : BitVec 32) (x4 : BitVec 32) (x5 : BitVec 32) (x6 : BitVec 32) (x7 : BitVec 32) (kk : Nat) (kc : BitVec 32) (wk : BitVec 32) (e : BitVec 32) (L : Array Bool) (w : World) : Prop := w = W0
set_option maxHeartbeats 3200000 in
theorem reg176_5 {ops : Array Oper} (ho : ops = ops176_5) {Q : Exit → Act → World → Prop} {a0 : Act} {w0 W0 : World} (hW : w0.drew = W0) {c : Nat} {x0 : BitVec 32} {x1 : BitVec 32} {x2 : BitVec 32} {x3 : BitVec 32} {x4 : BitVec 32} {x5 : BitVec 32} {x6 : BitVec 32} {x7 : BitVec 32} {kk : Nat} {kc : BitVec 32} {wk : BitVec 32} {e : BitVec 32} (c0 : W0.cell? ⟨c, 0, none⟩ = some (U x0)) (c1 : W0.cell? ⟨c, 1, none⟩ = some (U x1)) (c2 : W0.cell? ⟨c, 2, none⟩ = some (U x2)) (c3 : W0.cell? ⟨c, 3, none⟩ = some (U x3)) (c4 : W0.cell? ⟨c, 4, none⟩ = some (U x4)) (c5 : W0.cell? ⟨c, 5, none⟩ = some (U x5)) (c6 : W0.cell? ⟨c, 6, none⟩ = some (U x6)) (c7 : W0.cell? ⟨c, 7, none⟩ = some (U x7)) (hkk : kk < 64) (ck : W0.cell? ⟨4, kk, none⟩ = some (U kc)) (hs4 : a0.eval (.tmp 4) = .pointer (some ⟨c, 0, none⟩)) (hs5 : a0.eval (.tmp 5) = .int .i64 (kk : Int)) (hs6 : a0.eval (.tmp 6) = U wk) (hs8 : a0.eval (.tmp 8) = U e) (hsz : a0.tmps.size = 105)
  (HK : ∀ a, a.defers = a0.defers → a.tmps.size = 105 → (∀ s, freeB ops176_5 s = true → a.eval (.tmp s) = a0.eval (.tmp s)) → (∀ i, i < 29 → R176_5 c x0 x1 x2 x3 x4 x5 x6 x7 kk kc wk e i (a.eval (.tmp (sl176_5 i))) (W0)) → Q .normal a (W0)) : (Code.region 5 ops true).wp Tryz.prog Q a0 w0 := by
 subst ho
 refine region_made (n := 29) (sl := sl176_5) (J := J176_5 W0 c x0 x1 x2 x3 x4 x5 x6 x7 kk kc wk e) (R := R176_5 c x0 x1 x2 x3 x4 x5 x6 x7 kk kc wk e) (by kernel_rfl) (by kernel_rfl) (by kernel_rfl) (by rw [hsz]; kernel_rfl) ?_ (show _ = _ from hW) (fun L a w hall hf => ?_)
 rotate_left
 ·obtain rfl : w = W0 := hf.world
  exact HK a hf.defers (hf.size.trans hsz) hf.rest (fun i hi => hf.got i (hall i hi))
 intro i hi L a w hs h1 hdep hd hst ho
 clear HK
 match i, hi, h1, hdep, ho with
 | 0, _, h1, hdep, ho =>
   have hw : w = W0 := hst.world
   obtain rfl : W0 = w := hw.symm
   have s4 : a.eval (.tmp 4) = .pointer (some ⟨c, 0, none⟩) := (hst.rest 4 (by kernel_rfl)).trans hs4
   have hr : (execOp a.eval (opAt ops176_5 0)).run Tryz.prog W0 = .ok (.value (.pointer (some ⟨c, 7, none⟩))) W0 := (show 0 + 7 = 7 from Nat.zero_add _) ▸ run_idx250 (n := 0) (k := 7) rfl (by decide) (show (opAt ops176_5 0).op = .indexAddr 250 (.tmp 4) (.const (.int .i64 7)) from (by kernel_rfl)) s4 rfl
   exact op_value ho (by kernel_rfl) hr (made_val (d := 25) (by kernel_rfl) rfl rfl (fun _ _ _ _ h => h))
 | 1, _, h1, hdep, ho =>
   have hw : w = W0 := hst.world
   obtain rfl : W0 = w := hw.symm
   have g0 : a.eval (.tmp 25) = .pointer (some ⟨c, 7, none⟩) := hst.got 0 (hdep 0 (by kernel_rfl))
   have hr : (execOp a.eval (opAt ops176_5 1)).run Tryz.prog W0 = .ok (.value (U x7)) W0 := run_load184 c7 (show (opAt ops176_5 1).op = .load 184 (.tmp 25) from (by kernel_rfl)) g0
   exact op_value ho (by kernel_rfl) hr (made_val (d := 26) (by kernel_rfl) rfl rfl (fun _ _ _ _ h => h))
 | 2, _, h1, hdep, ho =>
   have hw : w = W0 := hst.world
   obtain rfl : W0 = w := hw.symm
   have s8 : a.eval (.tmp 8) = U e := (hst.rest 8 (by kernel_rfl)).trans hs8
   have hr : (execOp a.eval (opAt ops176_5 2)).run Tryz.prog W0 = .ok (.value (U e)) W0 := run_moved (x := .tmp 8) (by kernel_rfl) s8
   exact op_value ho (by kernel_rfl) hr (made_val (d := 27) (by kernel_rfl) rfl rfl (fun _ _ _ _ h => h))
 | 3, _, h1, hdep, ho =>
   have hw : w = W0 := hst.world
   obtain rfl : W0 = w := hw.symm
   have g2 : a.eval (.tmp 27) = U e := hst.got 2 (hdep 2 (by kernel_rfl))
   have hr : (execOp a.eval (opAt ops176_5 3)).run Tryz.prog W0 = .ok (.enter 198 #[U e, .int .i64 6]) W0 := by
    clear hst hdep hd h1 hs ho
    have hk : ∀ f, a.eval (.func f) = .func (.func f) #[] #[] := fun _ => rfl
    have hc : ∀ v, a.eval (.const v) = v := fun _ => rfl
    generalize a.eval = ρ at g2 hk hc ⊢
    unfold execOp; rw [show (opAt ops176_5 3).op = .call { callee := .value (.func 198), args := #[.tmp 27, .const (.int .i64 6)], argTypes := #[184, 3] } from (by kernel_rfl)]; simp only [g2, hk, hc]
    go_simp
   refine op_call ho (by kernel_rfl) hr ((turn_6 e W0).mono ?_)
   rintro e w'' ⟨rfl, rfl⟩
   exact ⟨_, rfl, made_val (d := 28) (by kernel_rfl) rfl rfl (fun _ _ _ _ h => h)⟩
 | 4, _, h1, hdep, ho =>
   have hw : w = W0 := hst.world
   obtain rfl : W0 = w := hw.symm
   have s8 : a.eval (.tmp 8) = U e := (hst.rest 8 (by kernel_rfl)).trans hs8
   have hr : (execOp a.eval (opAt ops176_5 4)).run Tryz.prog W0 = .ok (.value (U e)) W0 := run_moved (x := .tmp 8) (by kernel_rfl) s8
   exact op_value ho (by kernel_rfl) hr (made_val (d := 29) (by kernel_rfl) rfl rfl (fun _ _ _ _ h => h))
 | 5, _, h1, hdep, ho =>
   have hw : w = W0 := hst.world
   obtain rfl : W0 = w := hw.symm
   have g4 : a.eval (.tmp 29) = U e := hst.got 4 (hdep 4 (by kernel_rfl))
   have hr : (execOp a.eval (opAt ops176_5 5)).run Tryz.prog W0 = .ok (.enter 198 #[U e, .int .i64 11]) W0 := by
    clear hst hdep hd h1 hs ho
    have hk : ∀ f, a.eval (.func f) = .func (.func f) #[] #[] := fun _ => rfl
    have hc : ∀ v, a.eval (.const v) = v := fun _ => rfl
    generalize a.eval = ρ at g4 hk hc ⊢
    unfold execOp; rw [show (opAt ops176_5 5).op = .call { callee := .value (.func 198), args := #[.tmp 29, .const (.int .i64 11)], argTypes := #[184, 3] } from (by kernel_rfl)]; simp only [g4, hk, hc]
    go_simp
   refine op_call ho (by kernel_rfl) hr ((turn_11 e W0).mono ?_)
   rintro e w'' ⟨rfl, rfl⟩
   exact ⟨_, rfl, made_val (d := 30) (by kernel_rfl) rfl rfl (fun _ _ _ _ h => h)⟩
 | 6, _, h1, hdep, ho =>
   have hw : w = W0 := hst.world
   obtain rfl : W0 = w := hw.symm
   have g3 : a.eval (.tmp 28) = U (rotr e 6) := hst.got 3 (hdep 3 (by kernel_rfl))
   have g5 : a.eval (.tmp 30) = U (rotr e 11) := hst.got 5 (hdep 5 (by kernel_rfl))
   have hr : (execOp a.eval (opAt ops176_5 6)).run Tryz.prog W0 = .ok (.value (U ((rotr e 6) ^^^ (rotr e 11)))) W0 := run_xor32 (show (opAt ops176_5 6).op = .binOp .xor 184 (.tmp 28) (.tmp 30) 184 from (by kernel_rfl)) g3 g5
   exact op_value ho (by kernel_rfl) hr (made_val (d := 31) (by kernel_rfl) rfl rfl (fun _ _ _ _ h => h))
 | 7, _, h1, hdep, ho =>
   have hw : w = W0 := hst.world
   obtain rfl : W0 = w := hw.symm
   have s8 : a.eval (.tmp 8) = U e := (hst.rest 8 (by kernel_rfl)).trans hs8
   have hr : (execOp a.eval (opAt ops176_5 7)).run Tryz.prog W0 = .ok (.value (U e)) W0 := run_moved (x := .tmp 8) (by kernel_rfl) s8
   exact op_value ho (by kernel_rfl) hr (made_val (d := 32) (by kernel_rfl) rfl rfl (fun _ _ _ _ h => h))
 | 8, _, h1, hdep, ho =>
   have hw : w = W0 := hst.world
   obtain rfl : W0 = w := hw.symm
   have g7 : a.eval (.tmp 32) = U e := hst.got 7 (hdep 7 (by kernel_rfl))
   have hr : (execOp a.eval (opAt ops176_5 8)).run Tryz.prog W0 = .ok (.enter 198 #[U e, .int .i64 25]) W0 := by
    clear hst hdep hd h1 hs ho
    have hk : ∀ f, a.eval (.func f) = .func (.func f) #[] #[] := fun _ => rfl
    have hc : ∀ v, a.eval (.const v) = v := fun _ => rfl
    generalize a.eval = ρ at g7 hk hc ⊢
    unfold execOp; rw [show (opAt ops176_5 8).op = .call { callee := .value (.func 198), args := #[.tmp 32, .const (.int .i64 25)], argTypes := #[184, 3] } from (by kernel_rfl)]; simp only [g7, hk, hc]
    go_simp
   refine op_call ho (by kernel_rfl) hr ((turn_25 e W0).mono ?_)
   rintro e w'' ⟨rfl, rfl⟩
   exact ⟨_, rfl, made_val (d := 33) (by kernel_rfl) rfl rfl (fun _ _ _ _ h => h)⟩
 | 9, _, h1, hdep, ho =>
   have hw : w = W0 := hst.world
   obtain rfl : W0 = w := hw.symm
   have g6 : a.eval (.tmp 31) = U ((rotr e 6) ^^^ (rotr e 11)) := hst.got 6 (hdep 6 (by kernel_rfl))
   have g8 : a.eval (.tmp 33) = U (rotr e 25) := hst.got 8 (hdep 8 (by kernel_rfl))
   have hr : (execOp a.eval (opAt ops176_5 9)).run Tryz.prog W0 = .ok (.value (U (((rotr e 6) ^^^ (rotr e 11)) ^^^ (rotr e 25)))) W0 := run_xor32 (show (opAt ops176_5 9).op = .binOp .xor 184 (.tmp 31) (.tmp 33) 184 from (by kernel_rfl)) g6 g8
   exact op_value ho (by kernel_rfl) hr (made_val (d := 34) (by kernel_rfl) rfl rfl (fun _ _ _ _ h => h))
 | 10, _, h1, hdep, ho =>
   have hw : w = W0 := hst.world
   obtain rfl : W0 = w := hw.symm
   have g1 : a.eval (.tmp 26) = U x7 := hst.got 1 (hdep 1 (by kernel_rfl))
   have g9 : a.eval (.tmp 34) = U (((rotr e 6) ^^^ (rotr e 11)) ^^^ (rotr e 25)) := hst.got 9 (hdep 9 (by kernel_rfl))
   have hr : (execOp a.eval (opAt ops176_5 10)).run Tryz.prog W0 = .ok (.value (U (x7 + (((rotr e 6) ^^^ (rotr e 11)) ^^^ (rotr e 25))))) W0 := run_add32 (show (opAt ops176_5 10).op = .binOp .add 184 (.tmp 26) (.tmp 34) 184 from (by kernel_rfl)) g1 g9
   exact op_value ho (by kernel_rfl) hr (made_val (d := 35) (by kernel_rfl) rfl rfl (fun _ _ _ _ h => h))
 | 11, _, h1, hdep, ho =>
   have hw : w = W0 := hst.world
   obtain rfl : W0 = w := hw.symm
   have s8 : a.eval (.tmp 8) = U e := (hst.rest 8 (by kernel_rfl)).trans hs8
   have hr : (execOp a.eval (opAt ops176_5 11)).run Tryz.prog W0 = .ok (.value (U e)) W0 := run_moved (x := .tmp 8) (by kernel_rfl) s8
   exact op_value ho (by kernel_rfl) hr (made_val (d := 36) (by kernel_rfl) rfl rfl (fun _ _ _ _ h => h))
 | 12, _, h1, hdep, ho =>
   have hw : w = W0 := hst.world
   obtain rfl : W0 = w := hw.symm
   have s4 : a.eval (.tmp 4) = .pointer (some ⟨c, 0, none⟩) := (hst.rest 4 (by kernel_rfl)).trans hs4
   have hr : (execOp a.eval (opAt ops176_5 12)).run Tryz.prog W0 = .ok (.value (.pointer (some ⟨c, 5, none⟩))) W0 := (show 0 + 5 = 5 from Nat.zero_add _) ▸ run_idx250 (n := 0) (k := 5) rfl (by decide) (show (opAt ops176_5 12).op = .indexAddr 250 (.tmp 4) (.const (.int .i64 5)) from (by kernel_rfl)) s4 rfl
   exact op_value ho (by kernel_rfl) hr (made_val (d := 37) (by kernel_rfl) rfl rfl (fun _ _ _ _ h => h))
 | 13, _, h1, hdep, ho =>
   have hw : w = W0 := hst.world
   obtain rfl : W0 = w := hw.symm
   have g12 : a.eval (.tmp 37) = .pointer (some ⟨c, 5, none⟩) := hst.got 12 (hdep 12 (by kernel_rfl))
   have hr : (execOp a.eval (opAt ops176_5 13)).run Tryz.prog W0 = .ok (.value (U x5)) W0 := run_load184 c5 (show (opAt ops176_5 13).op = .load 184 (.tmp 37) from (by kernel_rfl)) g12
   exact op_value ho (by kernel_rfl) hr (made_val (d := 38) (by kernel_rfl) rfl rfl (fun _ _ _ _ h => h))
 | 14, _, h1, hdep, ho =>
   have hw : w = W0 := hst.world
   obtain rfl : W0 = w := hw.symm
   have g11 : a.eval (.tmp 36) = U e := hst.got 11 (hdep 11 (by kernel_rfl))
   have g13 : a.eval (.tmp 38) = U x5 := hst.got 13 (hdep 13 (by kernel_rfl))
   have hr : (execOp a.eval (opAt ops176_5 14)).run Tryz.prog W0 = .ok (.value (U (e &&& x5))) W0 := run_and32 (show (opAt ops176_5 14).op = .binOp .and 184 (.tmp 36) (.tmp 38) 184 from (by kernel_rfl)) g11 g13
   exact op_value ho (by kernel_rfl) hr (made_val (d := 39) (by kernel_rfl) rfl rfl (fun _ _ _ _ h => h))
 | 15, _, h1, hdep, ho =>
   have hw : w = W0 := hst.world
   obtain rfl : W0 = w := hw.symm
   have s8 : a.eval (.tmp 8) = U e := (hst.rest 8 (by kernel_rfl)).trans hs8
   have hr : (execOp a.eval (opAt ops176_5 15)).run Tryz.prog W0 = .ok (.value (U e)) W0 := run_moved (x := .tmp 8) (by kernel_rfl) s8
   exact op_value ho (by kernel_rfl) hr (made_val (d := 40) (by kernel_rfl) rfl rfl (fun _ _ _ _ h => h))
 | 16, _, h1, hdep, ho =>
   have hw : w = W0 := hst.world
   obtain rfl : W0 = w := hw.symm
   have g15 : a.eval (.tmp 40) = U e := hst.got 15 (hdep 15 (by kernel_rfl))
   have hr : (execOp a.eval (opAt ops176_5 16)).run Tryz.prog W0 = .ok (.value (U (~~~e))) W0 := run_not32 (show (opAt ops176_5 16).op = .unOp .xor 184 (.tmp 40) from (by kernel_rfl)) g15
   exact op_value ho (by kernel_rfl) hr (made_val (d := 41) (by kernel_rfl) rfl rfl (fun _ _ _ _ h => h))
 | 17, _, h1, hdep, ho =>
   have hw : w = W0 := hst.world
   obtain rfl : W0 = w := hw.symm
   have s4 : a.eval (.tmp 4) = .pointer (some ⟨c, 0, none⟩) := (hst.rest 4 (by kernel_rfl)).trans hs4
   have hr : (execOp a.eval (opAt ops176_5 17)).run Tryz.prog W0 = .ok (.value (.pointer (some ⟨c, 6, none⟩))) W0 := (show 0 + 6 = 6 from Nat.zero_add _) ▸ run_idx250 (n := 0) (k := 6) rfl (by decide) (show (opAt ops176_5 17).op = .indexAddr 250 (.tmp 4) (.const (.int .i64 6)) from (by kernel_rfl)) s4 rfl
   exact op_value ho (by kernel_rfl) hr (made_val (d := 42) (by kernel_rfl) rfl rfl (fun _ _ _ _ h => h))
 | 18, _, h1, hdep, ho =>
   have hw : w = W0 := hst.world
   obtain rfl : W0 = w := hw.symm
   have g17 : a.eval (.tmp 42) = .pointer (some ⟨c, 6, none⟩) := hst.got 17 (hdep 17 (by kernel_rfl))
   have hr : (execOp a.eval (opAt ops176_5 18)).run Tryz.prog W0 = .ok (.value (U x6)) W0 := run_load184 c6 (show (opAt ops176_5 18).op = .load 184 (.tmp 42) from (by kernel_rfl)) g17
   exact op_value ho (by kernel_rfl) hr (made_val (d := 43) (by kernel_rfl) rfl rfl (fun _ _ _ _ h => h))
 | 19, _, h1, hdep, ho =>
   have hw : w = W0 := hst.world
   obtain rfl : W0 = w := hw.symm
   have g16 : a.eval (.tmp 41) = U (~~~e) := hst.got 16 (hdep 16 (by kernel_rfl))
   have g18 : a.eval (.tmp 43) = U x6 := hst.got 18 (hdep 18 (by kernel_rfl))
   have hr : (execOp a.eval (opAt ops176_5 19)).run Tryz.prog W0 = .ok (.value (U ((~~~e) &&& x6))) W0 := run_and32 (show (opAt ops176_5 19).op = .binOp .and 184 (.tmp 41) (.tmp 43) 184 from (by kernel_rfl)) g16 g18
   exact op_value ho (by kernel_rfl) hr (made_val (d := 44) (by kernel_rfl) rfl rfl (fun _ _ _ _ h => h))
 | 20, _, h1, hdep, ho =>
   have hw : w = W0 := hst.world
   obtain rfl : W0 = w := hw.symm
   have g14 : a.eval (.tmp 39) = U (e &&& x5) := hst.got 14 (hdep 14 (by kernel_rfl))
   have g19 : a.eval (.tmp 44) = U ((~~~e) &&& x6) := hst.got 19 (hdep 19 (by kernel_rfl))
   have hr : (execOp a.eval (opAt ops176_5 20)).run Tryz.prog W0 = .ok (.value (U ((e &&& x5) ^^^ ((~~~e) &&& x6)))) W0 := run_xor32 (show (opAt ops176_5 20).op = .binOp .xor 184 (.tmp 39) (.tmp 44) 184 from (by kernel_rfl)) g14 g19
   exact op_value ho (by kernel_rfl) hr (made_val (d := 45) (by kernel_rfl) rfl rfl (fun _ _ _ _ h => h))
 | 21, _, h1, hdep, ho =>
   have hw : w = W0 := hst.world
   obtain rfl : W0 = w := hw.symm
   have g10 : a.eval (.tmp 35) = U (x7 + (((rotr e 6) ^^^ (rotr e 11)) ^^^ (rotr e 25))) := hst.got 10 (hdep 10 (by kernel_rfl))
   have g20 : a.eval (.tmp 45) = U ((e &&& x5) ^^^ ((~~~e) &&& x6)) := hst.got 20 (hdep 20 (by kernel_rfl))
   have hr : (execOp a.eval (opAt ops176_5 21)).run Tryz.prog W0 = .ok (.value (U ((x7 + (((rotr e 6) ^^^ (rotr e 11)) ^^^ (rotr e 25))) + ((e &&& x5) ^^^ ((~~~e) &&& x6))))) W0 := run_add32 (show (opAt ops176_5 21).op = .binOp .add 184 (.tmp 35) (.tmp 45) 184 from (by kernel_rfl)) g10 g20
   exact op_value ho (by kernel_rfl) hr (made_val (d := 46) (by kernel_rfl) rfl rfl (fun _ _ _ _ h => h))
 | 22, _, h1, hdep, ho =>
   have hw : w = W0 := hst.world
   obtain rfl : W0 = w := hw.symm
   have s5 : a.eval (.tmp 5) = .int .i64 (kk : Int) := (hst.rest 5 (by kernel_rfl)).trans hs5
   have hr : (execOp a.eval (opAt ops176_5 22)).run Tryz.prog W0 = .ok (.value (.int .i64 (kk : Int))) W0 := run_moved (x := .tmp 5) (by kernel_rfl) s5
   exact op_value ho (by kernel_rfl) hr (made_val (d := 47) (by kernel_rfl) rfl rfl (fun _ _ _ _ h => h))
 | 23, _, h1, hdep, ho =>
   have hw : w = W0 := hst.world
   obtain rfl : W0 = w := hw.symm
   have g22 : a.eval (.tmp 47) = .int .i64 (kk : Int) := hst.got 22 (hdep 22 (by kernel_rfl))
   have hr : (execOp a.eval (opAt ops176_5 23)).run Tryz.prog W0 = .ok (.value (.pointer (some ⟨4, kk, none⟩))) W0 := (show 0 + kk = kk from Nat.zero_add _) ▸ run_idx186 (b := 4) (n := 0) (k := kk) rfl (by omega) (show (opAt ops176_5 23).op = .indexAddr 186 (.global 4) (.tmp 47) from (by kernel_rfl)) rfl g22
   exact op_value ho (by kernel_rfl) hr (made_val (d := 48) (by kernel_rfl) rfl rfl (fun _ _ _ _ h => h))
 | 24, _, h1, hdep, ho =>
   have hw : w = W0 := hst.world
   obtain rfl : W0 = w := hw.symm
   have g23 : a.eval (.tmp 48) = .pointer (some ⟨4, kk, none⟩) := hst.got 23 (hdep 23 (by kernel_rfl))
   have hr : (execOp a.eval (opAt ops176_5 24)).run Tryz.prog W0 = .ok (.value (U kc)) W0 := run_load184 ck (show (opAt ops176_5 24).op = .load 184 (.tmp 48) from (by kernel_rfl)) g23
   exact op_value ho (by kernel_rfl) hr (made_val (d := 49) (by kernel_rfl) rfl rfl (fun _ _ _ _ h => h))
 | 25, _, h1, hdep, ho =>
   have hw : w = W0 := hst.world
   obtain rfl : W0 = w := hw.symm
   have g21 : a.eval (.tmp 46) = U ((x7 + (((rotr e 6) ^^^ (rotr e 11)) ^^^ (rotr e 25))) + ((e &&& x5) ^^^ ((~~~e) &&& x6))) := hst.got 21 (hdep 21 (by kernel_rfl))
   have g24 : a.eval (.tmp 49) = U kc := hst.got 24 (hdep 24 (by kernel_rfl))
   have hr : (execOp a.eval (opAt ops176_5 25)).run Tryz.prog W0 = .ok (.value (U (((x7 + (((rotr e 6) ^^^ (rotr e 11)) ^^^ (rotr e 25))) + ((e &&& x5) ^^^ ((~~~e) &&& x6))) + kc))) W0 := run_add32 (show (opAt ops176_5 25).op = .binOp .add 184 (.tmp 46) (.tmp 49) 184 from (by kernel_rfl)) g21 g24
   exact op_value ho (by kernel_rfl) hr (made_val (d := 50) (by kernel_rfl) rfl rfl (fun _ _ _ _ h => h))
 | 26, _, h1, hdep, ho =>
   have hw : w = W0 := hst.world
   obtain rfl : W0 = w := hw.symm
   have s6 : a.eval (.tmp 6) = U wk := (hst.rest 6 (by kernel_rfl)).trans hs6
   have hr : (execOp a.eval (opAt ops176_5 26)).run Tryz.prog W0 = .ok (.value (U wk)) W0 := run_moved (x := .tmp 6) (by kernel_rfl) s6
   exact op_value ho (by kernel_rfl) hr (made_val (d := 51) (by kernel_rfl) rfl rfl (fun _ _ _ _ h => h))
 | 27, _, h1, hdep, ho =>
   have hw : w = W0 := hst.world
   obtain rfl : W0 = w := hw.symm
   have g25 : a.eval (.tmp 50) = U (((x7 + (((rotr e 6) ^^^ (rotr e 11)) ^^^ (rotr e 25))) + ((e &&& x5) ^^^ ((~~~e) &&& x6))) + kc) := hst.got 25 (hdep 25 (by kernel_rfl))
   have g26 : a.eval (.tmp 51) = U wk := hst.got 26 (hdep 26 (by kernel_rfl))
   have hr : (execOp a.eval (opAt ops176_5 27)).run Tryz.prog W0 = .ok (.value (U ((((x7 + (((rotr e 6) ^^^ (rotr e 11)) ^^^ (rotr e 25))) + ((e &&& x5) ^^^ ((~~~e) &&& x6))) + kc) + wk))) W0 := run_add32 (show (opAt ops176_5 27).op = .binOp .add 184 (.tmp 50) (.tmp 51) 184 from (by kernel_rfl)) g25 g26
   exact op_value ho (by kernel_rfl) hr (made_val (d := 52) (by kernel_rfl) rfl rfl (fun _ _ _ _ h => h))
 | 28, _, h1, hdep, ho =>
   have hw : w = W0 := hst.world
   obtain rfl : W0 = w := hw.symm
   have g27 : a.eval (.tmp 52) = U ((((x7 + (((rotr e 6) ^^^ (rotr e 11)) ^^^ (rotr e 25))) + ((e &&& x5) ^^^ ((~~~e) &&& x6))) + kc) + wk) := hst.got 27 (hdep 27 (by kernel_rfl))
   have hr : (execOp a.eval (opAt ops176_5 28)).run Tryz.prog W0 = .ok (.value (U ((((x7 + (((rotr e 6) ^^^ (rotr e 11)) ^^^ (rotr e 25))) + ((e &&& x5) ^^^ ((~~~e) &&& x6))) + kc) + wk))) W0 := run_moved_as (x := .tmp 52) (by kernel_rfl) g27
   exact op_value ho (by kernel_rfl) hr (made_val (d := 9) (by kernel_rfl) rfl rfl (fun _ _ _ _ h => h))
 | k + 29, hi, _, _, _ => exact absurd hi (by omega)
noncomputable def ops176_6 : Array Oper := (Tryz.f176.body.bind (inCode 6)).getD #[]
def sl176_6 : Nat → Nat
 | 0 => 53
 | 1 => 54
 | 2 => 55
 | 3 => 56
 | 4 => 57
 | 5 => 58
 | 6 => 59
 | 7 => 60
 | 8 => 61
 | 9 => 62
 | 10 => 63
 | 11 => 64
 | 12 => 65
 | 13 => 66
 | 14 => 67
 | 15 => 68
 | 16 => 69
 | 17 => 70
 | 18 => 71
 | 19 => 72
 | 20 => 73
 | 21 => 74
 | 22 => 75
 | 23 => 76
 | 24 => 10
 | _ => 0
def R176_6 (c : Nat) (x0 : BitVec 32) (x1 : BitVec 32) (x2 : BitVec 32) (x3 : BitVec 32) (x4 : BitVec 32) (x5 : BitVec 32) (x6 : BitVec 32) (x7 : BitVec 32) (a1 : BitVec 32) : Nat → Value → World → Prop
 | 0, v, _ => v = U a1
 | 1, v, _ => v = U (rotr a1 2)
 | 2, v, _ => v = U a1
 | 3, v, _ => v = U (rotr a1 13)
 | 4, v, _ => v = U ((rotr a1 2) ^^^ (rotr a1 13))
 | 5, v, _ => v = U a1
 | 6, v, _ => v = U (rotr a1 22)
 | 7, v, _ => v = U (((rotr a1 2) ^^^ (rotr a1 13)) ^^^ (rotr a1 22))
 | 8, v, _ => v = U a1
 | 9, v, _ => v = .pointer (some ⟨c, 1, none⟩)
 | 10, v, _ => v = U x1
 | 11, v, _ => v = U (a1 &&& x1)
 | 12, v, _ => v = U a1
 | 13, v, _ => v = .pointer (some ⟨c, 2, none⟩)
 | 14, v, _ => v = U x2
 | 15, v, _ => v = U (a1 &&& x2)
 | 16, v, _ => v = U ((a1 &&& x1) ^^^ (a1 &&& x2))
 | 17, v, _ => v = .pointer (some ⟨c, 1, none⟩)
 | 18, v, _ => v = U x1
 | 19, v, _ => v = .pointer (some ⟨c, 2, none⟩)
 | 20, v, _ => v = U x2
 | 21, v, _ => v = U (x1 &&& x2)
 | 22, v, _ => v = U (((a1 &&& x1) ^^^ (a1 &&& x2)) ^^^ (x1 &&& x2))
 | 23, v, _ => v = U ((((rotr a1 2) ^^^ (rotr a1 13)) ^^^ (rotr a1 22)) + (((a1 &&& x1) ^^^ (a1 &&& x2)) ^^^ (x1 &&& x2)))
 | 24, v, _ => v = U ((((rotr a1 2) ^^^ (rotr a1 13)) ^^^ (rotr a1 22)) + (((a1 &&& x1) ^^^ (a1 &&& x2)) ^^^ (x1 &&& x2)))
 | _, _, _ => True
def J176_6 (W0 : World) (c : Nat) (x0 : BitVec 32) (x1 : BitVec 32) (x2 : BitVec 32) (x3 : BitVec 32) (x4 : BitVec 32) (x5 : BitVec 32) (x6 : BitVec 32) (x7 : BitVec 32) (a1 : BitVec 32) (L : Array Bool) (w : World) : Prop := w = W0
set_option maxHeartbeats 3200000 in
theorem reg176_6 {ops : Array Oper} (ho : ops = ops176_6) {Q : Exit → Act → World → Prop} {a0 : Act} {w0 W0 : World} (hW : w0.drew = W0) {c : Nat} {x0 : BitVec 32} {x1 : BitVec 32} {x2 : BitVec 32} {x3 : BitVec 32} {x4 : BitVec 32} {x5 : BitVec 32} {x6 : BitVec 32} {x7 : BitVec 32} {a1 : BitVec 32} (c0 : W0.cell? ⟨c, 0, none⟩ = some (U x0)) (c1 : W0.cell? ⟨c, 1, none⟩ = some (U x1)) (c2 : W0.cell? ⟨c, 2, none⟩ = some (U x2)) (c3 : W0.cell? ⟨c, 3, none⟩ = some (U x3)) (c4 : W0.cell? ⟨c, 4, none⟩ = some (U x4)) (c5 : W0.cell? ⟨c, 5, none⟩ = some (U x5)) (c6 : W0.cell? ⟨c, 6, none⟩ = some (U x6)) (c7 : W0.cell? ⟨c, 7, none⟩ = some (U x7)) (hs4 : a0.eval (.tmp 4) = .pointer (some ⟨c, 0, none⟩)) (hs7 : a0.eval (.tmp 7) = U a1) (hsz : a0.tmps.size = 105)
  (HK : ∀ a, a.defers = a0.defers → a.tmps.size = 105 → (∀ s, freeB ops176_6 s = true → a.eval (.tmp s) = a0.eval (.tmp s)) → (∀ i, i < 25 → R176_6 c x0 x1 x2 x3 x4 x5 x6 x7 a1 i (a.eval (.tmp (sl176_6 i))) (W0)) → Q .normal a (W0)) : (Code.region 6 ops true).wp Tryz.prog Q a0 w0 := by
 subst ho
 refine region_made (n := 25) (sl := sl176_6) (J := J176_6 W0 c x0 x1 x2 x3 x4 x5 x6 x7 a1) (R := R176_6 c x0 x1 x2 x3 x4 x5 x6 x7 a1) (by kernel_rfl) (by kernel_rfl) (by kernel_rfl) (by rw [hsz]; kernel_rfl) ?_ (show _ = _ from hW) (fun L a w hall hf => ?_)
 rotate_left
 ·obtain rfl : w = W0 := hf.world
  exact HK a hf.defers (hf.size.trans hsz) hf.rest (fun i hi => hf.got i (hall i hi))
 intro i hi L a w hs h1 hdep hd hst ho
 clear HK
 match i, hi, h1, hdep, ho with
 | 0, _, h1, hdep, ho =>
   have hw : w = W0 := hst.world
   obtain rfl : W0 = w := hw.symm
   have s7 : a.eval (.tmp 7) = U a1 := (hst.rest 7 (by kernel_rfl)).trans hs7
   have hr : (execOp a.eval (opAt ops176_6 0)).run Tryz.prog W0 = .ok (.value (U a1)) W0 := run_moved (x := .tmp 7) (by kernel_rfl) s7
   exact op_value ho (by kernel_rfl) hr (made_val (d := 53) (by kernel_rfl) rfl rfl (fun _ _ _ _ h => h))
 | 1, _, h1, hdep, ho =>
   have hw : w = W0 := hst.world
   obtain rfl : W0 = w := hw.symm
   have g0 : a.eval (.tmp 53) = U a1 := hst.got 0 (hdep 0 (by kernel_rfl))
   have hr : (execOp a.eval (opAt ops176_6 1)).run Tryz.prog W0 = .ok (.enter 198 #[U a1, .int .i64 2]) W0 := by
    clear hst hdep hd h1 hs ho
    have hk : ∀ f, a.eval (.func f) = .func (.func f) #[] #[] := fun _ => rfl
    have hc : ∀ v, a.eval (.const v) = v := fun _ => rfl
    generalize a.eval = ρ at g0 hk hc ⊢
    unfold execOp; rw [show (opAt ops176_6 1).op = .call { callee := .value (.func 198), args := #[.tmp 53, .const (.int .i64 2)], argTypes := #[184, 3] } from (by kernel_rfl)]; simp only [g0, hk, hc]
    go_simp
   refine op_call ho (by kernel_rfl) hr ((turn_2 a1 W0).mono ?_)
   rintro e w'' ⟨rfl, rfl⟩
   exact ⟨_, rfl, made_val (d := 54) (by kernel_rfl) rfl rfl (fun _ _ _ _ h => h)⟩
 | 2, _, h1, hdep, ho =>
   have hw : w = W0 := hst.world
   obtain rfl : W0 = w := hw.symm
   have s7 : a.eval (.tmp 7) = U a1 := (hst.rest 7 (by kernel_rfl)).trans hs7
   have hr : (execOp a.eval (opAt ops176_6 2)).run Tryz.prog W0 = .ok (.value (U a1)) W0 := run_moved (x := .tmp 7) (by kernel_rfl) s7
   exact op_value ho (by kernel_rfl) hr (made_val (d := 55) (by kernel_rfl) rfl rfl (fun _ _ _ _ h => h))
 | 3, _, h1, hdep, ho =>
   have hw : w = W0 := hst.world
   obtain rfl : W0 = w := hw.symm
   have g2 : a.eval (.tmp 55) = U a1 := hst.got 2 (hdep 2 (by kernel_rfl))
   have hr : (execOp a.eval (opAt ops176_6 3)).run Tryz.prog W0 = .ok (.enter 198 #[U a1, .int .i64 13]) W0 := by
    clear hst hdep hd h1 hs ho
    have hk : ∀ f, a.eval (.func f) = .func (.func f) #[] #[] := fun _ => rfl
    have hc : ∀ v, a.eval (.const v) = v := fun _ => rfl
    generalize a.eval = ρ at g2 hk hc ⊢
    unfold execOp; rw [show (opAt ops176_6 3).op = .call { callee := .value (.func 198), args := #[.tmp 55, .const (.int .i64 13)], argTypes := #[184, 3] } from (by kernel_rfl)]; simp only [g2, hk, hc]
    go_simp
   refine op_call ho (by kernel_rfl) hr ((turn_13 a1 W0).mono ?_)
   rintro e w'' ⟨rfl, rfl⟩
   exact ⟨_, rfl, made_val (d := 56) (by kernel_rfl) rfl rfl (fun _ _ _ _ h => h)⟩
 | 4, _, h1, hdep, ho =>
   have hw : w = W0 := hst.world
   obtain rfl : W0 = w := hw.symm
   have g1 : a.eval (.tmp 54) = U (rotr a1 2) := hst.got 1 (hdep 1 (by kernel_rfl))
   have g3 : a.eval (.tmp 56) = U (rotr a1 13) := hst.got 3 (hdep 3 (by kernel_rfl))
   have hr : (execOp a.eval (opAt ops176_6 4)).run Tryz.prog W0 = .ok (.value (U ((rotr a1 2) ^^^ (rotr a1 13)))) W0 := run_xor32 (show (opAt ops176_6 4).op = .binOp .xor 184 (.tmp 54) (.tmp 56) 184 from (by kernel_rfl)) g1 g3
   exact op_value ho (by kernel_rfl) hr (made_val (d := 57) (by kernel_rfl) rfl rfl (fun _ _ _ _ h => h))
 | 5, _, h1, hdep, ho =>
   have hw : w = W0 := hst.world
   obtain rfl : W0 = w := hw.symm
   have s7 : a.eval (.tmp 7) = U a1 := (hst.rest 7 (by kernel_rfl)).trans hs7
   have hr : (execOp a.eval (opAt ops176_6 5)).run Tryz.prog W0 = .ok (.value (U a1)) W0 := run_moved (x := .tmp 7) (by kernel_rfl) s7
   exact op_value ho (by kernel_rfl) hr (made_val (d := 58) (by kernel_rfl) rfl rfl (fun _ _ _ _ h => h))
 | 6, _, h1, hdep, ho =>
   have hw : w = W0 := hst.world
   obtain rfl : W0 = w := hw.symm
   have g5 : a.eval (.tmp 58) = U a1 := hst.got 5 (hdep 5 (by kernel_rfl))
   have hr : (execOp a.eval (opAt ops176_6 6)).run Tryz.prog W0 = .ok (.enter 198 #[U a1, .int .i64 22]) W0 := by
    clear hst hdep hd h1 hs ho
    have hk : ∀ f, a.eval (.func f) = .func (.func f) #[] #[] := fun _ => rfl
    have hc : ∀ v, a.eval (.const v) = v := fun _ => rfl
    generalize a.eval = ρ at g5 hk hc ⊢
    unfold execOp; rw [show (opAt ops176_6 6).op = .call { callee := .value (.func 198), args := #[.tmp 58, .const (.int .i64 22)], argTypes := #[184, 3] } from (by kernel_rfl)]; simp only [g5, hk, hc]
    go_simp
   refine op_call ho (by kernel_rfl) hr ((turn_22 a1 W0).mono ?_)
   rintro e w'' ⟨rfl, rfl⟩
   exact ⟨_, rfl, made_val (d := 59) (by kernel_rfl) rfl rfl (fun _ _ _ _ h => h)⟩
 | 7, _, h1, hdep, ho =>
   have hw : w = W0 := hst.world
   obtain rfl : W0 = w := hw.symm
   have g4 : a.eval (.tmp 57) = U ((rotr a1 2) ^^^ (rotr a1 13)) := hst.got 4 (hdep 4 (by kernel_rfl))
   have g6 : a.eval (.tmp 59) = U (rotr a1 22) := hst.got 6 (hdep 6 (by kernel_rfl))
   have hr : (execOp a.eval (opAt ops176_6 7)).run Tryz.prog W0 = .ok (.value (U (((rotr a1 2) ^^^ (rotr a1 13)) ^^^ (rotr a1 22)))) W0 := run_xor32 (show (opAt ops176_6 7).op = .binOp .xor 184 (.tmp 57) (.tmp 59) 184 from (by kernel_rfl)) g4 g6
   exact op_value ho (by kernel_rfl) hr (made_val (d := 60) (by kernel_rfl) rfl rfl (fun _ _ _ _ h => h))
 | 8, _, h1, hdep, ho =>
   have hw : w = W0 := hst.world
   obtain rfl : W0 = w := hw.symm
   have s7 : a.eval (.tmp 7) = U a1 := (hst.rest 7 (by kernel_rfl)).trans hs7
   have hr : (execOp a.eval (opAt ops176_6 8)).run Tryz.prog W0 = .ok (.value (U a1)) W0 := run_moved (x := .tmp 7) (by kernel_rfl) s7
   exact op_value ho (by kernel_rfl) hr (made_val (d := 61) (by kernel_rfl) rfl rfl (fun _ _ _ _ h => h))
 | 9, _, h1, hdep, ho =>
   have hw : w = W0 := hst.world
   obtain rfl : W0 = w := hw.symm
   have s4 : a.eval (.tmp 4) = .pointer (some ⟨c, 0, none⟩) := (hst.rest 4 (by kernel_rfl)).trans hs4
   have hr : (execOp a.eval (opAt ops176_6 9)).run Tryz.prog W0 = .ok (.value (.pointer (some ⟨c, 1, none⟩))) W0 := (show 0 + 1 = 1 from Nat.zero_add _) ▸ run_idx250 (n := 0) (k := 1) rfl (by decide) (show (opAt ops176_6 9).op = .indexAddr 250 (.tmp 4) (.const (.int .i64 1)) from (by kernel_rfl)) s4 rfl
   exact op_value ho (by kernel_rfl) hr (made_val (d := 62) (by kernel_rfl) rfl rfl (fun _ _ _ _ h => h))
 | 10, _, h1, hdep, ho =>
   have hw : w = W0 := hst.world
   obtain rfl : W0 = w := hw.symm
   have g9 : a.eval (.tmp 62) = .pointer (some ⟨c, 1, none⟩) := hst.got 9 (hdep 9 (by kernel_rfl))
   have hr : (execOp a.eval (opAt ops176_6 10)).run Tryz.prog W0 = .ok (.value (U x1)) W0 := run_load184 c1 (show (opAt ops176_6 10).op = .load 184 (.tmp 62) from (by kernel_rfl)) g9
   exact op_value ho (by kernel_rfl) hr (made_val (d := 63) (by kernel_rfl) rfl rfl (fun _ _ _ _ h => h))
 | 11, _, h1, hdep, ho =>
   have hw : w = W0 := hst.world
   obtain rfl : W0 = w := hw.symm
   have g8 : a.eval (.tmp 61) = U a1 := hst.got 8 (hdep 8 (by kernel_rfl))
   have g10 : a.eval (.tmp 63) = U x1 := hst.got 10 (hdep 10 (by kernel_rfl))
   have hr : (execOp a.eval (opAt ops176_6 11)).run Tryz.prog W0 = .ok (.value (U (a1 &&& x1))) W0 := run_and32 (show (opAt ops176_6 11).op = .binOp .and 184 (.tmp 61) (.tmp 63) 184 from (by kernel_rfl)) g8 g10
   exact op_value ho (by kernel_rfl) hr (made_val (d := 64) (by kernel_rfl) rfl rfl (fun _ _ _ _ h => h))
 | 12, _, h1, hdep, ho =>
   have hw : w = W0 := hst.world
   obtain rfl : W0 = w := hw.symm
   have s7 : a.eval (.tmp 7) = U a1 := (hst.rest 7 (by kernel_rfl)).trans hs7
   have hr : (execOp a.eval (opAt ops176_6 12)).run Tryz.prog W0 = .ok (.value (U a1)) W0 := run_moved (x := .tmp 7) (by kernel_rfl) s7
   exact op_value ho (by kernel_rfl) hr (made_val (d := 65) (by kernel_rfl) rfl rfl (fun _ _ _ _ h => h))
 | 13, _, h1, hdep, ho =>
   have hw : w = W0 := hst.world
   obtain rfl : W0 = w := hw.symm
   have s4 : a.eval (.tmp 4) = .pointer (some ⟨c, 0, none⟩) := (hst.rest 4 (by kernel_rfl)).trans hs4
   have hr : (execOp a.eval (opAt ops176_6 13)).run Tryz.prog W0 = .ok (.value (.pointer (some ⟨c, 2, none⟩))) W0 := (show 0 + 2 = 2 from Nat.zero_add _) ▸ run_idx250 (n := 0) (k := 2) rfl (by decide) (show (opAt ops176_6 13).op = .indexAddr 250 (.tmp 4) (.const (.int .i64 2)) from (by kernel_rfl)) s4 rfl
   exact op_value ho (by kernel_rfl) hr (made_val (d := 66) (by kernel_rfl) rfl rfl (fun _ _ _ _ h => h))
 | 14, _, h1, hdep, ho =>
   have hw : w = W0 := hst.world
   obtain rfl : W0 = w := hw.symm
   have g13 : a.eval (.tmp 66) = .pointer (some ⟨c, 2, none⟩) := hst.got 13 (hdep 13 (by kernel_rfl))
   have hr : (execOp a.eval (opAt ops176_6 14)).run Tryz.prog W0 = .ok (.value (U x2)) W0 := run_load184 c2 (show (opAt ops176_6 14).op = .load 184 (.tmp 66) from (by kernel_rfl)) g13
   exact op_value ho (by kernel_rfl) hr (made_val (d := 67) (by kernel_rfl) rfl rfl (fun _ _ _ _ h => h))
 | 15, _, h1, hdep, ho =>
   have hw : w = W0 := hst.world
   obtain rfl : W0 = w := hw.symm
   have g12 : a.eval (.tmp 65) = U a1 := hst.got 12 (hdep 12 (by kernel_rfl))
   have g14 : a.eval (.tmp 67) = U x2 := hst.got 14 (hdep 14 (by kernel_rfl))
   have hr : (execOp a.eval (opAt ops176_6 15)).run Tryz.prog W0 = .ok (.value (U (a1 &&& x2))) W0 := run_and32 (show (opAt ops176_6 15).op = .binOp .and 184 (.tmp 65) (.tmp 67) 184 from (by kernel_rfl)) g12 g14
   exact op_value ho (by kernel_rfl) hr (made_val (d := 68) (by kernel_rfl) rfl rfl (fun _ _ _ _ h => h))
 | 16, _, h1, hdep, ho =>
   have hw : w = W0 := hst.world
   obtain rfl : W0 = w := hw.symm
   have g11 : a.eval (.tmp 64) = U (a1 &&& x1) := hst.got 11 (hdep 11 (by kernel_rfl))
   have g15 : a.eval (.tmp 68) = U (a1 &&& x2) := hst.got 15 (hdep 15 (by kernel_rfl))
   have hr : (execOp a.eval (opAt ops176_6 16)).run Tryz.prog W0 = .ok (.value (U ((a1 &&& x1) ^^^ (a1 &&& x2)))) W0 := run_xor32 (show (opAt ops176_6 16).op = .binOp .xor 184 (.tmp 64) (.tmp 68) 184 from (by kernel_rfl)) g11 g15
   exact op_value ho (by kernel_rfl) hr (made_val (d := 69) (by kernel_rfl) rfl rfl (fun _ _ _ _ h => h))
 | 17, _, h1, hdep, ho =>
   have hw : w = W0 := hst.world
   obtain rfl : W0 = w := hw.symm
   have s4 : a.eval (.tmp 4) = .pointer (some ⟨c, 0, none⟩) := (hst.rest 4 (by kernel_rfl)).trans hs4
   have hr : (execOp a.eval (opAt ops176_6 17)).run Tryz.prog W0 = .ok (.value (.pointer (some ⟨c, 1, none⟩))) W0 := (show 0 + 1 = 1 from Nat.zero_add _) ▸ run_idx250 (n := 0) (k := 1) rfl (by decide) (show (opAt ops176_6 17).op = .indexAddr 250 (.tmp 4) (.const (.int .i64 1)) from (by kernel_rfl)) s4 rfl
   exact op_value ho (by kernel_rfl) hr (made_val (d := 70) (by kernel_rfl) rfl rfl (fun _ _ _ _ h => h))
 | 18, _, h1, hdep, ho =>
   have hw : w = W0 := hst.world
   obtain rfl : W0 = w := hw.symm
   have g17 : a.eval (.tmp 70) = .pointer (some ⟨c, 1, none⟩) := hst.got 17 (hdep 17 (by kernel_rfl))
   have hr : (execOp a.eval (opAt ops176_6 18)).run Tryz.prog W0 = .ok (.value (U x1)) W0 := run_load184 c1 (show (opAt ops176_6 18).op = .load 184 (.tmp 70) from (by kernel_rfl)) g17
   exact op_value ho (by kernel_rfl) hr (made_val (d := 71) (by kernel_rfl) rfl rfl (fun _ _ _ _ h => h))
 | 19, _, h1, hdep, ho =>
   have hw : w = W0 := hst.world
   obtain rfl : W0 = w := hw.symm
   have s4 : a.eval (.tmp 4) = .pointer (some ⟨c, 0, none⟩) := (hst.rest 4 (by kernel_rfl)).trans hs4
   have hr : (execOp a.eval (opAt ops176_6 19)).run Tryz.prog W0 = .ok (.value (.pointer (some ⟨c, 2, none⟩))) W0 := (show 0 + 2 = 2 from Nat.zero_add _) ▸ run_idx250 (n := 0) (k := 2) rfl (by decide) (show (opAt ops176_6 19).op = .indexAddr 250 (.tmp 4) (.const (.int .i64 2)) from (by kernel_rfl)) s4 rfl
   exact op_value ho (by kernel_rfl) hr (made_val (d := 72) (by kernel_rfl) rfl rfl (fun _ _ _ _ h => h))
 | 20, _, h1, hdep, ho =>
   have hw : w = W0 := hst.world
   obtain rfl : W0 = w := hw.symm
   have g19 : a.eval (.tmp 72) = .pointer (some ⟨c, 2, none⟩) := hst.got 19 (hdep 19 (by kernel_rfl))
   have hr : (execOp a.eval (opAt ops176_6 20)).run Tryz.prog W0 = .ok (.value (U x2)) W0 := run_load184 c2 (show (opAt ops176_6 20).op = .load 184 (.tmp 72) from (by kernel_rfl)) g19
   exact op_value ho (by kernel_rfl) hr (made_val (d := 73) (by kernel_rfl) rfl rfl (fun _ _ _ _ h => h))
 | 21, _, h1, hdep, ho =>
   have hw : w = W0 := hst.world
   obtain rfl : W0 = w := hw.symm
   have g18 : a.eval (.tmp 71) = U x1 := hst.got 18 (hdep 18 (by kernel_rfl))
   have g20 : a.eval (.tmp 73) = U x2 := hst.got 20 (hdep 20 (by kernel_rfl))
   have hr : (execOp a.eval (opAt ops176_6 21)).run Tryz.prog W0 = .ok (.value (U (x1 &&& x2))) W0 := run_and32 (show (opAt ops176_6 21).op = .binOp .and 184 (.tmp 71) (.tmp 73) 184 from (by kernel_rfl)) g18 g20
   exact op_value ho (by kernel_rfl) hr (made_val (d := 74) (by kernel_rfl) rfl rfl (fun _ _ _ _ h => h))
 | 22, _, h1, hdep, ho =>
   have hw : w = W0 := hst.world
   obtain rfl : W0 = w := hw.symm
   have g16 : a.eval (.tmp 69) = U ((a1 &&& x1) ^^^ (a1 &&& x2)) := hst.got 16 (hdep 16 (by kernel_rfl))
   have g21 : a.eval (.tmp 74) = U (x1 &&& x2) := hst.got 21 (hdep 21 (by kernel_rfl))
   have hr : (execOp a.eval (opAt ops176_6 22)).run Tryz.prog W0 = .ok (.value (U (((a1 &&& x1) ^^^ (a1 &&& x2)) ^^^ (x1 &&& x2)))) W0 := run_xor32 (show (opAt ops176_6 22).op = .binOp .xor 184 (.tmp 69) (.tmp 74) 184 from (by kernel_rfl)) g16 g21
   exact op_value ho (by kernel_rfl) hr (made_val (d := 75) (by kernel_rfl) rfl rfl (fun _ _ _ _ h => h))
 | 23, _, h1, hdep, ho =>
   have hw : w = W0 := hst.world
   obtain rfl : W0 = w := hw.symm
   have g7 : a.eval (.tmp 60) = U (((rotr a1 2) ^^^ (rotr a1 13)) ^^^ (rotr a1 22)) := hst.got 7 (hdep 7 (by kernel_rfl))
   have g22 : a.eval (.tmp 75) = U (((a1 &&& x1) ^^^ (a1 &&& x2)) ^^^ (x1 &&& x2)) := hst.got 22 (hdep 22 (by kernel_rfl))
   have hr : (execOp a.eval (opAt ops176_6 23)).run Tryz.prog W0 = .ok (.value (U ((((rotr a1 2) ^^^ (rotr a1 13)) ^^^ (rotr a1 22)) + (((a1 &&& x1) ^^^ (a1 &&& x2)) ^^^ (x1 &&& x2))))) W0 := run_add32 (show (opAt ops176_6 23).op = .binOp .add 184 (.tmp 60) (.tmp 75) 184 from (by kernel_rfl)) g7 g22
   exact op_value ho (by kernel_rfl) hr (made_val (d := 76) (by kernel_rfl) rfl rfl (fun _ _ _ _ h => h))
 | 24, _, h1, hdep, ho =>
   have hw : w = W0 := hst.world
   obtain rfl : W0 = w := hw.symm
   have g23 : a.eval (.tmp 76) = U ((((rotr a1 2) ^^^ (rotr a1 13)) ^^^ (rotr a1 22)) + (((a1 &&& x1) ^^^ (a1 &&& x2)) ^^^ (x1 &&& x2))) := hst.got 23 (hdep 23 (by kernel_rfl))
   have hr : (execOp a.eval (opAt ops176_6 24)).run Tryz.prog W0 = .ok (.value (U ((((rotr a1 2) ^^^ (rotr a1 13)) ^^^ (rotr a1 22)) + (((a1 &&& x1) ^^^ (a1 &&& x2)) ^^^ (x1 &&& x2))))) W0 := run_moved_as (x := .tmp 76) (by kernel_rfl) g23
   exact op_value ho (by kernel_rfl) hr (made_val (d := 10) (by kernel_rfl) rfl rfl (fun _ _ _ _ h => h))
 | k + 25, hi, _, _, _ => exact absurd hi (by omega)
theorem hsrc (w : World) (c : Nat) (v0 v1 v2 v3 v4 v5 v6 : Value) (c0 : w.cell? ⟨c, 0, none⟩ = some v0) (c1 : w.cell? ⟨c, 1, none⟩ = some v1) (c2 : w.cell? ⟨c, 2, none⟩ = some v2) (c3 : w.cell? ⟨c, 3, none⟩ = some v3) (c4 : w.cell? ⟨c, 4, none⟩ = some v4) (c5 : w.cell? ⟨c, 5, none⟩ = some v5) (c6 : w.cell? ⟨c, 6, none⟩ = some v6) : ∀ j v, [v0, v1, v2, v3, v4, v5, v6][j]? = some v → w.cell? ((⟨c, 0, none⟩ : Addr).add j) = some v := by
 intro j v hj
 rw [Addr.add_mid, Nat.zero_add]
 match j, hj with
 | 0, h => cases h; exact c0
 | 1, h => cases h; exact c1
 | 2, h => cases h; exact c2
 | 3, h => cases h; exact c3
 | 4, h => cases h; exact c4
 | 5, h => cases h; exact c5
 | 6, h => cases h; exact c6
 | k + 7, h => simp at h
theorem hthere (w : World) (c : Nat) (v1 v2 v3 v4 v5 v6 v7 : Value) (c1 : w.cell? ⟨c, 1, none⟩ = some v1) (c2 : w.cell? ⟨c, 2, none⟩ = some v2) (c3 : w.cell? ⟨c, 3, none⟩ = some v3) (c4 : w.cell? ⟨c, 4, none⟩ = some v4) (c5 : w.cell? ⟨c, 5, none⟩ = some v5) (c6 : w.cell? ⟨c, 6, none⟩ = some v6) (c7 : w.cell? ⟨c, 7, none⟩ = some v7) {n : Nat} (hn : n = 7) : ∀ j, j < n → (w.cell? ⟨c, 1 + j, none⟩).isSome = true := by
 intro j hj
 subst hn
 match j, hj with
 | 0, _ => rw [c1]; rfl
 | 1, _ => rw [c2]; rfl
 | 2, _ => rw [c3]; rfl
 | 3, _ => rw [c4]; rfl
 | 4, _ => rw [c5]; rfl
 | 5, _ => rw [c6]; rfl
 | 6, _ => rw [c7]; rfl
 | k + 7, h => omega
theorem ones7 (x0 x1 x2 x3 x4 x5 x6 : BitVec 32) : ∀ v ∈ [U x0, U x1, U x2, U x3, U x4, U x5, U x6], v.oneCell' = true := by
 intro v hv
 simp only [List.mem_cons, List.not_mem_nil, or_false] at hv
 rcases hv with rfl | rfl | rfl | rfl | rfl | rfl | rfl <;> rfl
noncomputable def ops176_7 : Array Oper := (Tryz.f176.body.bind (inCode 7)).getD #[]
def sl176_7 : Nat → Nat
 | 0 => 77
 | 1 => 78
 | 2 => 79
 | _ => 0
def R176_7 (c : Nat) (x0 : BitVec 32) (x1 : BitVec 32) (x2 : BitVec 32) (x3 : BitVec 32) (x4 : BitVec 32) (x5 : BitVec 32) (x6 : BitVec 32) (x7 : BitVec 32) : Nat → Value → World → Prop
 | 0, v, _ => v = .slice (some ⟨c, 1, none⟩) 7 7
 | 1, v, _ => v = .slice (some ⟨c, 0, none⟩) 7 8
 | 2, v, _ => v = .int .i64 7
 | _, _, _ => True
def J176_7 (W0 : World) (c : Nat) (x0 : BitVec 32) (x1 : BitVec 32) (x2 : BitVec 32) (x3 : BitVec 32) (x4 : BitVec 32) (x5 : BitVec 32) (x6 : BitVec 32) (x7 : BitVec 32) (L : Array Bool) (w : World) : Prop := (L.getD 2 false = false → w = W0) ∧ (L.getD 2 false = true → w = W0.setCells c 1 [U x0, U x1, U x2, U x3, U x4, U x5, U x6])
theorem J176_7_any {W0 : World} {c : Nat} {x0 : BitVec 32} {x1 : BitVec 32} {x2 : BitVec 32} {x3 : BitVec 32} {x4 : BitVec 32} {x5 : BitVec 32} {x6 : BitVec 32} {x7 : BitVec 32} {L : Array Bool} {w : World} (i : Nat) (hi : i ≠ 2) (h : J176_7 W0 c x0 x1 x2 x3 x4 x5 x6 x7 L w) : J176_7 W0 c x0 x1 x2 x3 x4 x5 x6 x7 (L.setIfInBounds i true) w := by
 obtain ⟨h0, h1⟩ := h
 exact ⟨fun h => h0 (unset h), fun h => h1 (set_ne (by omega) h)⟩
set_option maxHeartbeats 3200000 in
theorem reg176_7 {ops : Array Oper} (ho : ops = ops176_7) {Q : Exit → Act → World → Prop} {a0 : Act} {w0 W0 : World} (hW : w0.drew = W0) {c : Nat} {x0 : BitVec 32} {x1 : BitVec 32} {x2 : BitVec 32} {x3 : BitVec 32} {x4 : BitVec 32} {x5 : BitVec 32} {x6 : BitVec 32} {x7 : BitVec 32} (c0 : W0.cell? ⟨c, 0, none⟩ = some (U x0)) (c1 : W0.cell? ⟨c, 1, none⟩ = some (U x1)) (c2 : W0.cell? ⟨c, 2, none⟩ = some (U x2)) (c3 : W0.cell? ⟨c, 3, none⟩ = some (U x3)) (c4 : W0.cell? ⟨c, 4, none⟩ = some (U x4)) (c5 : W0.cell? ⟨c, 5, none⟩ = some (U x5)) (c6 : W0.cell? ⟨c, 6, none⟩ = some (U x6)) (c7 : W0.cell? ⟨c, 7, none⟩ = some (U x7)) (hf : ∀ o, W0.frozen? ⟨c, o, none⟩ = false) (hs4 : a0.eval (.tmp 4) = .pointer (some ⟨c, 0, none⟩)) (hsz : a0.tmps.size = 105)
  (HK : ∀ a, a.defers = a0.defers → a.tmps.size = 105 → (∀ s, freeB ops176_7 s = true → a.eval (.tmp s) = a0.eval (.tmp s)) → (∀ i, i < 3 → R176_7 c x0 x1 x2 x3 x4 x5 x6 x7 i (a.eval (.tmp (sl176_7 i))) (W0.setCells c 1 [U x0, U x1, U x2, U x3, U x4, U x5, U x6])) → Q .normal a (W0.setCells c 1 [U x0, U x1, U x2, U x3, U x4, U x5, U x6])) : (Code.region 7 ops true).wp Tryz.prog Q a0 w0 := by
 subst ho
 refine region_made (n := 3) (sl := sl176_7) (J := J176_7 W0 c x0 x1 x2 x3 x4 x5 x6 x7) (R := R176_7 c x0 x1 x2 x3 x4 x5 x6 x7) (by kernel_rfl) (by kernel_rfl) (by kernel_rfl) (by rw [hsz]; kernel_rfl) ?_ (by rw [hW]; exact ⟨fun _ => rfl, fun h => by simp [Array.getD] at h⟩) (fun L a w hall hf => ?_)
 rotate_left
 ·have hw1 : w = W0.setCells c 1 [U x0, U x1, U x2, U x3, U x4, U x5, U x6] := hf.world.2 (hall 2 (by decide))
  subst w
  exact HK a hf.defers (hf.size.trans hsz) hf.rest (fun i hi => hf.got i (hall i hi))
 intro i hi L a w hs h1 hdep hd hst ho
 clear HK
 match i, hi, h1, hdep, ho with
 | 0, _, h1, hdep, ho =>
   have JJ := J176_7_any 0 (by decide) hst.world
   have s4 : a.eval (.tmp 4) = .pointer (some ⟨c, 0, none⟩) := (hst.rest 4 (by kernel_rfl)).trans hs4
   have hr : (execOp a.eval (opAt ops176_7 0)).run Tryz.prog w = .ok (.value (.slice (some ⟨c, 1, none⟩) 7 7)) w := run_slice_lo (b := c) (n := 0) (show (opAt ops176_7 0).op = .slice 250 (.tmp 4) (some (.const (.int .i64 1))) none none from (by kernel_rfl)) s4 rfl
   exact op_value ho (by kernel_rfl) hr (made_val (d := 77) (by kernel_rfl) rfl JJ (fun _ _ _ _ h => h))
 | 1, _, h1, hdep, ho =>
   have JJ := J176_7_any 1 (by decide) hst.world
   have s4 : a.eval (.tmp 4) = .pointer (some ⟨c, 0, none⟩) := (hst.rest 4 (by kernel_rfl)).trans hs4
   have hr : (execOp a.eval (opAt ops176_7 1)).run Tryz.prog w = .ok (.value (.slice (some ⟨c, 0, none⟩) 7 8)) w := run_slice_hi (b := c) (n := 0) (show (opAt ops176_7 1).op = .slice 250 (.tmp 4) none (some (.const (.int .i64 7))) none from (by kernel_rfl)) s4 rfl
   exact op_value ho (by kernel_rfl) hr (made_val (d := 78) (by kernel_rfl) rfl JJ (fun _ _ _ _ h => h))
 | 2, _, h1, hdep, ho =>
   have hw : w = W0 := hst.world.1 (unl h1)
   obtain rfl : W0 = w := hw.symm
   have g0 : a.eval (.tmp 77) = .slice (some ⟨c, 1, none⟩) 7 7 := hst.got 0 (hdep 0 (by kernel_rfl))
   have g1 : a.eval (.tmp 78) = .slice (some ⟨c, 0, none⟩) 7 8 := hst.got 1 (hdep 1 (by kernel_rfl))
   have hr : (execOp a.eval (opAt ops176_7 2)).run Tryz.prog (W0) = .ok (.value (.int .i64 7)) (W0.setCells c 1 [U x0, U x1, U x2, U x3, U x4, U x5, U x6]) := run_copy189 (b := c) (n := 1) (m := 0) (cs := [U x0, U x1, U x2, U x3, U x4, U x5, U x6]) rfl (hsrc W0 c _ _ _ _ _ _ _ c0 c1 c2 c3 c4 c5 c6) (hthere W0 c _ _ _ _ _ _ _ c1 c2 c3 c4 c5 c6 c7 rfl) (fun j _ => hf _) (ones7 _ _ _ _ _ _ _) (show (opAt ops176_7 2).op = .call { callee := .builtin .copy, args := #[.tmp 77, .tmp 78], argTypes := #[189, 189] } from (by kernel_rfl)) g0 g1
   refine op_value ho (by kernel_rfl) hr (made_val (d := 79) (by kernel_rfl) rfl ⟨fun h => by (rw [set_same (by rw [hs]; decide)] at h; cases h), fun _ => rfl⟩ (fun j _ _ u h => ?_))
   match j, h with
   | 0, h => exact (show _ = _ from h)
   | 1, h => exact (show _ = _ from h)
   | 2, h => exact (show _ = _ from h)
   | _ + 3, _ => exact trivial
 | k + 3, hi, _, _, _ => exact absurd hi (by omega)
noncomputable def ops176_8 : Array Oper := (Tryz.f176.body.bind (inCode 8)).getD #[]
def sl176_8 : Nat → Nat
 | 0 => 80
 | 1 => 81
 | 2 => 82
 | 3 => 83
 | 4 => 84
 | 5 => 85
 | 6 => 86
 | 7 => 87
 | 8 => 1000001
 | 9 => 88
 | 10 => 1000001
 | _ => 0
def R176_8 (c : Nat) (y4 : BitVec 32) (t1 : BitVec 32) (u1 : BitVec 32) (v0 : Value) : Nat → Value → World → Prop
 | 0, v, _ => v = U t1
 | 1, v, _ => v = U u1
 | 2, v, _ => v = U (t1 + u1)
 | 3, v, _ => v = .pointer (some ⟨c, 4, none⟩)
 | 4, v, _ => v = U y4
 | 5, v, _ => v = U t1
 | 6, v, _ => v = U (y4 + t1)
 | 7, v, _ => v = .pointer (some ⟨c, 0, none⟩)
 | 8, v, _ => True
 | 9, v, _ => v = .pointer (some ⟨c, 4, none⟩)
 | 10, v, _ => True
 | _, _, _ => True
def J176_8 (W0 : World) (c : Nat) (y4 : BitVec 32) (t1 : BitVec 32) (u1 : BitVec 32) (v0 : Value) (L : Array Bool) (w : World) : Prop := (L.getD 8 false = false → w = W0) ∧ (L.getD 8 false = true → L.getD 10 false = false → w = W0.setCell ⟨c, 0, none⟩ (U (t1 + u1))) ∧ (L.getD 10 false = true → w = (W0.setCell ⟨c, 0, none⟩ (U (t1 + u1))).setCell ⟨c, 4, none⟩ (U (y4 + t1)))
theorem J176_8_any {W0 : World} {c : Nat} {y4 : BitVec 32} {t1 : BitVec 32} {u1 : BitVec 32} {v0 : Value} {L : Array Bool} {w : World} (i : Nat) (hi : i ≠ 8 ∧ i ≠ 10) (h : J176_8 W0 c y4 t1 u1 v0 L w) : J176_8 W0 c y4 t1 u1 v0 (L.setIfInBounds i true) w := by
 obtain ⟨h0, h1, h2⟩ := h
 exact ⟨fun h => h0 (unset h), fun h g => h1 (set_ne (by omega) h) (unset g), fun h => h2 (set_ne (by omega) h)⟩
set_option maxHeartbeats 3200000 in
theorem reg176_8 {ops : Array Oper} (ho : ops = ops176_8) {Q : Exit → Act → World → Prop} {a0 : Act} {w0 W0 : World} (hW : w0 = W0) {c : Nat} {y4 : BitVec 32} {t1 : BitVec 32} {u1 : BitVec 32} {v0 : Value} (c0 : W0.cell? ⟨c, 0, none⟩ = some v0) (c4 : W0.cell? ⟨c, 4, none⟩ = some (U y4)) (hf : ∀ o, W0.frozen? ⟨c, o, none⟩ = false) (hs4 : a0.eval (.tmp 4) = .pointer (some ⟨c, 0, none⟩)) (hs9 : a0.eval (.tmp 9) = U t1) (hs10 : a0.eval (.tmp 10) = U u1) (hsz : a0.tmps.size = 105)
  (HK : ∀ a, a.defers = a0.defers → a.tmps.size = 105 → (∀ s, freeB ops176_8 s = true → a.eval (.tmp s) = a0.eval (.tmp s)) → (∀ i, i < 11 → R176_8 c y4 t1 u1 v0 i (a.eval (.tmp (sl176_8 i))) ((W0.setCell ⟨c, 0, none⟩ (U (t1 + u1))).setCell ⟨c, 4, none⟩ (U (y4 + t1)))) → Q .normal a ((W0.setCell ⟨c, 0, none⟩ (U (t1 + u1))).setCell ⟨c, 4, none⟩ (U (y4 + t1)))) : (Code.region 8 ops false).wp Tryz.prog Q a0 w0 := by
 subst ho
 refine region_made_seq (n := 11) (sl := sl176_8) (J := J176_8 W0 c y4 t1 u1 v0) (R := R176_8 c y4 t1 u1 v0) (by kernel_rfl) (by kernel_rfl) (by kernel_rfl) (by rw [hsz]; kernel_rfl) ?_ (by rw [hW]; exact ⟨fun _ => rfl, fun h => by simp [Array.getD] at h, fun h => by simp [Array.getD] at h⟩) (fun L a w hall hf => ?_)
 rotate_left
 ·have hw1 : w = (W0.setCell ⟨c, 0, none⟩ (U (t1 + u1))).setCell ⟨c, 4, none⟩ (U (y4 + t1)) := hf.world.2.2 (hall 10 (by decide))
  subst w
  exact HK a hf.defers (hf.size.trans hsz) hf.rest (fun i hi => hf.got i (hall i hi))
 intro i hi L a w hs h1 hdep hd hst ho
 clear HK
 match i, hi, h1, hdep, ho with
 | 0, _, h1, hdep, ho =>
   have JJ := J176_8_any 0 (by decide) hst.world
   have s9 : a.eval (.tmp 9) = U t1 := (hst.rest 9 (by kernel_rfl)).trans hs9
   have hr : (execOp a.eval (opAt ops176_8 0)).run Tryz.prog w = .ok (.value (U t1)) w := run_moved (x := .tmp 9) (by kernel_rfl) s9
   exact op_value ho (by kernel_rfl) hr (made_val (d := 80) (by kernel_rfl) rfl JJ (fun _ _ _ _ h => h))
 | 1, _, h1, hdep, ho =>
   have JJ := J176_8_any 1 (by decide) hst.world
   have s10 : a.eval (.tmp 10) = U u1 := (hst.rest 10 (by kernel_rfl)).trans hs10
   have hr : (execOp a.eval (opAt ops176_8 1)).run Tryz.prog w = .ok (.value (U u1)) w := run_moved (x := .tmp 10) (by kernel_rfl) s10
   exact op_value ho (by kernel_rfl) hr (made_val (d := 81) (by kernel_rfl) rfl JJ (fun _ _ _ _ h => h))
 | 2, _, h1, hdep, ho =>
   have JJ := J176_8_any 2 (by decide) hst.world
   have g0 : a.eval (.tmp 80) = U t1 := hst.got 0 (hdep 0 (by kernel_rfl))
   have g1 : a.eval (.tmp 81) = U u1 := hst.got 1 (hdep 1 (by kernel_rfl))
   have hr : (execOp a.eval (opAt ops176_8 2)).run Tryz.prog w = .ok (.value (U (t1 + u1))) w := run_add32 (show (opAt ops176_8 2).op = .binOp .add 184 (.tmp 80) (.tmp 81) 184 from (by kernel_rfl)) g0 g1
   exact op_value ho (by kernel_rfl) hr (made_val (d := 82) (by kernel_rfl) rfl JJ (fun _ _ _ _ h => h))
 | 3, _, h1, hdep, ho =>
   have JJ := J176_8_any 3 (by decide) hst.world
   have s4 : a.eval (.tmp 4) = .pointer (some ⟨c, 0, none⟩) := (hst.rest 4 (by kernel_rfl)).trans hs4
   have hr : (execOp a.eval (opAt ops176_8 3)).run Tryz.prog w = .ok (.value (.pointer (some ⟨c, 4, none⟩))) w := (show 0 + 4 = 4 from Nat.zero_add _) ▸ run_idx250 (n := 0) (k := 4) rfl (by decide) (show (opAt ops176_8 3).op = .indexAddr 250 (.tmp 4) (.const (.int .i64 4)) from (by kernel_rfl)) s4 rfl
   exact op_value ho (by kernel_rfl) hr (made_val (d := 83) (by kernel_rfl) rfl JJ (fun _ _ _ _ h => h))
 | 4, _, h1, hdep, ho =>
   have JJ := J176_8_any 4 (by decide) hst.world
   have hw : w = W0 := hst.world.1 (unlisted hs hd h1 (show waits .any ops176_8 8 4 = true from (by kernel_rfl)))
   obtain rfl : W0 = w := hw.symm
   have g3 : a.eval (.tmp 83) = .pointer (some ⟨c, 4, none⟩) := hst.got 3 (hdep 3 (by kernel_rfl))
   have hr : (execOp a.eval (opAt ops176_8 4)).run Tryz.prog W0 = .ok (.value (U y4)) W0 := run_load184 c4 (show (opAt ops176_8 4).op = .load 184 (.tmp 83) from (by kernel_rfl)) g3
   exact op_value ho (by kernel_rfl) hr (made_val (d := 84) (by kernel_rfl) rfl JJ (fun _ _ _ _ h => h))
 | 5, _, h1, hdep, ho =>
   have JJ := J176_8_any 5 (by decide) hst.world
   have s9 : a.eval (.tmp 9) = U t1 := (hst.rest 9 (by kernel_rfl)).trans hs9
   have hr : (execOp a.eval (opAt ops176_8 5)).run Tryz.prog w = .ok (.value (U t1)) w := run_moved (x := .tmp 9) (by kernel_rfl) s9
   exact op_value ho (by kernel_rfl) hr (made_val (d := 85) (by kernel_rfl) rfl JJ (fun _ _ _ _ h => h))
 | 6, _, h1, hdep, ho =>
   have JJ := J176_8_any 6 (by decide) hst.world
   have g4 : a.eval (.tmp 84) = U y4 := hst.got 4 (hdep 4 (by kernel_rfl))
   have g5 : a.eval (.tmp 85) = U t1 := hst.got 5 (hdep 5 (by kernel_rfl))
   have hr : (execOp a.eval (opAt ops176_8 6)).run Tryz.prog w = .ok (.value (U (y4 + t1))) w := run_add32 (show (opAt ops176_8 6).op = .binOp .add 184 (.tmp 84) (.tmp 85) 184 from (by kernel_rfl)) g4 g5
   exact op_value ho (by kernel_rfl) hr (made_val (d := 86) (by kernel_rfl) rfl JJ (fun _ _ _ _ h => h))
 | 7, _, h1, hdep, ho =>
   have JJ := J176_8_any 7 (by decide) hst.world
   have s4 : a.eval (.tmp 4) = .pointer (some ⟨c, 0, none⟩) := (hst.rest 4 (by kernel_rfl)).trans hs4
   have hr : (execOp a.eval (opAt ops176_8 7)).run Tryz.prog w = .ok (.value (.pointer (some ⟨c, 0, none⟩))) w := (show 0 + 0 = 0 from Nat.zero_add _) ▸ run_idx250 (n := 0) (k := 0) rfl (by decide) (show (opAt ops176_8 7).op = .indexAddr 250 (.tmp 4) (.const (.int .i64 0)) from (by kernel_rfl)) s4 rfl
   exact op_value ho (by kernel_rfl) hr (made_val (d := 87) (by kernel_rfl) rfl JJ (fun _ _ _ _ h => h))
 | 8, _, h1, hdep, ho =>
   have hw : w = W0 := hst.world.1 (unl h1)
   obtain rfl : W0 = w := hw.symm
   have g7 : a.eval (.tmp 87) = .pointer (some ⟨c, 0, none⟩) := hst.got 7 (hdep 7 (by kernel_rfl))
   have g2 : a.eval (.tmp 82) = U (t1 + u1) := hst.got 2 (hdep 2 (by kernel_rfl))
   have hr : (execOp a.eval (opAt ops176_8 8)).run Tryz.prog (W0) = .ok .skip (W0.setCell ⟨c, 0, none⟩ (U (t1 + u1))) := run_store184 c0 (hf _) (show (opAt ops176_8 8).op = .store 184 (.tmp 87) (.tmp 82) from (by kernel_rfl)) g7 g2
   refine op_skip ho (by kernel_rfl) hr (made_skip (by kernel_rfl) trivial ⟨fun h => by (rw [set_same (by rw [hs]; decide)] at h; cases h), fun _ _ => rfl, fun h => by (rw [getD_set_ne false (by decide)] at h; rw [unlisted hs hd h1 (show waits .any ops176_8 10 8 = true from (by kernel_rfl))] at h; cases h)⟩ (fun j _ _ u h => ?_))
   match j, h with
   | 0, h => exact (show _ = _ from h)
   | 1, h => exact (show _ = _ from h)
   | 2, h => exact (show _ = _ from h)
   | 3, h => exact (show _ = _ from h)
   | 4, h => exact (show _ = _ from h)
   | 5, h => exact (show _ = _ from h)
   | 6, h => exact (show _ = _ from h)
   | 7, h => exact (show _ = _ from h)
   | 8, h => exact (show True from h)
   | 9, h => exact (show _ = _ from h)
   | 10, h => exact (show True from h)
   | _ + 11, _ => exact trivial
 | 9, _, h1, hdep, ho =>
   have JJ := J176_8_any 9 (by decide) hst.world
   have s4 : a.eval (.tmp 4) = .pointer (some ⟨c, 0, none⟩) := (hst.rest 4 (by kernel_rfl)).trans hs4
   have hr : (execOp a.eval (opAt ops176_8 9)).run Tryz.prog w = .ok (.value (.pointer (some ⟨c, 4, none⟩))) w := (show 0 + 4 = 4 from Nat.zero_add _) ▸ run_idx250 (n := 0) (k := 4) rfl (by decide) (show (opAt ops176_8 9).op = .indexAddr 250 (.tmp 4) (.const (.int .i64 4)) from (by kernel_rfl)) s4 rfl
   exact op_value ho (by kernel_rfl) hr (made_val (d := 88) (by kernel_rfl) rfl JJ (fun _ _ _ _ h => h))
 | 10, _, h1, hdep, ho =>
   have hw : w = W0.setCell ⟨c, 0, none⟩ (U (t1 + u1)) := hst.world.2.1 (hdep 8 (by kernel_rfl)) (unl h1)
   subst w
   have g9 : a.eval (.tmp 88) = .pointer (some ⟨c, 4, none⟩) := hst.got 9 (hdep 9 (by kernel_rfl))
   have g6 : a.eval (.tmp 86) = U (y4 + t1) := hst.got 6 (hdep 6 (by kernel_rfl))
   have hr : (execOp a.eval (opAt ops176_8 10)).run Tryz.prog (W0.setCell ⟨c, 0, none⟩ (U (t1 + u1))) = .ok .skip ((W0.setCell ⟨c, 0, none⟩ (U (t1 + u1))).setCell ⟨c, 4, none⟩ (U (y4 + t1))) := run_store184 (cell_set (o := 4) (o' := 0) c4 (by decide)) (by rw [World.frozen?_setCell]; exact hf _) (show (opAt ops176_8 10).op = .store 184 (.tmp 88) (.tmp 86) from (by kernel_rfl)) g9 g6
   refine op_skip ho (by kernel_rfl) hr (made_skip (by kernel_rfl) trivial ⟨fun h => by (rw [getD_set_ne false (by decide)] at h; rw [hdep 8 (by kernel_rfl)] at h; cases h), fun _ h => by (rw [set_same (by rw [hs]; decide)] at h; cases h), fun _ => rfl⟩ (fun j _ _ u h => ?_))
   match j, h with
   | 0, h => exact (show _ = _ from h)
   | 1, h => exact (show _ = _ from h)
   | 2, h => exact (show _ = _ from h)
   | 3, h => exact (show _ = _ from h)
   | 4, h => exact (show _ = _ from h)
   | 5, h => exact (show _ = _ from h)
   | 6, h => exact (show _ = _ from h)
   | 7, h => exact (show _ = _ from h)
   | 8, h => exact (show True from h)
   | 9, h => exact (show _ = _ from h)
   | 10, h => exact (show True from h)
   | _ + 11, _ => exact trivial
 | k + 11, hi, _, _, _ => exact absurd hi (by omega)
noncomputable def ops176_13 : Array Oper := (Tryz.f176.body.bind (inCode 13)).getD #[]
def sl176_13 : Nat → Nat
 | 0 => 93
 | 1 => 94
 | 2 => 95
 | 3 => 96
 | 4 => 97
 | 5 => 98
 | 6 => 99
 | 7 => 100
 | 8 => 101
 | 9 => 102
 | 10 => 103
 | 11 => 1000001
 | _ => 0
def R176_13 (hb : Nat) (c : Nat) (kk : Nat) (sk : BitVec 32) (xk : BitVec 32) : Nat → Value → World → Prop
 | 0, v, _ => v = .pointer (some ⟨hb, 0, none⟩)
 | 1, v, _ => v = .int .i64 (kk : Int)
 | 2, v, _ => v = .pointer (some ⟨hb, 0, none⟩)
 | 3, v, _ => v = .pointer (some ⟨hb, kk, none⟩)
 | 4, v, _ => v = U sk
 | 5, v, _ => v = .int .i64 (kk : Int)
 | 6, v, _ => v = .pointer (some ⟨c, kk, none⟩)
 | 7, v, _ => v = U xk
 | 8, v, _ => v = U (sk + xk)
 | 9, v, _ => v = .pointer (some ⟨hb, 0, none⟩)
 | 10, v, _ => v = .pointer (some ⟨hb, kk, none⟩)
 | 11, v, _ => True
 | _, _, _ => True
def J176_13 (W0 : World) (hb : Nat) (c : Nat) (kk : Nat) (sk : BitVec 32) (xk : BitVec 32) (L : Array Bool) (w : World) : Prop := (L.getD 11 false = false → w = W0) ∧ (L.getD 11 false = true → w = W0.setCell ⟨hb, kk, none⟩ (U (sk + xk)))
theorem J176_13_any {W0 : World} {hb : Nat} {c : Nat} {kk : Nat} {sk : BitVec 32} {xk : BitVec 32} {L : Array Bool} {w : World} (i : Nat) (hi : i ≠ 11) (h : J176_13 W0 hb c kk sk xk L w) : J176_13 W0 hb c kk sk xk (L.setIfInBounds i true) w := by
 obtain ⟨h0, h1⟩ := h
 exact ⟨fun h => h0 (unset h), fun h => h1 (set_ne (by omega) h)⟩
set_option maxHeartbeats 3200000 in
theorem reg176_13 {ops : Array Oper} (ho : ops = ops176_13) {Q : Exit → Act → World → Prop} {a0 : Act} {w0 W0 : World} (hW : w0.drew = W0) {hb : Nat} {c : Nat} {kk : Nat} {sk : BitVec 32} {xk : BitVec 32} (hkk : kk < 8) (cs : W0.cell? ⟨hb, kk, none⟩ = some (U sk)) (cx : W0.cell? ⟨c, kk, none⟩ = some (U xk)) (fs : W0.frozen? ⟨hb, kk, none⟩ = false) (hs0 : a0.eval (.tmp 0) = .pointer (some ⟨hb, 0, none⟩)) (hs4 : a0.eval (.tmp 4) = .pointer (some ⟨c, 0, none⟩)) (hs11 : a0.eval (.tmp 11) = .int .i64 (kk : Int)) (hsz : a0.tmps.size = 105)
  (HK : ∀ a, a.defers = a0.defers → a.tmps.size = 105 → (∀ s, freeB ops176_13 s = true → a.eval (.tmp s) = a0.eval (.tmp s)) → (∀ i, i < 12 → R176_13 hb c kk sk xk i (a.eval (.tmp (sl176_13 i))) (W0.setCell ⟨hb, kk, none⟩ (U (sk + xk)))) → Q .normal a (W0.setCell ⟨hb, kk, none⟩ (U (sk + xk)))) : (Code.region 13 ops true).wp Tryz.prog Q a0 w0 := by
 subst ho
 refine region_made (n := 12) (sl := sl176_13) (J := J176_13 W0 hb c kk sk xk) (R := R176_13 hb c kk sk xk) (by kernel_rfl) (by kernel_rfl) (by kernel_rfl) (by rw [hsz]; kernel_rfl) ?_ (by rw [hW]; exact ⟨fun _ => rfl, fun h => by simp [Array.getD] at h⟩) (fun L a w hall hf => ?_)
 rotate_left
 ·have hw1 : w = W0.setCell ⟨hb, kk, none⟩ (U (sk + xk)) := hf.world.2 (hall 11 (by decide))
  subst w
  exact HK a hf.defers (hf.size.trans hsz) hf.rest (fun i hi => hf.got i (hall i hi))
 intro i hi L a w hs h1 hdep hd hst ho
 clear HK
 match i, hi, h1, hdep, ho with
 | 0, _, h1, hdep, ho =>
   have JJ := J176_13_any 0 (by decide) hst.world
   have s0 : a.eval (.tmp 0) = .pointer (some ⟨hb, 0, none⟩) := (hst.rest 0 (by kernel_rfl)).trans hs0
   have hr : (execOp a.eval (opAt ops176_13 0)).run Tryz.prog w = .ok (.value (.pointer (some ⟨hb, 0, none⟩))) w := run_moved (x := .tmp 0) (by kernel_rfl) s0
   exact op_value ho (by kernel_rfl) hr (made_val (d := 93) (by kernel_rfl) rfl JJ (fun _ _ _ _ h => h))
 | 1, _, h1, hdep, ho =>
   have JJ := J176_13_any 1 (by decide) hst.world
   have s11 : a.eval (.tmp 11) = .int .i64 (kk : Int) := (hst.rest 11 (by kernel_rfl)).trans hs11
   have hr : (execOp a.eval (opAt ops176_13 1)).run Tryz.prog w = .ok (.value (.int .i64 (kk : Int))) w := run_moved (x := .tmp 11) (by kernel_rfl) s11
   exact op_value ho (by kernel_rfl) hr (made_val (d := 94) (by kernel_rfl) rfl JJ (fun _ _ _ _ h => h))
 | 2, _, h1, hdep, ho =>
   have JJ := J176_13_any 2 (by decide) hst.world
   have g0 : a.eval (.tmp 93) = .pointer (some ⟨hb, 0, none⟩) := hst.got 0 (hdep 0 (by kernel_rfl))
   have hr : (execOp a.eval (opAt ops176_13 2)).run Tryz.prog w = .ok (.value (.pointer (some ⟨hb, 0, none⟩))) w := run_nil (x := .tmp 93) (by kernel_rfl) g0
   exact op_value ho (by kernel_rfl) hr (made_val (d := 95) (by kernel_rfl) rfl JJ (fun _ _ _ _ h => h))
 | 3, _, h1, hdep, ho =>
   have JJ := J176_13_any 3 (by decide) hst.world
   have g2 : a.eval (.tmp 95) = .pointer (some ⟨hb, 0, none⟩) := hst.got 2 (hdep 2 (by kernel_rfl))
   have g1 : a.eval (.tmp 94) = .int .i64 (kk : Int) := hst.got 1 (hdep 1 (by kernel_rfl))
   have hr : (execOp a.eval (opAt ops176_13 3)).run Tryz.prog w = .ok (.value (.pointer (some ⟨hb, kk, none⟩))) w := (show 0 + kk = kk from Nat.zero_add _) ▸ run_idx250 (b := hb) (n := 0) (k := kk) rfl hkk (show (opAt ops176_13 3).op = .indexAddr 250 (.tmp 95) (.tmp 94) from (by kernel_rfl)) g2 g1
   exact op_value ho (by kernel_rfl) hr (made_val (d := 96) (by kernel_rfl) rfl JJ (fun _ _ _ _ h => h))
 | 4, _, h1, hdep, ho =>
   have JJ := J176_13_any 4 (by decide) hst.world
   have hw : w = W0 := hst.world.1 (unlisted hs hd h1 (show waits .any ops176_13 11 4 = true from (by kernel_rfl)))
   obtain rfl : W0 = w := hw.symm
   have g3 : a.eval (.tmp 96) = .pointer (some ⟨hb, kk, none⟩) := hst.got 3 (hdep 3 (by kernel_rfl))
   have hr : (execOp a.eval (opAt ops176_13 4)).run Tryz.prog W0 = .ok (.value (U sk)) W0 := run_load184 cs (show (opAt ops176_13 4).op = .load 184 (.tmp 96) from (by kernel_rfl)) g3
   exact op_value ho (by kernel_rfl) hr (made_val (d := 97) (by kernel_rfl) rfl JJ (fun _ _ _ _ h => h))
 | 5, _, h1, hdep, ho =>
   have JJ := J176_13_any 5 (by decide) hst.world
   have s11 : a.eval (.tmp 11) = .int .i64 (kk : Int) := (hst.rest 11 (by kernel_rfl)).trans hs11
   have hr : (execOp a.eval (opAt ops176_13 5)).run Tryz.prog w = .ok (.value (.int .i64 (kk : Int))) w := run_moved (x := .tmp 11) (by kernel_rfl) s11
   exact op_value ho (by kernel_rfl) hr (made_val (d := 98) (by kernel_rfl) rfl JJ (fun _ _ _ _ h => h))
 | 6, _, h1, hdep, ho =>
   have JJ := J176_13_any 6 (by decide) hst.world
   have s4 : a.eval (.tmp 4) = .pointer (some ⟨c, 0, none⟩) := (hst.rest 4 (by kernel_rfl)).trans hs4
   have g5 : a.eval (.tmp 98) = .int .i64 (kk : Int) := hst.got 5 (hdep 5 (by kernel_rfl))
   have hr : (execOp a.eval (opAt ops176_13 6)).run Tryz.prog w = .ok (.value (.pointer (some ⟨c, kk, none⟩))) w := (show 0 + kk = kk from Nat.zero_add _) ▸ run_idx250 (b := c) (n := 0) (k := kk) rfl hkk (show (opAt ops176_13 6).op = .indexAddr 250 (.tmp 4) (.tmp 98) from (by kernel_rfl)) s4 g5
   exact op_value ho (by kernel_rfl) hr (made_val (d := 99) (by kernel_rfl) rfl JJ (fun _ _ _ _ h => h))
 | 7, _, h1, hdep, ho =>
   have JJ := J176_13_any 7 (by decide) hst.world
   have hw : w = W0 := hst.world.1 (unlisted hs hd h1 (show waits .any ops176_13 11 7 = true from (by kernel_rfl)))
   obtain rfl : W0 = w := hw.symm
   have g6 : a.eval (.tmp 99) = .pointer (some ⟨c, kk, none⟩) := hst.got 6 (hdep 6 (by kernel_rfl))
   have hr : (execOp a.eval (opAt ops176_13 7)).run Tryz.prog W0 = .ok (.value (U xk)) W0 := run_load184 cx (show (opAt ops176_13 7).op = .load 184 (.tmp 99) from (by kernel_rfl)) g6
   exact op_value ho (by kernel_rfl) hr (made_val (d := 100) (by kernel_rfl) rfl JJ (fun _ _ _ _ h => h))
 | 8, _, h1, hdep, ho =>
   have JJ := J176_13_any 8 (by decide) hst.world
   have g4 : a.eval (.tmp 97) = U sk := hst.got 4 (hdep 4 (by kernel_rfl))
   have g7 : a.eval (.tmp 100) = U xk := hst.got 7 (hdep 7 (by kernel_rfl))
   have hr : (execOp a.eval (opAt ops176_13 8)).run Tryz.prog w = .ok (.value (U (sk + xk))) w := run_add32 (show (opAt ops176_13 8).op = .binOp .add 184 (.tmp 97) (.tmp 100) 184 from (by kernel_rfl)) g4 g7
   exact op_value ho (by kernel_rfl) hr (made_val (d := 101) (by kernel_rfl) rfl JJ (fun _ _ _ _ h => h))
 | 9, _, h1, hdep, ho =>
   have JJ := J176_13_any 9 (by decide) hst.world
   have g0 : a.eval (.tmp 93) = .pointer (some ⟨hb, 0, none⟩) := hst.got 0 (hdep 0 (by kernel_rfl))
   have hr : (execOp a.eval (opAt ops176_13 9)).run Tryz.prog w = .ok (.value (.pointer (some ⟨hb, 0, none⟩))) w := run_nil (x := .tmp 93) (by kernel_rfl) g0
   exact op_value ho (by kernel_rfl) hr (made_val (d := 102) (by kernel_rfl) rfl JJ (fun _ _ _ _ h => h))
 | 10, _, h1, hdep, ho =>
   have JJ := J176_13_any 10 (by decide) hst.world
   have g9 : a.eval (.tmp 102) = .pointer (some ⟨hb, 0, none⟩) := hst.got 9 (hdep 9 (by kernel_rfl))
   have g1 : a.eval (.tmp 94) = .int .i64 (kk : Int) := hst.got 1 (hdep 1 (by kernel_rfl))
   have hr : (execOp a.eval (opAt ops176_13 10)).run Tryz.prog w = .ok (.value (.pointer (some ⟨hb, kk, none⟩))) w := (show 0 + kk = kk from Nat.zero_add _) ▸ run_idx250 (b := hb) (n := 0) (k := kk) rfl hkk (show (opAt ops176_13 10).op = .indexAddr 250 (.tmp 102) (.tmp 94) from (by kernel_rfl)) g9 g1
   exact op_value ho (by kernel_rfl) hr (made_val (d := 103) (by kernel_rfl) rfl JJ (fun _ _ _ _ h => h))
 | 11, _, h1, hdep, ho =>
   have hw : w = W0 := hst.world.1 (unl h1)
   obtain rfl : W0 = w := hw.symm
   have g10 : a.eval (.tmp 103) = .pointer (some ⟨hb, kk, none⟩) := hst.got 10 (hdep 10 (by kernel_rfl))
   have g8 : a.eval (.tmp 101) = U (sk + xk) := hst.got 8 (hdep 8 (by kernel_rfl))
   have hr : (execOp a.eval (opAt ops176_13 11)).run Tryz.prog (W0) = .ok .skip (W0.setCell ⟨hb, kk, none⟩ (U (sk + xk))) := run_store184 cs fs (show (opAt ops176_13 11).op = .store 184 (.tmp 103) (.tmp 101) from (by kernel_rfl)) g10 g8
   refine op_skip ho (by kernel_rfl) hr (made_skip (by kernel_rfl) trivial ⟨fun h => by (rw [set_same (by rw [hs]; decide)] at h; cases h), fun _ => rfl⟩ (fun j _ _ u h => ?_))
   match j, h with
   | 0, h => exact (show _ = _ from h)
   | 1, h => exact (show _ = _ from h)
   | 2, h => exact (show _ = _ from h)
   | 3, h => exact (show _ = _ from h)
   | 4, h => exact (show _ = _ from h)
   | 5, h => exact (show _ = _ from h)
   | 6, h => exact (show _ = _ from h)
   | 7, h => exact (show _ = _ from h)
   | 8, h => exact (show _ = _ from h)
   | 9, h => exact (show _ = _ from h)
   | 10, h => exact (show _ = _ from h)
   | 11, h => exact (show True from h)
   | _ + 12, _ => exact trivial
 | k + 12, hi, _, _, _ => exact absurd hi (by omega)
end Go.Proofs.YtoimjnmhinfbkaaGreatDoor
