import Derived.Test.YtoimjnmhinfbkaaGreatDoorS09
namespace Go.Proofs.YtoimjnmhinfbkaaGreatDoor
open Go.RowKit
set_option maxRecDepth 100000
section
variable {ρ : Operand → Value} {w : World} {o : Oper} {x y : Operand}
theorem run_index_arr8 {l : List (BitVec 32)} {k : Nat} (hl : l.length = 8) (hk : k < 8) : (Instr.index 250 (.agg (l.map (fun z => U z)).toArray) (.int .i64 (k : Int))).run Tryz.prog w = .ok (U (l.getD k 0)) w := by
 have h3 : (k : Int) < 8 := by omega
 have h4 : ((l.map (fun z => U z)).toArray)[k]? = some (U (l.getD k 0)) := by simp [List.getD, List.getElem?_eq_getElem (show k < l.length by omega)]
 have hi : (Tryz.prog.info? 184).map (·.size) = some 1 := by kernel_rfl
 have hu : Tryz.prog.underlying 250 = some (.array 8 184) := Tryz.underlying250
 cases hq : Tryz.prog.info? 184 with
 | none => simp [hq] at hi
 | some i =>
  have hs : i.size = 1 := by simpa [hq] using hi
  generalize (l.map (fun z => U z)).toArray = c at h4 ⊢
  simp [Instr.index, asIntOf, Sem.run_bind, run_underlying hu, h3, part, sizeOf, typeInfo, hq, hs, h4]
  intro h; omega
theorem run_ix250 {l : List (BitVec 32)} {k : Nat} (hl : l.length = 8) (hk : k < 8) (ho : o.op = .index 250 x y) (h1 : ρ x = .agg (l.map (fun z => U z)).toArray) (h2 : ρ y = .int .i64 (k : Int)) : (execOp ρ o).run Tryz.prog w = .ok (.value (U (l.getD k 0))) w := by
 unfold execOp
 simp only [ho, h1, h2, Sem.run_bind, run_index_arr8 hl hk, Result.andThen_ok]
 rfl
theorem run_conv8 {u : BitVec 32} (ho : o.op = .convert 184 5 x) (h1 : ρ x = U u) : (execOp ρ o).run Tryz.prog w = .ok (.value (.int .u8 ((u.toNat % 256 : Nat) : Int))) w := by
 have h : IntKind.u8.wrap (u.toNat : Int) = ((u.toNat % 256 : Nat) : Int) := by rw [IntKind.wrap_u8]; omega
 unfold execOp; rw [ho]; simp only [h1]
 rw [← h]
 clear h h1
 go_simp
theorem run_idx177 {b n : Nat} {k : Nat} {z : Int} (hz : z = (k : Int)) (hk : k < 32) (ho : o.op = .indexAddr 177 x y) (h1 : ρ x = .pointer (some ⟨b, n, none⟩)) (h2 : ρ y = .int .i64 z) : (execOp ρ o).run Tryz.prog w = .ok (.value (.pointer (some ⟨b, n + k, none⟩))) w := by
 subst hz
 have h0 : (0 : Int) ≤ (k : Int) := Int.natCast_nonneg _
 have h3 : (k : Int) < 32 := by omega
 unfold execOp; rw [ho]; simp only [h1, h2]; go_simp
theorem run_store5 {p : Addr} {z : Int} {v : Value} (hc : w.cell? p = some v) (hf : w.frozen? p = false) (ho : o.op = .store 5 x y) (h1 : ρ x = .pointer (some p)) (h2 : ρ y = .int .u8 z) : (execOp ρ o).run Tryz.prog w = .ok .skip (w.setCell p (.int .u8 z)) := by
 unfold execOp; rw [ho]; simp only [h1, h2]; go_simp
end
/-- a word's four bytes. -/
def b4 (x : BitVec 32) : List Nat := [(x >>> 24).toNat % 256, (x >>> 16).toNat % 256, (x >>> 8).toNat % 256, x.toNat % 256]
def B8 (z : Nat) : Value := .int .u8 (z : Int)
def arrB (l : List Nat) : Array Value := (l.map B8 ++ List.replicate (32 - l.length) (B8 0)).toArray
theorem arrB_push {l : List Nat} (x : Nat) (h : l.length < 32) : (arrB l).setIfInBounds l.length (B8 x) = arrB (l ++ [x]) := by
 unfold arrB
 rw [List.setIfInBounds_toArray]
 congr 1
 rw [List.set_append_right _ _ (by simp)]
 obtain ⟨n, hn⟩ : ∃ n, 32 - l.length = n + 1 := ⟨31 - l.length, by omega⟩
 have hn2 : 32 - (l ++ [x]).length = n := by simp; omega
 rw [hn, hn2]
 simp [List.replicate_succ]
theorem arrB_size {l : List Nat} (h : l.length ≤ 32) : (arrB l).size = 32 := by unfold arrB; simp; omega
theorem arrB_free {l : List Nat} {o : Nat} (h : l.length ≤ o) (h2 : o < 32) : (arrB l)[o]? = some (B8 0) := by
 unfold arrB
 simp only [List.getElem?_toArray, List.getElem?_append, List.length_map]
 rw [if_neg (by omega), List.getElem?_replicate, if_pos (by omega)]
theorem arrB_ones (l : List Nat) : (arrB l).all (·.oneCell') = true := by
 unfold arrB
 refine all_ones _ fun v hv => ?_
 rcases List.mem_append.1 hv with h | h
 ·obtain ⟨x, -, rfl⟩ := List.mem_map.1 h; rfl
 ·obtain ⟨-, rfl⟩ := List.mem_replicate.1 h; rfl
def outB (s : List (BitVec 32)) : Nat → List Nat
 | 0 => []
 | k + 1 => outB s k ++ b4 (s.getD k 0)
theorem outB_length (s : List (BitVec 32)) (k : Nat) : (outB s k).length = 4 * k := by
 induction k with
 | zero => rfl
 | succ k ih => simp [outB, b4, ih]; omega
theorem outB_step {w : World} {b : Nat} {s : List (BitVec 32)} {k : Nat} (h : w.heap[b]? = some (.cells (arrB (outB s k)) 177 (0, 0))) (hk : k < 8) : ((((w.setCell ⟨b, 4 * k, none⟩ (B8 ((s.getD k 0 >>> 24).toNat % 256))).setCell ⟨b, 4 * k + 1, none⟩ (B8 ((s.getD k 0 >>> 16).toNat % 256))).setCell ⟨b, 4 * k + 2, none⟩ (B8 ((s.getD k 0 >>> 8).toNat % 256))).setCell ⟨b, 4 * k + 3, none⟩ (B8 ((s.getD k 0).toNat % 256))).heap[b]? = some (.cells (arrB (outB s (k + 1))) 177 (0, 0)) := by
 have hl := outB_length s k
 have step : ∀ (w : World) (l : List Nat) (x o : Nat), o = l.length → l.length < 32 → w.heap[b]? = some (.cells (arrB l) 177 (0, 0)) → (w.setCell ⟨b, o, none⟩ (B8 x)).heap[b]? = some (.cells (arrB (l ++ [x])) 177 (0, 0)) := fun w l x o ho hlt h => by
  subst ho; rw [blk_set h, arrB_push x hlt]
 have h1 := step _ _ ((s.getD k 0 >>> 24).toNat % 256) (4 * k) hl.symm (by omega) h
 have h2 := step _ _ ((s.getD k 0 >>> 16).toNat % 256) (4 * k + 1) (by simp [hl]) (by simp [hl]; omega) h1
 have h3 := step _ _ ((s.getD k 0 >>> 8).toNat % 256) (4 * k + 2) (by simp [hl]) (by simp [hl]; omega) h2
 have h4 := step _ _ ((s.getD k 0).toNat % 256) (4 * k + 3) (by simp [hl]) (by simp [hl]; omega) h3
 rw [h4]
 simp [outB, b4]
noncomputable def ops141_16 : Array Oper := (Tryz.f141.body.bind (inCode 16)).getD #[]
def sl141_16 : Nat → Nat
 | 0 => 45
 | 1 => 46
 | 2 => 7
 | 3 => 8
 | _ => 0
def R141_16 (fs : List (BitVec 32)) (kk : Nat) : Nat → Value → World → Prop
 | 0, v, _ => v = .int .i64 (kk : Int)
 | 1, v, _ => v = U (fs.getD kk 0)
 | 2, v, _ => v = .int .i64 (kk : Int)
 | 3, v, _ => v = U (fs.getD kk 0)
 | _, _, _ => True
def J141_16 (W0 : World) (fs : List (BitVec 32)) (kk : Nat) (L : Array Bool) (w : World) : Prop := w = W0
set_option maxHeartbeats 3200000 in
theorem reg141_16 {ops : Array Oper} (ho : ops = ops141_16) {Q : Exit → Act → World → Prop} {a0 : Act} {w0 W0 : World} (hW : w0 = W0) {fs : List (BitVec 32)} {kk : Nat} (hfs : fs.length = 8) (hkk : kk < 8) (hs42 : a0.eval (.tmp 42) = .agg (fs.map (fun z => U z)).toArray) (hs43 : a0.eval (.tmp 43) = .int .i64 (kk : Int)) (hsz : a0.tmps.size = 75)
  (HK : ∀ a, a.defers = a0.defers → a.tmps.size = 75 → (∀ s, freeB ops141_16 s = true → a.eval (.tmp s) = a0.eval (.tmp s)) → (∀ i, i < 4 → R141_16 fs kk i (a.eval (.tmp (sl141_16 i))) (W0)) → Q .normal a (W0)) : (Code.region 16 ops false).wp Tryz.prog Q a0 w0 := by
 subst ho
 refine region_made_seq (n := 4) (sl := sl141_16) (J := J141_16 W0 fs kk) (R := R141_16 fs kk) (by kernel_rfl) (by kernel_rfl) (by kernel_rfl) (by rw [hsz]; kernel_rfl) ?_ (show _ = _ from hW) (fun L a w hall hf => ?_)
 rotate_left
 ·obtain rfl : w = W0 := hf.world
  exact HK a hf.defers (hf.size.trans hsz) hf.rest (fun i hi => hf.got i (hall i hi))
 intro i hi L a w hs h1 hdep hd hst ho
 clear HK
 match i, hi, h1, hdep, ho with
 | 0, _, h1, hdep, ho =>
   have hw : w = W0 := hst.world
   obtain rfl : W0 = w := hw.symm
   have s43 : a.eval (.tmp 43) = .int .i64 (kk : Int) := (hst.rest 43 (by kernel_rfl)).trans hs43
   have hr : (execOp a.eval (opAt ops141_16 0)).run Tryz.prog W0 = .ok (.value (.int .i64 (kk : Int))) W0 := run_moved (x := .tmp 43) (by kernel_rfl) s43
   exact op_value ho (by kernel_rfl) hr (made_val (d := 45) (by kernel_rfl) rfl rfl (fun _ _ _ _ h => h))
 | 1, _, h1, hdep, ho =>
   have hw : w = W0 := hst.world
   obtain rfl : W0 = w := hw.symm
   have s42 : a.eval (.tmp 42) = .agg (fs.map (fun z => U z)).toArray := (hst.rest 42 (by kernel_rfl)).trans hs42
   have s43 : a.eval (.tmp 43) = .int .i64 (kk : Int) := (hst.rest 43 (by kernel_rfl)).trans hs43
   have hr : (execOp a.eval (opAt ops141_16 1)).run Tryz.prog W0 = .ok (.value (U (fs.getD kk 0))) W0 := run_ix250 hfs hkk (show (opAt ops141_16 1).op = .index 250 (.tmp 42) (.tmp 43) from (by kernel_rfl)) s42 s43
   exact op_value ho (by kernel_rfl) hr (made_val (d := 46) (by kernel_rfl) rfl rfl (fun _ _ _ _ h => h))
 | 2, _, h1, hdep, ho =>
   have hw : w = W0 := hst.world
   obtain rfl : W0 = w := hw.symm
   have g0 : a.eval (.tmp 45) = .int .i64 (kk : Int) := hst.got 0 (hdep 0 (by kernel_rfl))
   have hr : (execOp a.eval (opAt ops141_16 2)).run Tryz.prog W0 = .ok (.value (.int .i64 (kk : Int))) W0 := run_moved_as (x := .tmp 45) (by kernel_rfl) g0
   exact op_value ho (by kernel_rfl) hr (made_val (d := 7) (by kernel_rfl) rfl rfl (fun _ _ _ _ h => h))
 | 3, _, h1, hdep, ho =>
   have hw : w = W0 := hst.world
   obtain rfl : W0 = w := hw.symm
   have g1 : a.eval (.tmp 46) = U (fs.getD kk 0) := hst.got 1 (hdep 1 (by kernel_rfl))
   have hr : (execOp a.eval (opAt ops141_16 3)).run Tryz.prog W0 = .ok (.value (U (fs.getD kk 0))) W0 := run_moved_as (x := .tmp 46) (by kernel_rfl) g1
   exact op_value ho (by kernel_rfl) hr (made_val (d := 8) (by kernel_rfl) rfl rfl (fun _ _ _ _ h => h))
 | k + 4, hi, _, _, _ => exact absurd hi (by omega)
noncomputable def ops141_17 : Array Oper := (Tryz.f141.body.bind (inCode 17)).getD #[]
def sl141_17 : Nat → Nat
 | 0 => 47
 | 1 => 48
 | 2 => 49
 | 3 => 50
 | 4 => 51
 | 5 => 52
 | 6 => 53
 | 7 => 54
 | 8 => 55
 | 9 => 56
 | 10 => 57
 | 11 => 58
 | 12 => 59
 | 13 => 60
 | 14 => 61
 | 15 => 62
 | 16 => 63
 | 17 => 64
 | 18 => 65
 | 19 => 66
 | 20 => 67
 | 21 => 68
 | 22 => 69
 | 23 => 1000001
 | 24 => 70
 | 25 => 1000001
 | 26 => 71
 | 27 => 1000001
 | 28 => 72
 | 29 => 1000001
 | _ => 0
def R141_17 (b : Nat) (kk : Nat) (x : BitVec 32) (v0 : Value) (v1 : Value) (v2 : Value) (v3 : Value) : Nat → Value → World → Prop
 | 0, v, _ => v = .int .i64 (kk : Int)
 | 1, v, _ => v = .int .i64 (4 * kk : Int)
 | 2, v, _ => v = .int .i64 (kk : Int)
 | 3, v, _ => v = .int .i64 (4 * kk : Int)
 | 4, v, _ => v = .int .i64 (4 * kk + 1 : Int)
 | 5, v, _ => v = .int .i64 (kk : Int)
 | 6, v, _ => v = .int .i64 (4 * kk : Int)
 | 7, v, _ => v = .int .i64 (4 * kk + 2 : Int)
 | 8, v, _ => v = .int .i64 (kk : Int)
 | 9, v, _ => v = .int .i64 (4 * kk : Int)
 | 10, v, _ => v = .int .i64 (4 * kk + 3 : Int)
 | 11, v, _ => v = U x
 | 12, v, _ => v = U (x >>> 24)
 | 13, v, _ => v = .int .u8 ((((x >>> 24)).toNat % 256 : Nat) : Int)
 | 14, v, _ => v = U x
 | 15, v, _ => v = U (x >>> 16)
 | 16, v, _ => v = .int .u8 ((((x >>> 16)).toNat % 256 : Nat) : Int)
 | 17, v, _ => v = U x
 | 18, v, _ => v = U (x >>> 8)
 | 19, v, _ => v = .int .u8 ((((x >>> 8)).toNat % 256 : Nat) : Int)
 | 20, v, _ => v = U x
 | 21, v, _ => v = .int .u8 (((x).toNat % 256 : Nat) : Int)
 | 22, v, _ => v = .pointer (some ⟨b, 4 * kk, none⟩)
 | 23, v, _ => True
 | 24, v, _ => v = .pointer (some ⟨b, 4 * kk + 1, none⟩)
 | 25, v, _ => True
 | 26, v, _ => v = .pointer (some ⟨b, 4 * kk + 2, none⟩)
 | 27, v, _ => True
 | 28, v, _ => v = .pointer (some ⟨b, 4 * kk + 3, none⟩)
 | 29, v, _ => True
 | _, _, _ => True
def J141_17 (W0 : World) (b : Nat) (kk : Nat) (x : BitVec 32) (v0 : Value) (v1 : Value) (v2 : Value) (v3 : Value) (L : Array Bool) (w : World) : Prop := (L.getD 23 false = false → w = W0) ∧ (L.getD 23 false = true → L.getD 25 false = false → w = (W0).setCell ⟨b, 4 * kk, none⟩ (.int .u8 ((((x >>> 24)).toNat % 256 : Nat) : Int))) ∧ (L.getD 25 false = true → L.getD 27 false = false → w = ((W0).setCell ⟨b, 4 * kk, none⟩ (.int .u8 ((((x >>> 24)).toNat % 256 : Nat) : Int))).setCell ⟨b, 4 * kk + 1, none⟩ (.int .u8 ((((x >>> 16)).toNat % 256 : Nat) : Int))) ∧ (L.getD 27 false = true → L.getD 29 false = false → w = (((W0).setCell ⟨b, 4 * kk, none⟩ (.int .u8 ((((x >>> 24)).toNat % 256 : Nat) : Int))).setCell ⟨b, 4 * kk + 1, none⟩ (.int .u8 ((((x >>> 16)).toNat % 256 : Nat) : Int))).setCell ⟨b, 4 * kk + 2, none⟩ (.int .u8 ((((x >>> 8)).toNat % 256 : Nat) : Int))) ∧ (L.getD 29 false = true → w = ((((W0).setCell ⟨b, 4 * kk, none⟩ (.int .u8 ((((x >>> 24)).toNat % 256 : Nat) : Int))).setCell ⟨b, 4 * kk + 1, none⟩ (.int .u8 ((((x >>> 16)).toNat % 256 : Nat) : Int))).setCell ⟨b, 4 * kk + 2, none⟩ (.int .u8 ((((x >>> 8)).toNat % 256 : Nat) : Int))).setCell ⟨b, 4 * kk + 3, none⟩ (.int .u8 (((x).toNat % 256 : Nat) : Int)))
theorem J141_17_any {W0 : World} {b : Nat} {kk : Nat} {x : BitVec 32} {v0 : Value} {v1 : Value} {v2 : Value} {v3 : Value} {L : Array Bool} {w : World} (i : Nat) (hi : i ≠ 23 ∧ i ≠ 25 ∧ i ≠ 27 ∧ i ≠ 29) (h : J141_17 W0 b kk x v0 v1 v2 v3 L w) : J141_17 W0 b kk x v0 v1 v2 v3 (L.setIfInBounds i true) w := by
 obtain ⟨h0, h1, h2, h3, h4⟩ := h
 exact ⟨fun h => h0 (unset h), fun h g => h1 (set_ne (by omega) h) (unset g), fun h g => h2 (set_ne (by omega) h) (unset g), fun h g => h3 (set_ne (by omega) h) (unset g), fun h => h4 (set_ne (by omega) h)⟩
set_option maxHeartbeats 3200000 in
theorem reg141_17 {ops : Array Oper} (ho : ops = ops141_17) {Q : Exit → Act → World → Prop} {a0 : Act} {w0 W0 : World} (hW : w0 = W0) {b : Nat} {kk : Nat} {x : BitVec 32} {v0 : Value} {v1 : Value} {v2 : Value} {v3 : Value} (hkk : kk < 8) (c0 : W0.cell? ⟨b, 4 * kk, none⟩ = some v0) (c1 : W0.cell? ⟨b, 4 * kk + 1, none⟩ = some v1) (c2 : W0.cell? ⟨b, 4 * kk + 2, none⟩ = some v2) (c3 : W0.cell? ⟨b, 4 * kk + 3, none⟩ = some v3) (hf : ∀ o, W0.frozen? ⟨b, o, none⟩ = false) (hs6 : a0.eval (.tmp 6) = .pointer (some ⟨b, 0, none⟩)) (hs7 : a0.eval (.tmp 7) = .int .i64 (kk : Int)) (hs8 : a0.eval (.tmp 8) = U x) (hsz : a0.tmps.size = 75)
  (HK : ∀ a, a.defers = a0.defers → a.tmps.size = 75 → (∀ s, freeB ops141_17 s = true → a.eval (.tmp s) = a0.eval (.tmp s)) → (∀ i, i < 30 → R141_17 b kk x v0 v1 v2 v3 i (a.eval (.tmp (sl141_17 i))) (((((W0).setCell ⟨b, 4 * kk, none⟩ (.int .u8 ((((x >>> 24)).toNat % 256 : Nat) : Int))).setCell ⟨b, 4 * kk + 1, none⟩ (.int .u8 ((((x >>> 16)).toNat % 256 : Nat) : Int))).setCell ⟨b, 4 * kk + 2, none⟩ (.int .u8 ((((x >>> 8)).toNat % 256 : Nat) : Int))).setCell ⟨b, 4 * kk + 3, none⟩ (.int .u8 (((x).toNat % 256 : Nat) : Int)))) → Q .normal a (((((W0).setCell ⟨b, 4 * kk, none⟩ (.int .u8 ((((x >>> 24)).toNat % 256 : Nat) : Int))).setCell ⟨b, 4 * kk + 1, none⟩ (.int .u8 ((((x >>> 16)).toNat % 256 : Nat) : Int))).setCell ⟨b, 4 * kk + 2, none⟩ (.int .u8 ((((x >>> 8)).toNat % 256 : Nat) : Int))).setCell ⟨b, 4 * kk + 3, none⟩ (.int .u8 (((x).toNat % 256 : Nat) : Int)))) : (Code.region 17 ops false).wp Tryz.prog Q a0 w0 := by
 subst ho
 refine region_made_seq (n := 30) (sl := sl141_17) (J := J141_17 W0 b kk x v0 v1 v2 v3) (R := R141_17 b kk x v0 v1 v2 v3) (by kernel_rfl) (by kernel_rfl) (by kernel_rfl) (by rw [hsz]; kernel_rfl) ?_ (by rw [hW]; exact ⟨fun _ => rfl, fun h => by simp [Array.getD] at h, fun h => by simp [Array.getD] at h, fun h => by simp [Array.getD] at h, fun h => by simp [Array.getD] at h⟩) (fun L a w hall hf => ?_)
 rotate_left
 ·have hw1 : w = ((((W0).setCell ⟨b, 4 * kk, none⟩ (.int .u8 ((((x >>> 24)).toNat % 256 : Nat) : Int))).setCell ⟨b, 4 * kk + 1, none⟩ (.int .u8 ((((x >>> 16)).toNat % 256 : Nat) : Int))).setCell ⟨b, 4 * kk + 2, none⟩ (.int .u8 ((((x >>> 8)).toNat % 256 : Nat) : Int))).setCell ⟨b, 4 * kk + 3, none⟩ (.int .u8 (((x).toNat % 256 : Nat) : Int)) := hf.world.2.2.2.2 (hall 29 (by decide))
  subst w
  exact HK a hf.defers (hf.size.trans hsz) hf.rest (fun i hi => hf.got i (hall i hi))
 intro i hi L a w hs h1 hdep hd hst ho
 clear HK
 match i, hi, h1, hdep, ho with
 | 0, _, h1, hdep, ho =>
   have JJ := J141_17_any 0 (by decide) hst.world
   have s7 : a.eval (.tmp 7) = .int .i64 (kk : Int) := (hst.rest 7 (by kernel_rfl)).trans hs7
   have hr : (execOp a.eval (opAt ops141_17 0)).run Tryz.prog w = .ok (.value (.int .i64 (kk : Int))) w := run_moved (x := .tmp 7) (by kernel_rfl) s7
   exact op_value ho (by kernel_rfl) hr (made_val (d := 47) (by kernel_rfl) rfl JJ (fun _ _ _ _ h => h))
 | 1, _, h1, hdep, ho =>
   have JJ := J141_17_any 1 (by decide) hst.world
   have g0 : a.eval (.tmp 47) = .int .i64 (kk : Int) := hst.got 0 (hdep 0 (by kernel_rfl))
   have hr : (execOp a.eval (opAt ops141_17 1)).run Tryz.prog w = .ok (.value (.int .i64 (4 * kk : Int))) w := run_mul64 (by rw [IntKind.wrap_i64]; omega) (show (opAt ops141_17 1).op = .binOp .mul 3 (.const (.int .i64 4)) (.tmp 47) 3 from (by kernel_rfl)) rfl g0
   exact op_value ho (by kernel_rfl) hr (made_val (d := 48) (by kernel_rfl) rfl JJ (fun _ _ _ _ h => h))
 | 2, _, h1, hdep, ho =>
   have JJ := J141_17_any 2 (by decide) hst.world
   have s7 : a.eval (.tmp 7) = .int .i64 (kk : Int) := (hst.rest 7 (by kernel_rfl)).trans hs7
   have hr : (execOp a.eval (opAt ops141_17 2)).run Tryz.prog w = .ok (.value (.int .i64 (kk : Int))) w := run_moved (x := .tmp 7) (by kernel_rfl) s7
   exact op_value ho (by kernel_rfl) hr (made_val (d := 49) (by kernel_rfl) rfl JJ (fun _ _ _ _ h => h))
 | 3, _, h1, hdep, ho =>
   have JJ := J141_17_any 3 (by decide) hst.world
   have g2 : a.eval (.tmp 49) = .int .i64 (kk : Int) := hst.got 2 (hdep 2 (by kernel_rfl))
   have hr : (execOp a.eval (opAt ops141_17 3)).run Tryz.prog w = .ok (.value (.int .i64 (4 * kk : Int))) w := run_mul64 (by rw [IntKind.wrap_i64]; omega) (show (opAt ops141_17 3).op = .binOp .mul 3 (.const (.int .i64 4)) (.tmp 49) 3 from (by kernel_rfl)) rfl g2
   exact op_value ho (by kernel_rfl) hr (made_val (d := 50) (by kernel_rfl) rfl JJ (fun _ _ _ _ h => h))
 | 4, _, h1, hdep, ho =>
   have JJ := J141_17_any 4 (by decide) hst.world
   have g3 : a.eval (.tmp 50) = .int .i64 (4 * kk : Int) := hst.got 3 (hdep 3 (by kernel_rfl))
   have hr : (execOp a.eval (opAt ops141_17 4)).run Tryz.prog w = .ok (.value (.int .i64 (4 * kk + 1 : Int))) w := run_add64 (by rw [IntKind.wrap_i64]; omega) (show (opAt ops141_17 4).op = .binOp .add 3 (.tmp 50) (.const (.int .i64 1)) 3 from (by kernel_rfl)) g3 rfl
   exact op_value ho (by kernel_rfl) hr (made_val (d := 51) (by kernel_rfl) rfl JJ (fun _ _ _ _ h => h))
 | 5, _, h1, hdep, ho =>
   have JJ := J141_17_any 5 (by decide) hst.world
   have s7 : a.eval (.tmp 7) = .int .i64 (kk : Int) := (hst.rest 7 (by kernel_rfl)).trans hs7
   have hr : (execOp a.eval (opAt ops141_17 5)).run Tryz.prog w = .ok (.value (.int .i64 (kk : Int))) w := run_moved (x := .tmp 7) (by kernel_rfl) s7
   exact op_value ho (by kernel_rfl) hr (made_val (d := 52) (by kernel_rfl) rfl JJ (fun _ _ _ _ h => h))
 | 6, _, h1, hdep, ho =>
   have JJ := J141_17_any 6 (by decide) hst.world
   have g5 : a.eval (.tmp 52) = .int .i64 (kk : Int) := hst.got 5 (hdep 5 (by kernel_rfl))
   have hr : (execOp a.eval (opAt ops141_17 6)).run Tryz.prog w = .ok (.value (.int .i64 (4 * kk : Int))) w := run_mul64 (by rw [IntKind.wrap_i64]; omega) (show (opAt ops141_17 6).op = .binOp .mul 3 (.const (.int .i64 4)) (.tmp 52) 3 from (by kernel_rfl)) rfl g5
   exact op_value ho (by kernel_rfl) hr (made_val (d := 53) (by kernel_rfl) rfl JJ (fun _ _ _ _ h => h))
 | 7, _, h1, hdep, ho =>
   have JJ := J141_17_any 7 (by decide) hst.world
   have g6 : a.eval (.tmp 53) = .int .i64 (4 * kk : Int) := hst.got 6 (hdep 6 (by kernel_rfl))
   have hr : (execOp a.eval (opAt ops141_17 7)).run Tryz.prog w = .ok (.value (.int .i64 (4 * kk + 2 : Int))) w := run_add64 (by rw [IntKind.wrap_i64]; omega) (show (opAt ops141_17 7).op = .binOp .add 3 (.tmp 53) (.const (.int .i64 2)) 3 from (by kernel_rfl)) g6 rfl
   exact op_value ho (by kernel_rfl) hr (made_val (d := 54) (by kernel_rfl) rfl JJ (fun _ _ _ _ h => h))
 | 8, _, h1, hdep, ho =>
   have JJ := J141_17_any 8 (by decide) hst.world
   have s7 : a.eval (.tmp 7) = .int .i64 (kk : Int) := (hst.rest 7 (by kernel_rfl)).trans hs7
   have hr : (execOp a.eval (opAt ops141_17 8)).run Tryz.prog w = .ok (.value (.int .i64 (kk : Int))) w := run_moved (x := .tmp 7) (by kernel_rfl) s7
   exact op_value ho (by kernel_rfl) hr (made_val (d := 55) (by kernel_rfl) rfl JJ (fun _ _ _ _ h => h))
 | 9, _, h1, hdep, ho =>
   have JJ := J141_17_any 9 (by decide) hst.world
   have g8 : a.eval (.tmp 55) = .int .i64 (kk : Int) := hst.got 8 (hdep 8 (by kernel_rfl))
   have hr : (execOp a.eval (opAt ops141_17 9)).run Tryz.prog w = .ok (.value (.int .i64 (4 * kk : Int))) w := run_mul64 (by rw [IntKind.wrap_i64]; omega) (show (opAt ops141_17 9).op = .binOp .mul 3 (.const (.int .i64 4)) (.tmp 55) 3 from (by kernel_rfl)) rfl g8
   exact op_value ho (by kernel_rfl) hr (made_val (d := 56) (by kernel_rfl) rfl JJ (fun _ _ _ _ h => h))
 | 10, _, h1, hdep, ho =>
   have JJ := J141_17_any 10 (by decide) hst.world
   have g9 : a.eval (.tmp 56) = .int .i64 (4 * kk : Int) := hst.got 9 (hdep 9 (by kernel_rfl))
   have hr : (execOp a.eval (opAt ops141_17 10)).run Tryz.prog w = .ok (.value (.int .i64 (4 * kk + 3 : Int))) w := run_add64 (by rw [IntKind.wrap_i64]; omega) (show (opAt ops141_17 10).op = .binOp .add 3 (.tmp 56) (.const (.int .i64 3)) 3 from (by kernel_rfl)) g9 rfl
   exact op_value ho (by kernel_rfl) hr (made_val (d := 57) (by kernel_rfl) rfl JJ (fun _ _ _ _ h => h))
 | 11, _, h1, hdep, ho =>
   have JJ := J141_17_any 11 (by decide) hst.world
   have s8 : a.eval (.tmp 8) = U x := (hst.rest 8 (by kernel_rfl)).trans hs8
   have hr : (execOp a.eval (opAt ops141_17 11)).run Tryz.prog w = .ok (.value (U x)) w := run_moved (x := .tmp 8) (by kernel_rfl) s8
   exact op_value ho (by kernel_rfl) hr (made_val (d := 58) (by kernel_rfl) rfl JJ (fun _ _ _ _ h => h))
 | 12, _, h1, hdep, ho =>
   have JJ := J141_17_any 12 (by decide) hst.world
   have g11 : a.eval (.tmp 58) = U x := hst.got 11 (hdep 11 (by kernel_rfl))
   have hr : (execOp a.eval (opAt ops141_17 12)).run Tryz.prog w = .ok (.value (U (x >>> 24))) w := run_shr32 (k := 24) (by decide) (show (opAt ops141_17 12).op = .binOp .shr 184 (.tmp 58) (.const (.int .u64 24)) 118 from (by kernel_rfl)) g11 rfl
   exact op_value ho (by kernel_rfl) hr (made_val (d := 59) (by kernel_rfl) rfl JJ (fun _ _ _ _ h => h))
 | 13, _, h1, hdep, ho =>
   have JJ := J141_17_any 13 (by decide) hst.world
   have g12 : a.eval (.tmp 59) = U (x >>> 24) := hst.got 12 (hdep 12 (by kernel_rfl))
   have hr : (execOp a.eval (opAt ops141_17 13)).run Tryz.prog w = .ok (.value (.int .u8 ((((x >>> 24)).toNat % 256 : Nat) : Int))) w := run_conv8 (show (opAt ops141_17 13).op = .convert 184 5 (.tmp 59) from (by kernel_rfl)) g12
   exact op_value ho (by kernel_rfl) hr (made_val (d := 60) (by kernel_rfl) rfl JJ (fun _ _ _ _ h => h))
 | 14, _, h1, hdep, ho =>
   have JJ := J141_17_any 14 (by decide) hst.world
   have s8 : a.eval (.tmp 8) = U x := (hst.rest 8 (by kernel_rfl)).trans hs8
   have hr : (execOp a.eval (opAt ops141_17 14)).run Tryz.prog w = .ok (.value (U x)) w := run_moved (x := .tmp 8) (by kernel_rfl) s8
   exact op_value ho (by kernel_rfl) hr (made_val (d := 61) (by kernel_rfl) rfl JJ (fun _ _ _ _ h => h))
 | 15, _, h1, hdep, ho =>
   have JJ := J141_17_any 15 (by decide) hst.world
   have g14 : a.eval (.tmp 61) = U x := hst.got 14 (hdep 14 (by kernel_rfl))
   have hr : (execOp a.eval (opAt ops141_17 15)).run Tryz.prog w = .ok (.value (U (x >>> 16))) w := run_shr32 (k := 16) (by decide) (show (opAt ops141_17 15).op = .binOp .shr 184 (.tmp 61) (.const (.int .u64 16)) 118 from (by kernel_rfl)) g14 rfl
   exact op_value ho (by kernel_rfl) hr (made_val (d := 62) (by kernel_rfl) rfl JJ (fun _ _ _ _ h => h))
 | 16, _, h1, hdep, ho =>
   have JJ := J141_17_any 16 (by decide) hst.world
   have g15 : a.eval (.tmp 62) = U (x >>> 16) := hst.got 15 (hdep 15 (by kernel_rfl))
   have hr : (execOp a.eval (opAt ops141_17 16)).run Tryz.prog w = .ok (.value (.int .u8 ((((x >>> 16)).toNat % 256 : Nat) : Int))) w := run_conv8 (show (opAt ops141_17 16).op = .convert 184 5 (.tmp 62) from (by kernel_rfl)) g15
   exact op_value ho (by kernel_rfl) hr (made_val (d := 63) (by kernel_rfl) rfl JJ (fun _ _ _ _ h => h))
 | 17, _, h1, hdep, ho =>
   have JJ := J141_17_any 17 (by decide) hst.world
   have s8 : a.eval (.tmp 8) = U x := (hst.rest 8 (by kernel_rfl)).trans hs8
   have hr : (execOp a.eval (opAt ops141_17 17)).run Tryz.prog w = .ok (.value (U x)) w := run_moved (x := .tmp 8) (by kernel_rfl) s8
   exact op_value ho (by kernel_rfl) hr (made_val (d := 64) (by kernel_rfl) rfl JJ (fun _ _ _ _ h => h))
 | 18, _, h1, hdep, ho =>
   have JJ := J141_17_any 18 (by decide) hst.world
   have g17 : a.eval (.tmp 64) = U x := hst.got 17 (hdep 17 (by kernel_rfl))
   have hr : (execOp a.eval (opAt ops141_17 18)).run Tryz.prog w = .ok (.value (U (x >>> 8))) w := run_shr32 (k := 8) (by decide) (show (opAt ops141_17 18).op = .binOp .shr 184 (.tmp 64) (.const (.int .u64 8)) 118 from (by kernel_rfl)) g17 rfl
   exact op_value ho (by kernel_rfl) hr (made_val (d := 65) (by kernel_rfl) rfl JJ (fun _ _ _ _ h => h))
 | 19, _, h1, hdep, ho =>
   have JJ := J141_17_any 19 (by decide) hst.world
   have g18 : a.eval (.tmp 65) = U (x >>> 8) := hst.got 18 (hdep 18 (by kernel_rfl))
   have hr : (execOp a.eval (opAt ops141_17 19)).run Tryz.prog w = .ok (.value (.int .u8 ((((x >>> 8)).toNat % 256 : Nat) : Int))) w := run_conv8 (show (opAt ops141_17 19).op = .convert 184 5 (.tmp 65) from (by kernel_rfl)) g18
   exact op_value ho (by kernel_rfl) hr (made_val (d := 66) (by kernel_rfl) rfl JJ (fun _ _ _ _ h => h))
 | 20, _, h1, hdep, ho =>
   have JJ := J141_17_any 20 (by decide) hst.world
   have s8 : a.eval (.tmp 8) = U x := (hst.rest 8 (by kernel_rfl)).trans hs8
   have hr : (execOp a.eval (opAt ops141_17 20)).run Tryz.prog w = .ok (.value (U x)) w := run_moved (x := .tmp 8) (by kernel_rfl) s8
   exact op_value ho (by kernel_rfl) hr (made_val (d := 67) (by kernel_rfl) rfl JJ (fun _ _ _ _ h => h))
 | 21, _, h1, hdep, ho =>
   have JJ := J141_17_any 21 (by decide) hst.world
   have g20 : a.eval (.tmp 67) = U x := hst.got 20 (hdep 20 (by kernel_rfl))
   have hr : (execOp a.eval (opAt ops141_17 21)).run Tryz.prog w = .ok (.value (.int .u8 (((x).toNat % 256 : Nat) : Int))) w := run_conv8 (show (opAt ops141_17 21).op = .convert 184 5 (.tmp 67) from (by kernel_rfl)) g20
   exact op_value ho (by kernel_rfl) hr (made_val (d := 68) (by kernel_rfl) rfl JJ (fun _ _ _ _ h => h))
 | 22, _, h1, hdep, ho =>
   have JJ := J141_17_any 22 (by decide) hst.world
   have s6 : a.eval (.tmp 6) = .pointer (some ⟨b, 0, none⟩) := (hst.rest 6 (by kernel_rfl)).trans hs6
   have g1 : a.eval (.tmp 48) = .int .i64 (4 * kk : Int) := hst.got 1 (hdep 1 (by kernel_rfl))
   have hr : (execOp a.eval (opAt ops141_17 22)).run Tryz.prog w = .ok (.value (.pointer (some ⟨b, 4 * kk, none⟩))) w := (show 0 + (4 * kk) = 4 * kk from Nat.zero_add _) ▸ run_idx177 (n := 0) (k := 4 * kk) (by omega) (by omega) (show (opAt ops141_17 22).op = .indexAddr 177 (.tmp 6) (.tmp 48) from (by kernel_rfl)) s6 g1
   exact op_value ho (by kernel_rfl) hr (made_val (d := 69) (by kernel_rfl) rfl JJ (fun _ _ _ _ h => h))
 | 23, _, h1, hdep, ho =>
   have hw : w = W0 := hst.world.1 (unl h1)
   obtain rfl : W0 = w := hw.symm
   have g22 : a.eval (.tmp 69) = .pointer (some ⟨b, 4 * kk, none⟩) := hst.got 22 (hdep 22 (by kernel_rfl))
   have g13 : a.eval (.tmp 60) = .int .u8 ((((x >>> 24)).toNat % 256 : Nat) : Int) := hst.got 13 (hdep 13 (by kernel_rfl))
   have hr : (execOp a.eval (opAt ops141_17 23)).run Tryz.prog (W0) = .ok .skip ((W0).setCell ⟨b, 4 * kk, none⟩ (.int .u8 ((((x >>> 24)).toNat % 256 : Nat) : Int))) := run_store5 c0 (by exact hf _) (show (opAt ops141_17 23).op = .store 5 (.tmp 69) (.tmp 60) from (by kernel_rfl)) g22 g13
   refine op_skip ho (by kernel_rfl) hr (made_skip (by kernel_rfl) trivial ⟨fun h => by (rw [set_same (by rw [hs]; decide)] at h; cases h), fun _ _ => rfl, fun h _ => by (rw [getD_set_ne false (by decide)] at h; rw [unlisted hs hd h1 (show waits .any ops141_17 25 23 = true from (by kernel_rfl))] at h; cases h), fun h _ => by (rw [getD_set_ne false (by decide)] at h; rw [unlisted hs hd h1 (show waits .any ops141_17 27 23 = true from (by kernel_rfl))] at h; cases h), fun h => by (rw [getD_set_ne false (by decide)] at h; rw [unlisted hs hd h1 (show waits .any ops141_17 29 23 = true from (by kernel_rfl))] at h; cases h)⟩ (fun j _ _ u h => ?_))
   match j, h with
   | 0, h => exact (show _ = _ from h)
   | 1, h => exact (show _ = _ from h)
   | 2, h => exact (show _ = _ from h)
   | 3, h => exact (show _ = _ from h)
   | 4, h => exact (show _ = _ from h)
   | 5, h => exact (show _ = _ from h)
   | 6, h => exact (show _ = _ from h)
   | 7, h => exact (show _ = _ from h)
   | 8, h => exact (show _ = _ from h)
   | 9, h => exact (show _ = _ from h)
   | 10, h => exact (show _ = _ from h)
   | 11, h => exact (show _ = _ from h)
   | 12, h => exact (show _ = _ from h)
   | 13, h => exact (show _ = _ from h)
   | 14, h => exact (show _ = _ from h)
   | 15, h => exact (show _ = _ from h)
   | 16, h => exact (show _ = _ from h)
   | 17, h => exact (show _ = _ from h)
   | 18, h => exact (show _ = _ from h)
   | 19, h => exact (show _ = _ from h)
   | 20, h => exact (show _ = _ from h)
   | 21, h => exact (show _ = _ from h)
   | 22, h => exact (show _ = _ from h)
   | 23, h => exact (show True from h)
   | 24, h => exact (show _ = _ from h)
   | 25, h => exact (show True from h)
   | 26, h => exact (show _ = _ from h)
   | 27, h => exact (show True from h)
   | 28, h => exact (show _ = _ from h)
   | 29, h => exact (show True from h)
   | _ + 30, _ => exact trivial
 | 24, _, h1, hdep, ho =>
   have JJ := J141_17_any 24 (by decide) hst.world
   have s6 : a.eval (.tmp 6) = .pointer (some ⟨b, 0, none⟩) := (hst.rest 6 (by kernel_rfl)).trans hs6
   have g4 : a.eval (.tmp 51) = .int .i64 (4 * kk + 1 : Int) := hst.got 4 (hdep 4 (by kernel_rfl))
   have hr : (execOp a.eval (opAt ops141_17 24)).run Tryz.prog w = .ok (.value (.pointer (some ⟨b, 4 * kk + 1, none⟩))) w := (show 0 + (4 * kk + 1) = 4 * kk + 1 from Nat.zero_add _) ▸ run_idx177 (n := 0) (k := 4 * kk + 1) (by omega) (by omega) (show (opAt ops141_17 24).op = .indexAddr 177 (.tmp 6) (.tmp 51) from (by kernel_rfl)) s6 g4
   exact op_value ho (by kernel_rfl) hr (made_val (d := 70) (by kernel_rfl) rfl JJ (fun _ _ _ _ h => h))
 | 25, _, h1, hdep, ho =>
   have hw : w = (W0).setCell ⟨b, 4 * kk, none⟩ (.int .u8 ((((x >>> 24)).toNat % 256 : Nat) : Int)) := hst.world.2.1 (hdep 23 (by kernel_rfl)) (unl h1)
   subst w
   have g24 : a.eval (.tmp 70) = .pointer (some ⟨b, 4 * kk + 1, none⟩) := hst.got 24 (hdep 24 (by kernel_rfl))
   have g16 : a.eval (.tmp 63) = .int .u8 ((((x >>> 16)).toNat % 256 : Nat) : Int) := hst.got 16 (hdep 16 (by kernel_rfl))
   have hr : (execOp a.eval (opAt ops141_17 25)).run Tryz.prog ((W0).setCell ⟨b, 4 * kk, none⟩ (.int .u8 ((((x >>> 24)).toNat % 256 : Nat) : Int))) = .ok .skip (((W0).setCell ⟨b, 4 * kk, none⟩ (.int .u8 ((((x >>> 24)).toNat % 256 : Nat) : Int))).setCell ⟨b, 4 * kk + 1, none⟩ (.int .u8 ((((x >>> 16)).toNat % 256 : Nat) : Int))) := run_store5 (cell_set c1 (by omega)) (by rw [World.frozen?_setCell]; exact hf _) (show (opAt ops141_17 25).op = .store 5 (.tmp 70) (.tmp 63) from (by kernel_rfl)) g24 g16
   refine op_skip ho (by kernel_rfl) hr (made_skip (by kernel_rfl) trivial ⟨fun h => by (rw [getD_set_ne false (by decide)] at h; rw [hdep 23 (by kernel_rfl)] at h; cases h), fun _ h => by (rw [set_same (by rw [hs]; decide)] at h; cases h), fun _ _ => rfl, fun h _ => by (rw [getD_set_ne false (by decide)] at h; rw [unlisted hs hd h1 (show waits .any ops141_17 27 25 = true from (by kernel_rfl))] at h; cases h), fun h => by (rw [getD_set_ne false (by decide)] at h; rw [unlisted hs hd h1 (show waits .any ops141_17 29 25 = true from (by kernel_rfl))] at h; cases h)⟩ (fun j _ _ u h => ?_))
   match j, h with
   | 0, h => exact (show _ = _ from h)
   | 1, h => exact (show _ = _ from h)
   | 2, h => exact (show _ = _ from h)
   | 3, h => exact (show _ = _ from h)
   | 4, h => exact (show _ = _ from h)
   | 5, h => exact (show _ = _ from h)
   | 6, h => exact (show _ = _ from h)
   | 7, h => exact (show _ = _ from h)
   | 8, h => exact (show _ = _ from h)
   | 9, h => exact (show _ = _ from h)
   | 10, h => exact (show _ = _ from h)
   | 11, h => exact (show _ = _ from h)
   | 12, h => exact (show _ = _ from h)
   | 13, h => exact (show _ = _ from h)
   | 14, h => exact (show _ = _ from h)
   | 15, h => exact (show _ = _ from h)
   | 16, h => exact (show _ = _ from h)
   | 17, h => exact (show _ = _ from h)
   | 18, h => exact (show _ = _ from h)
   | 19, h => exact (show _ = _ from h)
   | 20, h => exact (show _ = _ from h)
   | 21, h => exact (show _ = _ from h)
   | 22, h => exact (show _ = _ from h)
   | 23, h => exact (show True from h)
   | 24, h => exact (show _ = _ from h)
   | 25, h => exact (show True from h)
   | 26, h => exact (show _ = _ from h)
   | 27, h => exact (show True from h)
   | 28, h => exact (show _ = _ from h)
   | 29, h => exact (show True from h)
   | _ + 30, _ => exact trivial
 | 26, _, h1, hdep, ho =>
   have JJ := J141_17_any 26 (by decide) hst.world
   have s6 : a.eval (.tmp 6) = .pointer (some ⟨b, 0, none⟩) := (hst.rest 6 (by kernel_rfl)).trans hs6
   have g7 : a.eval (.tmp 54) = .int .i64 (4 * kk + 2 : Int) := hst.got 7 (hdep 7 (by kernel_rfl))
   have hr : (execOp a.eval (opAt ops141_17 26)).run Tryz.prog w = .ok (.value (.pointer (some ⟨b, 4 * kk + 2, none⟩))) w := (show 0 + (4 * kk + 2) = 4 * kk + 2 from Nat.zero_add _) ▸ run_idx177 (n := 0) (k := 4 * kk + 2) (by omega) (by omega) (show (opAt ops141_17 26).op = .indexAddr 177 (.tmp 6) (.tmp 54) from (by kernel_rfl)) s6 g7
   exact op_value ho (by kernel_rfl) hr (made_val (d := 71) (by kernel_rfl) rfl JJ (fun _ _ _ _ h => h))
 | 27, _, h1, hdep, ho =>
   have hw : w = ((W0).setCell ⟨b, 4 * kk, none⟩ (.int .u8 ((((x >>> 24)).toNat % 256 : Nat) : Int))).setCell ⟨b, 4 * kk + 1, none⟩ (.int .u8 ((((x >>> 16)).toNat % 256 : Nat) : Int)) := hst.world.2.2.1 (hdep 25 (by kernel_rfl)) (unl h1)
   subst w
   have g26 : a.eval (.tmp 71) = .pointer (some ⟨b, 4 * kk + 2, none⟩) := hst.got 26 (hdep 26 (by kernel_rfl))
   have g19 : a.eval (.tmp 66) = .int .u8 ((((x >>> 8)).toNat % 256 : Nat) : Int) := hst.got 19 (hdep 19 (by kernel_rfl))
   have hr : (execOp a.eval (opAt ops141_17 27)).run Tryz.prog (((W0).setCell ⟨b, 4 * kk, none⟩ (.int .u8 ((((x >>> 24)).toNat % 256 : Nat) : Int))).setCell ⟨b, 4 * kk + 1, none⟩ (.int .u8 ((((x >>> 16)).toNat % 256 : Nat) : Int))) = .ok .skip ((((W0).setCell ⟨b, 4 * kk, none⟩ (.int .u8 ((((x >>> 24)).toNat % 256 : Nat) : Int))).setCell ⟨b, 4 * kk + 1, none⟩ (.int .u8 ((((x >>> 16)).toNat % 256 : Nat) : Int))).setCell ⟨b, 4 * kk + 2, none⟩ (.int .u8 ((((x >>> 8)).toNat % 256 : Nat) : Int))) := run_store5 (cell_set (cell_set c2 (by omega)) (by omega)) (by rw [World.frozen?_setCell]; rw [World.frozen?_setCell]; exact hf _) (show (opAt ops141_17 27).op = .store 5 (.tmp 71) (.tmp 66) from (by kernel_rfl)) g26 g19
   refine op_skip ho (by kernel_rfl) hr (made_skip (by kernel_rfl) trivial ⟨fun h => by (rw [getD_set_ne false (by decide)] at h; rw [hdep 23 (by kernel_rfl)] at h; cases h), fun _ h => by (rw [getD_set_ne false (by decide)] at h; rw [hdep 25 (by kernel_rfl)] at h; cases h), fun _ h => by (rw [set_same (by rw [hs]; decide)] at h; cases h), fun _ _ => rfl, fun h => by (rw [getD_set_ne false (by decide)] at h; rw [unlisted hs hd h1 (show waits .any ops141_17 29 27 = true from (by kernel_rfl))] at h; cases h)⟩ (fun j _ _ u h => ?_))
   match j, h with
   | 0, h => exact (show _ = _ from h)
   | 1, h => exact (show _ = _ from h)
   | 2, h => exact (show _ = _ from h)
   | 3, h => exact (show _ = _ from h)
   | 4, h => exact (show _ = _ from h)
   | 5, h => exact (show _ = _ from h)
   | 6, h => exact (show _ = _ from h)
   | 7, h => exact (show _ = _ from h)
   | 8, h => exact (show _ = _ from h)
   | 9, h => exact (show _ = _ from h)
   | 10, h => exact (show _ = _ from h)
   | 11, h => exact (show _ = _ from h)
   | 12, h => exact (show _ = _ from h)
   | 13, h => exact (show _ = _ from h)
   | 14, h => exact (show _ = _ from h)
   | 15, h => exact (show _ = _ from h)
   | 16, h => exact (show _ = _ from h)
   | 17, h => exact (show _ = _ from h)
   | 18, h => exact (show _ = _ from h)
   | 19, h => exact (show _ = _ from h)
   | 20, h => exact (show _ = _ from h)
   | 21, h => exact (show _ = _ from h)
   | 22, h => exact (show _ = _ from h)
   | 23, h => exact (show True from h)
   | 24, h => exact (show _ = _ from h)
   | 25, h => exact (show True from h)
   | 26, h => exact (show _ = _ from h)
   | 27, h => exact (show True from h)
   | 28, h => exact (show _ = _ from h)
   | 29, h => exact (show True from h)
   | _ + 30, _ => exact trivial
 | 28, _, h1, hdep, ho =>
   have JJ := J141_17_any 28 (by decide) hst.world
   have s6 : a.eval (.tmp 6) = .pointer (some ⟨b, 0, none⟩) := (hst.rest 6 (by kernel_rfl)).trans hs6
   have g10 : a.eval (.tmp 57) = .int .i64 (4 * kk + 3 : Int) := hst.got 10 (hdep 10 (by kernel_rfl))
   have hr : (execOp a.eval (opAt ops141_17 28)).run Tryz.prog w = .ok (.value (.pointer (some ⟨b, 4 * kk + 3, none⟩))) w := (show 0 + (4 * kk + 3) = 4 * kk + 3 from Nat.zero_add _) ▸ run_idx177 (n := 0) (k := 4 * kk + 3) (by omega) (by omega) (show (opAt ops141_17 28).op = .indexAddr 177 (.tmp 6) (.tmp 57) from (by kernel_rfl)) s6 g10
   exact op_value ho (by kernel_rfl) hr (made_val (d := 72) (by kernel_rfl) rfl JJ (fun _ _ _ _ h => h))
 | 29, _, h1, hdep, ho =>
   have hw : w = (((W0).setCell ⟨b, 4 * kk, none⟩ (.int .u8 ((((x >>> 24)).toNat % 256 : Nat) : Int))).setCell ⟨b, 4 * kk + 1, none⟩ (.int .u8 ((((x >>> 16)).toNat % 256 : Nat) : Int))).setCell ⟨b, 4 * kk + 2, none⟩ (.int .u8 ((((x >>> 8)).toNat % 256 : Nat) : Int)) := hst.world.2.2.2.1 (hdep 27 (by kernel_rfl)) (unl h1)
   subst w
   have g28 : a.eval (.tmp 72) = .pointer (some ⟨b, 4 * kk + 3, none⟩) := hst.got 28 (hdep 28 (by kernel_rfl))
   have g21 : a.eval (.tmp 68) = .int .u8 (((x).toNat % 256 : Nat) : Int) := hst.got 21 (hdep 21 (by kernel_rfl))
   have hr : (execOp a.eval (opAt ops141_17 29)).run Tryz.prog ((((W0).setCell ⟨b, 4 * kk, none⟩ (.int .u8 ((((x >>> 24)).toNat % 256 : Nat) : Int))).setCell ⟨b, 4 * kk + 1, none⟩ (.int .u8 ((((x >>> 16)).toNat % 256 : Nat) : Int))).setCell ⟨b, 4 * kk + 2, none⟩ (.int .u8 ((((x >>> 8)).toNat % 256 : Nat) : Int))) = .ok .skip (((((W0).setCell ⟨b, 4 * kk, none⟩ (.int .u8 ((((x >>> 24)).toNat % 256 : Nat) : Int))).setCell ⟨b, 4 * kk + 1, none⟩ (.int .u8 ((((x >>> 16)).toNat % 256 : Nat) : Int))).setCell ⟨b, 4 * kk + 2, none⟩ (.int .u8 ((((x >>> 8)).toNat % 256 : Nat) : Int))).setCell ⟨b, 4 * kk + 3, none⟩ (.int .u8 (((x).toNat % 256 : Nat) : Int))) := run_store5 (cell_set (cell_set (cell_set c3 (by omega)) (by omega)) (by omega)) (by rw [World.frozen?_setCell]; rw [World.frozen?_setCell]; rw [World.frozen?_setCell]; exact hf _) (show (opAt ops141_17 29).op = .store 5 (.tmp 72) (.tmp 68) from (by kernel_rfl)) g28 g21
   refine op_skip ho (by kernel_rfl) hr (made_skip (by kernel_rfl) trivial ⟨fun h => by (rw [getD_set_ne false (by decide)] at h; rw [hdep 23 (by kernel_rfl)] at h; cases h), fun _ h => by (rw [getD_set_ne false (by decide)] at h; rw [hdep 25 (by kernel_rfl)] at h; cases h), fun _ h => by (rw [getD_set_ne false (by decide)] at h; rw [hdep 27 (by kernel_rfl)] at h; cases h), fun _ h => by (rw [set_same (by rw [hs]; decide)] at h; cases h), fun _ => rfl⟩ (fun j _ _ u h => ?_))
   match j, h with
   | 0, h => exact (show _ = _ from h)
   | 1, h => exact (show _ = _ from h)
   | 2, h => exact (show _ = _ from h)
   | 3, h => exact (show _ = _ from h)
   | 4, h => exact (show _ = _ from h)
   | 5, h => exact (show _ = _ from h)
   | 6, h => exact (show _ = _ from h)
   | 7, h => exact (show _ = _ from h)
   | 8, h => exact (show _ = _ from h)
   | 9, h => exact (show _ = _ from h)
   | 10, h => exact (show _ = _ from h)
   | 11, h => exact (show _ = _ from h)
   | 12, h => exact (show _ = _ from h)
   | 13, h => exact (show _ = _ from h)
   | 14, h => exact (show _ = _ from h)
   | 15, h => exact (show _ = _ from h)
   | 16, h => exact (show _ = _ from h)
   | 17, h => exact (show _ = _ from h)
   | 18, h => exact (show _ = _ from h)
   | 19, h => exact (show _ = _ from h)
   | 20, h => exact (show _ = _ from h)
   | 21, h => exact (show _ = _ from h)
   | 22, h => exact (show _ = _ from h)
   | 23, h => exact (show True from h)
   | 24, h => exact (show _ = _ from h)
   | 25, h => exact (show True from h)
   | 26, h => exact (show _ = _ from h)
   | 27, h => exact (show True from h)
   | 28, h => exact (show _ = _ from h)
   | 29, h => exact (show True from h)
   | _ + 30, _ => exact trivial
 | k + 30, hi, _, _, _ => exact absurd hi (by omega)
end Go.Proofs.YtoimjnmhinfbkaaGreatDoor

namespace Go.Proofs.YtoimjnmhinfbkaaGreatDoor
open Go.RowKit
set_option maxRecDepth 100000
theorem act75 {a : Act} (hs : a.tmps.size = 75) : a = ⟨#[a.eval (.tmp 0), a.eval (.tmp 1), a.eval (.tmp 2), a.eval (.tmp 3), a.eval (.tmp 4), a.eval (.tmp 5), a.eval (.tmp 6), a.eval (.tmp 7), a.eval (.tmp 8), a.eval (.tmp 9), a.eval (.tmp 10), a.eval (.tmp 11), a.eval (.tmp 12), a.eval (.tmp 13), a.eval (.tmp 14), a.eval (.tmp 15), a.eval (.tmp 16), a.eval (.tmp 17), a.eval (.tmp 18), a.eval (.tmp 19), a.eval (.tmp 20), a.eval (.tmp 21), a.eval (.tmp 22), a.eval (.tmp 23), a.eval (.tmp 24), a.eval (.tmp 25), a.eval (.tmp 26), a.eval (.tmp 27), a.eval (.tmp 28), a.eval (.tmp 29), a.eval (.tmp 30), a.eval (.tmp 31), a.eval (.tmp 32), a.eval (.tmp 33), a.eval (.tmp 34), a.eval (.tmp 35), a.eval (.tmp 36), a.eval (.tmp 37), a.eval (.tmp 38), a.eval (.tmp 39), a.eval (.tmp 40), a.eval (.tmp 41), a.eval (.tmp 42), a.eval (.tmp 43), a.eval (.tmp 44), a.eval (.tmp 45), a.eval (.tmp 46), a.eval (.tmp 47), a.eval (.tmp 48), a.eval (.tmp 49), a.eval (.tmp 50), a.eval (.tmp 51), a.eval (.tmp 52), a.eval (.tmp 53), a.eval (.tmp 54), a.eval (.tmp 55), a.eval (.tmp 56), a.eval (.tmp 57), a.eval (.tmp 58), a.eval (.tmp 59), a.eval (.tmp 60), a.eval (.tmp 61), a.eval (.tmp 62), a.eval (.tmp 63), a.eval (.tmp 64), a.eval (.tmp 65), a.eval (.tmp 66), a.eval (.tmp 67), a.eval (.tmp 68), a.eval (.tmp 69), a.eval (.tmp 70), a.eval (.tmp 71), a.eval (.tmp 72), a.eval (.tmp 73), a.eval (.tmp 74)], a.defers⟩ := act_ext rfl (by rw [hs]; rfl) (fun s h => by
 rw [hs] at h
 match s, h with
 | 0, _ => rfl
 | 1, _ => rfl
 | 2, _ => rfl
 | 3, _ => rfl
 | 4, _ => rfl
 | 5, _ => rfl
 | 6, _ => rfl
 | 7, _ => rfl
 | 8, _ => rfl
 | 9, _ => rfl
 | 10, _ => rfl
 | 11, _ => rfl
 | 12, _ => rfl
 | 13, _ => rfl
 | 14, _ => rfl
 | 15, _ => rfl
 | 16, _ => rfl
 | 17, _ => rfl
 | 18, _ => rfl
 | 19, _ => rfl
 | 20, _ => rfl
 | 21, _ => rfl
 | 22, _ => rfl
 | 23, _ => rfl
 | 24, _ => rfl
 | 25, _ => rfl
 | 26, _ => rfl
 | 27, _ => rfl
 | 28, _ => rfl
 | 29, _ => rfl
 | 30, _ => rfl
 | 31, _ => rfl
 | 32, _ => rfl
 | 33, _ => rfl
 | 34, _ => rfl
 | 35, _ => rfl
 | 36, _ => rfl
 | 37, _ => rfl
 | 38, _ => rfl
 | 39, _ => rfl
 | 40, _ => rfl
 | 41, _ => rfl
 | 42, _ => rfl
 | 43, _ => rfl
 | 44, _ => rfl
 | 45, _ => rfl
 | 46, _ => rfl
 | 47, _ => rfl
 | 48, _ => rfl
 | 49, _ => rfl
 | 50, _ => rfl
 | 51, _ => rfl
 | 52, _ => rfl
 | 53, _ => rfl
 | 54, _ => rfl
 | 55, _ => rfl
 | 56, _ => rfl
 | 57, _ => rfl
 | 58, _ => rfl
 | 59, _ => rfl
 | 60, _ => rfl
 | 61, _ => rfl
 | 62, _ => rfl
 | 63, _ => rfl
 | 64, _ => rfl
 | 65, _ => rfl
 | 66, _ => rfl
 | 67, _ => rfl
 | 68, _ => rfl
 | 69, _ => rfl
 | 70, _ => rfl
 | 71, _ => rfl
 | 72, _ => rfl
 | 73, _ => rfl
 | 74, _ => rfl
 | k + 75, h => exact absurd h (by omega))
theorem results141 (tmps : Array Value) (w : World) (b : Nat) (cs : List Value) (h2 : tmps.getD 2 undef = .pointer (some ⟨b, 0, none⟩)) (hc : w.rangeAt b 0 cs) (hl : cs.length = 32) :
  (results Tryz.f141 tmps).run Tryz.prog w = .ok (.agg cs.toArray) w := by
 have hr := run_loadVar_mid (P := Tryz.prog) w b 0 177 cs (.array 32 5) hc hu177 rfl (by rw [hl]; exact hi177)
 rw [Array.getD_eq_getD_getElem?] at h2
 simp [results, Tryz.results141, h2, hr, asAddr, Sem.run_bind]
set_option maxHeartbeats 3200000 in
theorem sum_any (kl : List (BitVec 32)) (h : HS) (hb : Nat) (w : World) (hok : HOk h) (hn : h.n ≤ 100000000) (hat : HAt w hb h) (hkl : ∀ k, k < 64 → w.cell? ⟨4, k, none⟩ = some (U (kl.getD k 0))) (h4 : 5 ≤ w.heap.size) :
  Calls Tryz.prog 141 #[.pointer (some ⟨hb, 0, none⟩)] w fun e w' => e = .returned (.agg (arrB (outB (feed kl (feed kl h ([128] ++ List.replicate (zerosN h.n) 0)) ((List.range 8).map (lenB h.n))).s 8))) ∧ Below w.heap.size w w' := by
 have HAT := Lib.hid hat
 have HKL := Lib.hid hkl
 have HOK := Lib.hid hok
 have hlt : hb < w.heap.size := World.block_lt_of_cell? w _ ((cell_of_row w hb 0 _ 253 (0, 0) hat).trans (hash_at (by rw [hok.s]; omega)))
 have hsz := Lib.hid (hash_size (n := (h.n : Int)) hok.s hok.hd)
 obtain ⟨d253, hu, hr⟩ := hu253
 have HU := Lib.hid hu
 have HR := Lib.hid hr
 have HN := Lib.hid hn
 clear hat hkl hok hu hr hn
 go_enter Tryz.func141, Tryz.ntmps141
 go_upto_region 4 with (first | (refine wpList_load_mid (by rfl) 253 (.tmp 13) (by rfl) hb 0 (by rfl) (hashC h.s h.hd (h.n : Int)).toList d253 (range_of_heap ((alloc_before hlt).trans HAT.out)) HU.out HR.out (by rw [Array.length_toList, hsz.out]; exact hi253) ?_) | (refine wpList_store_mid (by rfl) 253 (.tmp 3) (.tmp 14) (by rfl) (w.heap.size + 1) 0 (hashC h.s h.hd (h.n : Int)) (by rfl) (by rfl) (by rw [hsz.out]; exact there_of_heap (alloc_at (by simp)) rfl) (by rw [hsz.out]; exact hi253) (hash_ones _ _ _) ?_))
 generalize hWW : World.setCells _ _ _ _ = W
 have HX := Lib.hid (show HAt W (w.heap.size + 1) h from by rw [← hWW]; exact setCells_whole (alloc_at (by simp)) (by rw [hsz.out]; rfl))
 have HRS := Lib.hid (show W.heap[w.heap.size]? = some (.cells (Array.replicate 32 (.int .u8 0)) 177 (0, 0)) from by rw [← hWW]; exact (setCells_block _ _ _ _ _ (by omega)).trans ((alloc_before (by simp)).trans (alloc_at rfl)))
 have HBW := Lib.hid (show Below w.heap.size w W from by rw [← hWW]; exact setCells_below _ (by omega) _ _ (((Below.refl _ _).alloc (Nat.le_refl _) _).alloc (by simp) _))
 have hcn := (cell_of_row W hb 72 _ 253 (0, 0) ((HBW.out.block hb hlt).trans HAT.out)).trans (hash_n HOK.out.s HOK.out.hd)
 have zW : w.heap.size + 2 ≤ W.heap.size := by rw [← hWW, setCells_size]; simp
 clear hWW
 have hw1 : IntKind.u64.wrap (h.n : Int) = (h.n : Int) := by rw [IntKind.wrap_u64]; have := HN.out; omega
 have hw2 : IntKind.u64.wrap ((h.n : Int) * 8) = (h.n : Int) * 8 := by rw [IntKind.wrap_u64]; have := HN.out; omega
 go_wp2_with fail
 clear hw1 hw2 hcn
 have hK4 : ∀ W1 : World, Below w.heap.size w W1 → ∀ k, k < 64 → W1.cell? ⟨4, k, none⟩ = some (U (kl.getD k 0)) := fun W1 hW1 k hk => (hW1.cell (World.block_lt_of_cell? w _ (HKL.out k hk))).trans (HKL.out k hk)
 have HK4 := Lib.hid hK4
 clear hK4
 have HB0 := Lib.hid (HBW.out.alloc (by omega) (.cells #[.int .u8 128] 5))
 refine (write_any kl h [128] (w.heap.size + 1) (some ⟨W.heap.size, 0, none⟩) 1 _ HOK.out (by simp) (by have := HN.out; simp; omega) ((alloc_before (by omega)).trans HX.out) (.inr ⟨_, rfl, by simp only; omega, fun j hj => by
  have hj0 : j = 0 := by simpa using hj
  subst hj0
  rw [show (⟨W.heap.size, 0, none⟩ : Addr).add 0 = ⟨W.heap.size, 0, none⟩ from by unfold Addr.add; rfl]
  exact (cell_of_row _ W.heap.size 0 _ 5 (0, 0) (alloc_at rfl)).trans rfl⟩) (by simp) (by omega) (HK4.out _ HB0.out)).mono ?_
 rintro e w1 ⟨rfl, ha1, hal1, hbl1⟩
 have HX1 := Lib.hid (show HAt w1 (w.heap.size + 1) (feed kl h ([128] ++ List.replicate 0 0)) from by simpa using ha1)
 have HR1 := Lib.hid ((hbl1.block _ (by omega)).trans ((alloc_before (by omega)).trans HRS.out))
 have HB1 := Lib.hid (HB0.out.trans (hbl1.mono (by omega)))
 have z1 : w.heap.size + 2 ≤ w1.heap.size := by have := hal1.size; simp at this; omega
 have hpad : ∀ j, j ≤ zerosN h.n → (feed kl h ([128] ++ List.replicate j 0)).n = h.n + 1 + j := fun j _ => by rw [feed_n]; simp; omega
 have hpok : ∀ j, HOk (feed kl h ([128] ++ List.replicate j 0)) := fun j => HOK.out.feed (fun x hx => by
  rcases List.mem_append.1 hx with h1 | h1
  ·simp at h1; omega
  ·have := (List.mem_replicate.1 h1).2; omega)
 have HPAD := Lib.hid hpad
 have HPOK := Lib.hid hpok
 clear ha1 hal1 hbl1 hpad hpok HX HRS HBW HB0 zW
 go_wp2_with fail
 go_loopw [24] (fun _ wr => ∃ j, j ≤ zerosN h.n ∧ HAt wr (w.heap.size + 1) (feed kl h ([128] ++ List.replicate j 0)) ∧ wr.heap[w.heap.size]? = some (.cells (Array.replicate 32 (.int .u8 0)) 177 (0, 0)) ∧ Below w.heap.size w wr ∧ w.heap.size + 2 ≤ wr.heap.size) (fun _ wr => h.n + 1 + zerosN h.n - nAt (w.heap.size + 1) wr)
 case atStart => exact ⟨0, Nat.zero_le _, HX1.out, HR1.out, HB1.out, z1⟩
 case round =>
  clear HX1 HR1 HB1 z1
  obtain ⟨j, hj, hx, hrs, hbl, zr⟩ := hrel
  have hpn := HPAD.out j hj
  have hpo := HPOK.out j
  have hmeas := nAt_of hpo hx
  have hcn := (cell_of_row wr (w.heap.size + 1) 72 _ 253 (0, 0) hx).trans (hash_n hpo.s hpo.hd)
  rw [hpn] at hcn hmeas
  have HX := Lib.hid hx
  have HRS := Lib.hid hrs
  have HBL := Lib.hid hbl
  have HPO := Lib.hid hpo
  have HPN := Lib.hid hpn
  have HME := Lib.hid hmeas
  have hn0 : (0 : Int) ≤ ((h.n + 1 + j : Nat) : Int) := Int.natCast_nonneg _
  have hn1 : ((h.n + 1 + j : Nat) : Int) ≤ 900000000 := by have := HN.out; have : zerosN h.n < 64 := Nat.mod_lt _ (by decide); omega
  have htm : ((h.n + 1 + j : Nat) : Int).tmod 64 = (((h.n + 1 + j) % 64 : Nat) : Int) := by rw [Int.tmod_eq_emod_of_nonneg hn0]; omega
  clear hx hrs hbl hpo hpn hmeas
  generalize hnj : h.n + 1 + j = nj at hcn hn0 hn1 htm HPN HME
  have HNJ := Lib.hid hnj
  clear hnj
  have HJ := Lib.hid hj
  clear hj
  by_cases hfin : j = zerosN h.n
  ·have h56 : (((nj : Nat) : Int) % 64 != 56) = false := by
    have : nj % 64 = 56 := by rw [← HNJ.out, hfin]; unfold zerosN; omega
    simp; omega
   clear htm
   go_wp2_with fail
   subst hfin
   have hgn : (feed kl h ([128] ++ List.replicate (zerosN h.n) 0)).n = nj := HPN.out
   have hgo := HPO.out
   generalize hge : feed kl h ([128] ++ List.replicate (zerosN h.n) 0) = g at HX hgn hgo
   have HGE := Lib.hid hge
   have HGO := Lib.hid hgo
   have HGN := Lib.hid hgn
   have zb : ∀ i, lenB h.n i < 256 := fun i => Nat.mod_lt _ (by decide)
   have HZB := Lib.hid zb
   clear hge hgo hgn HPO HPN HME HPAD HPOK HNJ HJ zb
   go_loopw [29] (fun i w2 => ∃ k : Nat, k ≤ 8 ∧ i = .int .i64 k ∧ HAt w2 (w.heap.size + 1) (feed kl g ((List.range k).map (lenB h.n))) ∧ w2.heap[w.heap.size]? = some (.cells (Array.replicate 32 (.int .u8 0)) 177 (0, 0)) ∧ Below w.heap.size w w2 ∧ w.heap.size + 2 ≤ w2.heap.size) (fun i _ => 8 - (intOf i).toNat)
   case atStart => exact ⟨0, by omega, rfl, HX.out, HRS.out, HBL.out, zr⟩
   case round =>
    clear HX HRS HBL zr
    obtain ⟨k, hk, rfl, hx, hrs, hbl, zr⟩ := hrel
    have HX := Lib.hid hx
    have HRS := Lib.hid hrs
    have HBL := Lib.hid hbl
    have hk0 : (0 : Int) ≤ (k : Int) := Int.natCast_nonneg _
    have hbk : ∀ x ∈ (List.range k).map (lenB h.n), x < 256 := fun x hx => by
     obtain ⟨i, -, rfl⟩ := List.mem_map.1 hx
     exact HZB.out i
    have HBK := Lib.hid hbk
    clear hx hrs hbl hbk
    by_cases hlt2 : k < 8
    ·have hlt' : (k : Int) < 8 := by omega
     have h8k : 8 * (k : Int) ≤ 56 := by omega
     have h8k' : (0 : Int) ≤ 56 - 8 * (k : Int) := by omega
     go_wp2_with fail
     clear h8k h8k'
     have hle : ((lenB h.n k : Nat) : Int) = (h.n : Int) * 8 / 2 ^ (56 - 8 * k) % 256 := by unfold lenB; simp
     rw [← hle]
     have HB0 := Lib.hid (HBL.out.alloc (by omega) (.cells #[.int .u8 ((lenB h.n k : Nat) : Int)] 5))
     refine (write_any kl (feed kl g ((List.range k).map (lenB h.n))) [lenB h.n k] (w.heap.size + 1) (some ⟨wr.heap.size, 0, none⟩) 1 _ (HGO.out.feed HBK.out) (by simp; exact HZB.out k) (by rw [feed_n, HGN.out]; simp; omega) ((alloc_before (by omega)).trans HX.out) (.inr ⟨_, rfl, by simp only; omega, fun i hi => by
      have hi0 : i = 0 := by simpa using hi
      subst hi0
      rw [show (⟨wr.heap.size, 0, none⟩ : Addr).add 0 = ⟨wr.heap.size, 0, none⟩ from by unfold Addr.add; rfl]
      exact (cell_of_row _ wr.heap.size 0 _ 5 (0, 0) (alloc_at rfl)).trans rfl⟩) (by simp) (by omega) (HK4.out _ HB0.out)).mono ?_
     rintro e w2 ⟨rfl, ha1, hal1, hbl1⟩
     have HX2 := Lib.hid (show HAt w2 (w.heap.size + 1) (feed kl g ((List.range (k + 1)).map (lenB h.n))) from by
      rw [← feed_app] at ha1
      rw [List.range_succ, List.map_append]
      exact ha1)
     have HR2 := Lib.hid ((hbl1.block _ (by omega)).trans ((alloc_before (by omega)).trans HRS.out))
     have HB2 := Lib.hid (HB0.out.trans (hbl1.mono (by omega)))
     have z2 : w.heap.size + 2 ≤ w2.heap.size := by have := hal1.size; simp at this; omega
     clear ha1 hal1 hbl1 HB0 hle
     go_wp2
     go_roundw
     case rel => exact ⟨k + 1, by omega, (by first | rfl | go_num), HX2.out, HR2.out, HB2.out, z2⟩
     case measure => simp [intOf]; omega
    ·have hlt' : ¬ (k : Int) < 8 := by omega
     obtain rfl : k = 8 := by omega
     have hfo := HGO.out.feed (kl := kl) HBK.out
     generalize hfe : feed kl g ((List.range 8).map (lenB h.n)) = f at HX hfo
     have HFE := Lib.hid hfe
     have HFO := Lib.hid hfo
     obtain ⟨s0, s1, s2, s3, s4, s5, s6, s7, hse⟩ := eight hfo.s
     have HSE := Lib.hid hse
     have hS := fun i (hi : i < 8) => (cell_of_row wr (w.heap.size + 1) i _ 253 (0, 0) HX.out).trans (hash_at (by rw [HFO.out.s]; exact hi))
     have e0 := hS 0 (by omega)
     have e1 := hS 1 (by omega)
     have e2 := hS 2 (by omega)
     have e3 := hS 3 (by omega)
     have e4 := hS 4 (by omega)
     have e5 := hS 5 (by omega)
     have e6 := hS 6 (by omega)
     have e7 := hS 7 (by omega)
     rw [hse] at e0 e1 e2 e3 e4 e5 e6 e7
     simp only [List.getD_cons_zero, List.getD_cons_succ] at e0 e1 e2 e3 e4 e5 e6 e7
     have lx : w.heap.size + 1 < wr.heap.size := by omega
     clear hfe hfo hse hS HGO HGN HZB HBK HX
     go_wp2_with fail
     have hb0 := Lib.hid (show (wr.alloc (.cells (Array.replicate 32 (.int .u8 0)) 177)).heap[wr.heap.size]? = some (.cells (arrB (outB f.s 0)) 177 (0, 0)) from alloc_at rfl)
     have hr0 := Lib.hid ((alloc_before (o := .cells (Array.replicate 32 (.int .u8 0)) 177) (show w.heap.size < wr.heap.size by omega)).trans HRS.out)
     have hl0 := Lib.hid (HBL.out.alloc (show w.heap.size ≤ wr.heap.size by omega) (.cells (Array.replicate 32 (.int .u8 0)) 177))
     change Code.wp _ _ _ _ (wr.alloc (.cells (Array.replicate 32 (.int .u8 0)) 177))
     obtain ⟨X, hX⟩ : ∃ X, X = wr.heap.size := ⟨_, rfl⟩
     rw [← hX] at hb0
     rw [← hX]
     have hXl : w.heap.size + 1 < X := by omega
     generalize hW5 : World.alloc wr _ = W5 at hb0 hr0 hl0 ⊢
     clear hW5 HRS HBL e0 e1 e2 e3 e4 e5 e6 e7 lx zr hX
     go_loopw [43] (fun i w2 => ∃ k : Nat, k ≤ 8 ∧ i = .int .i64 k ∧ w2.heap[X]? = some (.cells (arrB (outB f.s k)) 177 (0, 0)) ∧ w2.heap[w.heap.size]? = some (.cells (Array.replicate 32 (.int .u8 0)) 177 (0, 0)) ∧ Below w.heap.size w w2) (fun i _ => 8 - (intOf i).toNat)
     case atStart => exact ⟨0, by omega, rfl, hb0.out, hr0.out, hl0.out⟩
     case round =>
      clear hb0 hr0 hl0
      obtain ⟨k, hk, rfl, hx, hrs, hbl⟩ := hrel
      have HX := Lib.hid hx
      have HRS := Lib.hid hrs
      have HBL := Lib.hid hbl
      have hk0 : (0 : Int) ≤ (k : Int) := Int.natCast_nonneg _
      clear hx hrs hbl
      by_cases hlt2 : k < 8
      ·have hlt' : (k : Int) < 8 := by omega
       go_upto_region 16 with (fail)
       rename_i Kf hKf
       refine reg141_16 (fs := [s0, s1, s2, s3, s4, s5, s6, s7]) (kk := k) (by kernel_rfl) rfl rfl hlt2 rfl rfl rfl (fun A hd hs hr hR => ?_)
       have y7 : A.eval (.tmp 7) = .int .i64 (k : Int) := hR 2 (by decide)
       have y8 : A.eval (.tmp 8) = U ([s0, s1, s2, s3, s4, s5, s6, s7].getD k 0) := hR 3 (by decide)
       have y0 : A.eval (.tmp 0) = .pointer (some ⟨hb, 0, none⟩) := hr 0 (by kernel_rfl)
       have y1 : A.eval (.tmp 1) = undef := hr 1 (by kernel_rfl)
       have y2 : A.eval (.tmp 2) = .pointer (some ⟨w.heap.size, 0, none⟩) := hr 2 (by kernel_rfl)
       have y3 : A.eval (.tmp 3) = .pointer (some ⟨w.heap.size + 1, 0, none⟩) := hr 3 (by kernel_rfl)
       have y4 : A.eval (.tmp 4) = .int .u64 ((h.n : Int) * 8) := hr 4 (by kernel_rfl)
       have y5 : A.eval (.tmp 5) = u5 := hr 5 (by kernel_rfl)
       have y6 : A.eval (.tmp 6) = .pointer (some ⟨X, 0, none⟩) := hr 6 (by kernel_rfl)
       have y7 : A.eval (.tmp 7) = .int .i64 (k : Int) := y7
       have y8 : A.eval (.tmp 8) = U ([s0, s1, s2, s3, s4, s5, s6, s7].getD k 0) := y8
       have y9 : A.eval (.tmp 9) = .pointer (some ⟨hb, 0, none⟩) := hr 9 (by kernel_rfl)
       have y10 : A.eval (.tmp 10) = .bool false := hr 10 (by kernel_rfl)
       have y11 : A.eval (.tmp 11) = undef := hr 11 (by kernel_rfl)
       have y12 : A.eval (.tmp 12) = .pointer (some ⟨hb, 0, none⟩) := hr 12 (by kernel_rfl)
       have y13 : A.eval (.tmp 13) = .pointer (some ⟨hb, 0, none⟩) := hr 13 (by kernel_rfl)
       have y14 : A.eval (.tmp 14) = .agg (hashC h.s h.hd (h.n : Int)) := hr 14 (by kernel_rfl)
       have y15 : A.eval (.tmp 15) = .pointer (some ⟨hb, 0, none⟩) := hr 15 (by kernel_rfl)
       have y16 : A.eval (.tmp 16) = .pointer (some ⟨hb, 0, none⟩) := hr 16 (by kernel_rfl)
       have y17 : A.eval (.tmp 17) = .pointer (some ⟨hb, 72, none⟩) := hr 17 (by kernel_rfl)
       have y18 : A.eval (.tmp 18) = .int .i64 (h.n : Int) := hr 18 (by kernel_rfl)
       have y19 : A.eval (.tmp 19) = .int .u64 (h.n : Int) := hr 19 (by kernel_rfl)
       have y20 : A.eval (.tmp 20) = .int .u64 ((h.n : Int) * 8) := hr 20 (by kernel_rfl)
       have y21 : A.eval (.tmp 21) = .slice (some ⟨W.heap.size, 0, none⟩) 1 1 := hr 21 (by kernel_rfl)
       have y22 : A.eval (.tmp 22) = .int .i64 ((feed kl h [128]).n : Int) := hr 22 (by kernel_rfl)
       have y23 : A.eval (.tmp 23) = .pointer (some ⟨w.heap.size + 1, 72, none⟩) := hr 23 (by kernel_rfl)
       have y24 : A.eval (.tmp 24) = .int .i64 (nj : Int) := hr 24 (by kernel_rfl)
       have y25 : A.eval (.tmp 25) = .int .i64 ((nj : Int) % 64) := hr 25 (by kernel_rfl)
       have y26 : A.eval (.tmp 26) = .bool false := hr 26 (by kernel_rfl)
       have y27 : A.eval (.tmp 27) = u27 := hr 27 (by kernel_rfl)
       have y28 : A.eval (.tmp 28) = u28 := hr 28 (by kernel_rfl)
       have y29 : A.eval (.tmp 29) = .int .i64 8 := hr 29 (by kernel_rfl)
       have y30 : A.eval (.tmp 30) = .bool false := hr 30 (by kernel_rfl)
       have y31 : A.eval (.tmp 31) = u31 := hr 31 (by kernel_rfl)
       have y32 : A.eval (.tmp 32) = u32 := hr 32 (by kernel_rfl)
       have y33 : A.eval (.tmp 33) = u33 := hr 33 (by kernel_rfl)
       have y34 : A.eval (.tmp 34) = u34 := hr 34 (by kernel_rfl)
       have y35 : A.eval (.tmp 35) = u35 := hr 35 (by kernel_rfl)
       have y36 : A.eval (.tmp 36) = u36 := hr 36 (by kernel_rfl)
       have y37 : A.eval (.tmp 37) = u37 := hr 37 (by kernel_rfl)
       have y38 : A.eval (.tmp 38) = u38 := hr 38 (by kernel_rfl)
       have y39 : A.eval (.tmp 39) = u39 := hr 39 (by kernel_rfl)
       have y40 : A.eval (.tmp 40) = u40 := hr 40 (by kernel_rfl)
       have y41 : A.eval (.tmp 41) = .pointer (some ⟨w.heap.size + 1, 0, none⟩) := hr 41 (by kernel_rfl)
       have y42 : A.eval (.tmp 42) = .agg #[U s0, U s1, U s2, U s3, U s4, U s5, U s6, U s7] := hr 42 (by kernel_rfl)
       have y43 : A.eval (.tmp 43) = .int .i64 (k : Int) := hr 43 (by kernel_rfl)
       have y44 : A.eval (.tmp 44) = .bool true := hr 44 (by kernel_rfl)
       have y47 : A.eval (.tmp 47) = u47 := hr 47 (by kernel_rfl)
       have y48 : A.eval (.tmp 48) = u48 := hr 48 (by kernel_rfl)
       have y49 : A.eval (.tmp 49) = u49 := hr 49 (by kernel_rfl)
       have y50 : A.eval (.tmp 50) = u50 := hr 50 (by kernel_rfl)
       have y51 : A.eval (.tmp 51) = u51 := hr 51 (by kernel_rfl)
       have y52 : A.eval (.tmp 52) = u52 := hr 52 (by kernel_rfl)
       have y53 : A.eval (.tmp 53) = u53 := hr 53 (by kernel_rfl)
       have y54 : A.eval (.tmp 54) = u54 := hr 54 (by kernel_rfl)
       have y55 : A.eval (.tmp 55) = u55 := hr 55 (by kernel_rfl)
       have y56 : A.eval (.tmp 56) = u56 := hr 56 (by kernel_rfl)
       have y57 : A.eval (.tmp 57) = u57 := hr 57 (by kernel_rfl)
       have y58 : A.eval (.tmp 58) = u58 := hr 58 (by kernel_rfl)
       have y59 : A.eval (.tmp 59) = u59 := hr 59 (by kernel_rfl)
       have y60 : A.eval (.tmp 60) = u60 := hr 60 (by kernel_rfl)
       have y61 : A.eval (.tmp 61) = u61 := hr 61 (by kernel_rfl)
       have y62 : A.eval (.tmp 62) = u62 := hr 62 (by kernel_rfl)
       have y63 : A.eval (.tmp 63) = u63 := hr 63 (by kernel_rfl)
       have y64 : A.eval (.tmp 64) = u64 := hr 64 (by kernel_rfl)
       have y65 : A.eval (.tmp 65) = u65 := hr 65 (by kernel_rfl)
       have y66 : A.eval (.tmp 66) = u66 := hr 66 (by kernel_rfl)
       have y67 : A.eval (.tmp 67) = u67 := hr 67 (by kernel_rfl)
       have y68 : A.eval (.tmp 68) = u68 := hr 68 (by kernel_rfl)
       have y69 : A.eval (.tmp 69) = u69 := hr 69 (by kernel_rfl)
       have y70 : A.eval (.tmp 70) = u70 := hr 70 (by kernel_rfl)
       have y71 : A.eval (.tmp 71) = u71 := hr 71 (by kernel_rfl)
       have y72 : A.eval (.tmp 72) = u72 := hr 72 (by kernel_rfl)
       have y73 : A.eval (.tmp 73) = u73 := hr 73 (by kernel_rfl)
       have y74 : A.eval (.tmp 74) = undef := hr 74 (by kernel_rfl)
       rw [act75 hs, hd, y0, y1, y2, y3, y4, y5, y6, y7, y8, y9, y10, y11, y12, y13, y14, y15, y16, y17, y18, y19, y20, y21, y22, y23, y24, y25, y26, y27, y28, y29, y30, y31, y32, y33, y34, y35, y36, y37, y38, y39, y40, y41, y42, y43, y44, y47, y48, y49, y50, y51, y52, y53, y54, y55, y56, y57, y58, y59, y60, y61, y62, y63, y64, y65, y66, y67, y68, y69, y70, y71, y72, y73, y74]
       generalize A.eval (.tmp 45) = x1_45
       generalize A.eval (.tmp 46) = x1_46
       clear hr hs hd y0 y1 y2 y3 y4 y5 y6 y7 y8 y9 y10 y11 y12 y13 y14 y15 y16 y17 y18 y19 y20 y21 y22 y23 y24 y25 y26 y27 y28 y29 y30 y31 y32 y33 y34 y35 y36 y37 y38 y39 y40 y41 y42 y43 y44 y47 y48 y49 y50 y51 y52 y53 y54 y55 y56 y57 y58 y59 y60 y61 y62 y63 y64 y65 y66 y67 y68 y69 y70 y71 y72 y73 y74
       clear hR
       refine hKf _ _ ?_
       clear hKf
       go_upto_region 17 with (fail)
       have hcs := fun j (hj : j < 4) => (cell_of_row _ X (4 * k + j) _ 177 (0, 0) HX.out).trans (arrB_free (o := 4 * k + j) (l := outB f.s k) (by rw [outB_length]; omega) (by omega))
       have hfz : ∀ o, wr.frozen? ⟨X, o, none⟩ = false := fun o => by simp [World.frozen?, HX.out]
       refine reg141_17 (b := X) (kk := k) (x := [s0, s1, s2, s3, s4, s5, s6, s7].getD k 0) (by kernel_rfl) rfl hlt2 (hcs 0 (by omega)) (hcs 1 (by omega)) (hcs 2 (by omega)) (hcs 3 (by omega)) hfz rfl rfl rfl rfl (fun A hd hs hr hR => ?_)
       clear hR hcs hfz
       generalize hW6 : World.setCell _ _ _ = W6
       have hB6 := Lib.hid (show W6.heap[X]? = some (.cells (arrB (outB f.s (k + 1))) 177 (0, 0)) from by
        rw [← hW6, ← HSE.out]
        exact outB_step HX.out hlt2)
       have hR6 := Lib.hid (show W6.heap[w.heap.size]? = some (.cells (Array.replicate 32 (.int .u8 0)) 177 (0, 0)) from by
        rw [← hW6]
        rw [Below.heap_setCell _ _ _ w.heap.size (show w.heap.size ≠ X by omega), Below.heap_setCell _ _ _ w.heap.size (show w.heap.size ≠ X by omega), Below.heap_setCell _ _ _ w.heap.size (show w.heap.size ≠ X by omega), Below.heap_setCell _ _ _ w.heap.size (show w.heap.size ≠ X by omega)]
        exact HRS.out)
       have hL6 := Lib.hid (show Below w.heap.size w W6 from by
        rw [← hW6]
        exact (((HBL.out.setCell (by simp; omega) _).setCell (by simp; omega) _).setCell (by simp; omega) _).setCell (by simp; omega) _)
       clear hW6
       have y0 : A.eval (.tmp 0) = .pointer (some ⟨hb, 0, none⟩) := hr 0 (by kernel_rfl)
       have y1 : A.eval (.tmp 1) = undef := hr 1 (by kernel_rfl)
       have y2 : A.eval (.tmp 2) = .pointer (some ⟨w.heap.size, 0, none⟩) := hr 2 (by kernel_rfl)
       have y3 : A.eval (.tmp 3) = .pointer (some ⟨w.heap.size + 1, 0, none⟩) := hr 3 (by kernel_rfl)
       have y4 : A.eval (.tmp 4) = .int .u64 ((h.n : Int) * 8) := hr 4 (by kernel_rfl)
       have y5 : A.eval (.tmp 5) = u5 := hr 5 (by kernel_rfl)
       have y6 : A.eval (.tmp 6) = .pointer (some ⟨X, 0, none⟩) := hr 6 (by kernel_rfl)
       have y7 : A.eval (.tmp 7) = .int .i64 (k : Int) := hr 7 (by kernel_rfl)
       have y8 : A.eval (.tmp 8) = U ([s0, s1, s2, s3, s4, s5, s6, s7].getD k 0) := hr 8 (by kernel_rfl)
       have y9 : A.eval (.tmp 9) = .pointer (some ⟨hb, 0, none⟩) := hr 9 (by kernel_rfl)
       have y10 : A.eval (.tmp 10) = .bool false := hr 10 (by kernel_rfl)
       have y11 : A.eval (.tmp 11) = undef := hr 11 (by kernel_rfl)
       have y12 : A.eval (.tmp 12) = .pointer (some ⟨hb, 0, none⟩) := hr 12 (by kernel_rfl)
       have y13 : A.eval (.tmp 13) = .pointer (some ⟨hb, 0, none⟩) := hr 13 (by kernel_rfl)
       have y14 : A.eval (.tmp 14) = .agg (hashC h.s h.hd (h.n : Int)) := hr 14 (by kernel_rfl)
       have y15 : A.eval (.tmp 15) = .pointer (some ⟨hb, 0, none⟩) := hr 15 (by kernel_rfl)
       have y16 : A.eval (.tmp 16) = .pointer (some ⟨hb, 0, none⟩) := hr 16 (by kernel_rfl)
       have y17 : A.eval (.tmp 17) = .pointer (some ⟨hb, 72, none⟩) := hr 17 (by kernel_rfl)
       have y18 : A.eval (.tmp 18) = .int .i64 (h.n : Int) := hr 18 (by kernel_rfl)
       have y19 : A.eval (.tmp 19) = .int .u64 (h.n : Int) := hr 19 (by kernel_rfl)
       have y20 : A.eval (.tmp 20) = .int .u64 ((h.n : Int) * 8) := hr 20 (by kernel_rfl)
       have y21 : A.eval (.tmp 21) = .slice (some ⟨W.heap.size, 0, none⟩) 1 1 := hr 21 (by kernel_rfl)
       have y22 : A.eval (.tmp 22) = .int .i64 ((feed kl h [128]).n : Int) := hr 22 (by kernel_rfl)
       have y23 : A.eval (.tmp 23) = .pointer (some ⟨w.heap.size + 1, 72, none⟩) := hr 23 (by kernel_rfl)
       have y24 : A.eval (.tmp 24) = .int .i64 (nj : Int) := hr 24 (by kernel_rfl)
       have y25 : A.eval (.tmp 25) = .int .i64 ((nj : Int) % 64) := hr 25 (by kernel_rfl)
       have y26 : A.eval (.tmp 26) = .bool false := hr 26 (by kernel_rfl)
       have y27 : A.eval (.tmp 27) = u27 := hr 27 (by kernel_rfl)
       have y28 : A.eval (.tmp 28) = u28 := hr 28 (by kernel_rfl)
       have y29 : A.eval (.tmp 29) = .int .i64 8 := hr 29 (by kernel_rfl)
       have y30 : A.eval (.tmp 30) = .bool false := hr 30 (by kernel_rfl)
       have y31 : A.eval (.tmp 31) = u31 := hr 31 (by kernel_rfl)
       have y32 : A.eval (.tmp 32) = u32 := hr 32 (by kernel_rfl)
       have y33 : A.eval (.tmp 33) = u33 := hr 33 (by kernel_rfl)
       have y34 : A.eval (.tmp 34) = u34 := hr 34 (by kernel_rfl)
       have y35 : A.eval (.tmp 35) = u35 := hr 35 (by kernel_rfl)
       have y36 : A.eval (.tmp 36) = u36 := hr 36 (by kernel_rfl)
       have y37 : A.eval (.tmp 37) = u37 := hr 37 (by kernel_rfl)
       have y38 : A.eval (.tmp 38) = u38 := hr 38 (by kernel_rfl)
       have y39 : A.eval (.tmp 39) = u39 := hr 39 (by kernel_rfl)
       have y40 : A.eval (.tmp 40) = u40 := hr 40 (by kernel_rfl)
       have y41 : A.eval (.tmp 41) = .pointer (some ⟨w.heap.size + 1, 0, none⟩) := hr 41 (by kernel_rfl)
       have y42 : A.eval (.tmp 42) = .agg #[U s0, U s1, U s2, U s3, U s4, U s5, U s6, U s7] := hr 42 (by kernel_rfl)
       have y43 : A.eval (.tmp 43) = .int .i64 (k : Int) := hr 43 (by kernel_rfl)
       have y44 : A.eval (.tmp 44) = .bool true := hr 44 (by kernel_rfl)
       have y45 : A.eval (.tmp 45) = x1_45 := hr 45 (by kernel_rfl)
       have y46 : A.eval (.tmp 46) = x1_46 := hr 46 (by kernel_rfl)
       have y73 : A.eval (.tmp 73) = u73 := hr 73 (by kernel_rfl)
       have y74 : A.eval (.tmp 74) = undef := hr 74 (by kernel_rfl)
       rw [act75 hs, hd, y0, y1, y2, y3, y4, y5, y6, y7, y8, y9, y10, y11, y12, y13, y14, y15, y16, y17, y18, y19, y20, y21, y22, y23, y24, y25, y26, y27, y28, y29, y30, y31, y32, y33, y34, y35, y36, y37, y38, y39, y40, y41, y42, y43, y44, y45, y46, y73, y74]
       generalize A.eval (.tmp 47) = x2_47
       generalize A.eval (.tmp 48) = x2_48
       generalize A.eval (.tmp 49) = x2_49
       generalize A.eval (.tmp 50) = x2_50
       generalize A.eval (.tmp 51) = x2_51
       generalize A.eval (.tmp 52) = x2_52
       generalize A.eval (.tmp 53) = x2_53
       generalize A.eval (.tmp 54) = x2_54
       generalize A.eval (.tmp 55) = x2_55
       generalize A.eval (.tmp 56) = x2_56
       generalize A.eval (.tmp 57) = x2_57
       generalize A.eval (.tmp 58) = x2_58
       generalize A.eval (.tmp 59) = x2_59
       generalize A.eval (.tmp 60) = x2_60
       generalize A.eval (.tmp 61) = x2_61
       generalize A.eval (.tmp 62) = x2_62
       generalize A.eval (.tmp 63) = x2_63
       generalize A.eval (.tmp 64) = x2_64
       generalize A.eval (.tmp 65) = x2_65
       generalize A.eval (.tmp 66) = x2_66
       generalize A.eval (.tmp 67) = x2_67
       generalize A.eval (.tmp 68) = x2_68
       generalize A.eval (.tmp 69) = x2_69
       generalize A.eval (.tmp 70) = x2_70
       generalize A.eval (.tmp 71) = x2_71
       generalize A.eval (.tmp 72) = x2_72
       clear hr hs hd y0 y1 y2 y3 y4 y5 y6 y7 y8 y9 y10 y11 y12 y13 y14 y15 y16 y17 y18 y19 y20 y21 y22 y23 y24 y25 y26 y27 y28 y29 y30 y31 y32 y33 y34 y35 y36 y37 y38 y39 y40 y41 y42 y43 y44 y45 y46 y73 y74
       go_wp2
       go_roundw
       case rel => exact ⟨k + 1, by omega, (by first | rfl | go_num), hB6.out, hR6.out, hL6.out⟩
       case measure => simp [intOf]; omega
      ·have hlt' : ¬ (k : Int) < 8 := by omega
       obtain rfl : k = 8 := by omega
       have hsz' := arrB_size (l := outB f.s 8) (by rw [outB_length]; omega)
       have hlen : (arrB (outB f.s 8)).toList.length = 32 := by simp [hsz']
       have hrange := Lib.hid (range_of_heap HX.out)
       have hth := Lib.hid (there_of_heap HRS.out (n := 32) (by simp))
       go_wp2_with (first | (refine wpList_load_mid (by rfl) 177 (.tmp 6) (by rfl) X 0 (by rfl) (arrB (outB f.s 8)).toList (.array 32 5) hrange.out hu177 rfl (by rw [hlen]; exact hi177) ?_) | (refine wpList_store_mid (by rfl) 177 (.tmp 2) (.tmp 74) (by rfl) w.heap.size 0 (arrB (outB f.s 8)) (by rfl) (by rfl) (by rw [hsz']; exact hth.out) (by rw [hsz']; exact hi177) (arrB_ones _) ?_))
       refine bodyPost_ret (results141 _ _ w.heap.size (arrB (outB f.s 8)).toList rfl (World.rangeAt_setCells_same _ _ _ _ (fun j hj => hth.out j (by rw [hlen] at hj; exact hj))) hlen) rfl ?_
       refine ⟨?_, setCells_below _ (Nat.le_refl _) _ _ HBL.out⟩
       rw [← HFE.out, ← HGE.out]
       rfl
  ·have h56 : (((nj : Nat) : Int) % 64 != 56) = true := by
    have h1 := HNJ.out
    have h2 := HJ.out
    have h3 : zerosN h.n = (119 - h.n % 64) % 64 := rfl
    simp; omega
   clear htm
   go_wp2_with fail
   have HB0 := Lib.hid (HBL.out.alloc (by omega) (.cells #[.int .u8 0] 5))
   refine (write_any kl (feed kl h ([128] ++ List.replicate j 0)) [0] (w.heap.size + 1) (some ⟨wr.heap.size, 0, none⟩) 1 _ HPO.out (by simp) (by rw [HPN.out]; simp; omega) ((alloc_before (by omega)).trans HX.out) (.inr ⟨_, rfl, by simp only; omega, fun i hi => by
    have hi0 : i = 0 := by simpa using hi
    subst hi0
    rw [show (⟨wr.heap.size, 0, none⟩ : Addr).add 0 = ⟨wr.heap.size, 0, none⟩ from by unfold Addr.add; rfl]
    exact (cell_of_row _ wr.heap.size 0 _ 5 (0, 0) (alloc_at rfl)).trans rfl⟩) (by simp) (by omega) (HK4.out _ HB0.out)).mono ?_
   rintro e w2 ⟨rfl, ha1, hal1, hbl1⟩
   have HX2 := Lib.hid (show HAt w2 (w.heap.size + 1) (feed kl h ([128] ++ List.replicate (j + 1) 0)) from by
    rw [← feed_app, List.append_assoc, ← List.replicate_succ'] at ha1
    exact ha1)
   have HR2 := Lib.hid ((hbl1.block _ (by omega)).trans ((alloc_before (by omega)).trans HRS.out))
   have HB2 := Lib.hid (HB0.out.trans (hbl1.mono (by omega)))
   have z2 : w.heap.size + 2 ≤ w2.heap.size := by have := hal1.size; simp at this; omega
   have hm2 := nAt_of (HPOK.out (j + 1)) HX2.out
   have hlt2 : j + 1 ≤ zerosN h.n := by have := HJ.out; omega
   rw [HPAD.out (j + 1) hlt2] at hm2
   have HM2 := Lib.hid hm2
   clear ha1 hal1 hbl1 HB0 hm2
   go_wp2
   go_roundw
   case rel => exact ⟨j + 1, hlt2, HX2.out, HR2.out, HB2.out, z2⟩
   case measure => rw [HM2.out, HME.out, ← HNJ.out]; omega
end Go.Proofs.YtoimjnmhinfbkaaGreatDoor

namespace Go.Proofs.YtoimjnmhinfbkaaGreatDoor
open Go.RowKit
set_option maxRecDepth 100000
theorem alloc_size1 (w : World) (v : Obj) : (w.alloc v).heap.size = w.heap.size + 1 := by unfold World.alloc; exact Array.size_push _
theorem results114 (tmps : Array Value) (w : World) (b : Nat) (cs : List Value) (h2 : tmps.getD 2 undef = .pointer (some ⟨b, 0, none⟩)) (hc : w.rangeAt b 0 cs) (hl : cs.length = 32) :
  (results Tryz.f114 tmps).run Tryz.prog w = .ok (.agg cs.toArray) w := by
 have hr := run_loadVar_mid (P := Tryz.prog) w b 0 177 cs (.array 32 5) hc hu177 rfl (by rw [hl]; exact hi177)
 rw [Array.getD_eq_getD_getElem?] at h2
 simp [results, Tryz.results114, h2, hr, asAddr, Sem.run_bind]
/-- the hash's two tables in a world. -/
structure ShaW (il kl : List (BitVec 32)) (w : World) : Prop where
 len : il.length = 8
 first : ∀ k, k < 8 → w.cell? ⟨0, k, none⟩ = some (U (il.getD k 0))
 consts : ∀ k, k < 64 → w.cell? ⟨4, k, none⟩ = some (U (kl.getD k 0))
 size : 5 ≤ w.heap.size
theorem ShaW.keep {il kl : List (BitVec 32)} {w w' : World} {B : Nat} (h : ShaW il kl w) (hb : Below B w w') (hB : 5 ≤ B) : ShaW il kl w' :=
 ⟨h.len, fun k hk => (hb.cell (p := ⟨0, k, none⟩) (show 0 < B by omega)).trans (h.first k hk), fun k hk => (hb.cell (p := ⟨4, k, none⟩) (show 4 < B by omega)).trans (h.consts k hk), Nat.le_trans h.size hb.size⟩
def BytesAt (w : World) (A : Option Addr) (r : List Nat) : Prop := r = [] ∨ ∃ a, A = some a ∧ ∀ j, ∀ h : j < r.length, w.cell? (a.add j) = some (.int .u8 (r[j] : Int))
theorem BytesAt.keep {w w' : World} {A : Option Addr} {r : List Nat} {B : Nat} (h : BytesAt w A r) (hb : Below B w w') (hB : w.heap.size ≤ B) : BytesAt w' A r := by
 rcases h with h | ⟨a, h1, h2⟩
 ·exact .inl h
 ·refine .inr ⟨a, h1, fun j hj => ?_⟩
  have h3 := h2 j hj
  exact (hb.cell (Nat.lt_of_lt_of_le (World.block_lt_of_cell? w _ h3) hB)).trans h3
theorem BytesAt.to {w w' : World} {A : Option Addr} {r : List Nat} {b : Nat} (h : BytesAt w A r) (hb : w.heap.size ≤ b) (hB : Below w.heap.size w w') : Bytes w' b A r := by
 rcases h with h | ⟨a, h1, h2⟩
 ·exact .inl h
 ·by_cases hr : r = []
  ·exact .inl hr
  ·have hpos : 0 < r.length := List.length_pos_iff.2 hr
   have h3 := World.block_lt_of_cell? w _ (h2 0 hpos)
   rw [add_block] at h3
   refine .inr ⟨a, h1, by omega, fun j hj => ?_⟩
   have h4 := h2 j hj
   exact (hB.cell (World.block_lt_of_cell? w _ h4)).trans h4
/-- the program's hash. -/
def shaL (il kl : List (BitVec 32)) (l : List Nat) : List Nat := outB (feed kl (feed kl (feed kl (hash0 il) l) ([128] ++ List.replicate (zerosN l.length) 0)) ((List.range 8).map (lenB l.length))).s 8
set_option maxHeartbeats 3200000 in
theorem of_one (il kl : List (BitVec 32)) (l : List Nat) (A : Option Addr) (cap : Nat) (p : Addr) (w : World) (hw : ShaW il kl w) (hl : ∀ x ∈ l, x < 256) (hn : l.length ≤ 100000000) (hc : l.length ≤ cap) (hp : w.cell? p = some (.slice A l.length cap)) (hb : BytesAt w A l) :
  Calls Tryz.prog 114 #[.slice (some p) 1 1] w fun e w' => e = .returned (.agg (arrB (shaL il kl l))) ∧ Below w.heap.size w w' := by
 have HW := Lib.hid hw
 have HL := Lib.hid hl
 have HN := Lib.hid hn
 have HC := Lib.hid hc
 have HP := Lib.hid hp
 have HB := Lib.hid hb
 have hpl := World.block_lt_of_cell? w _ hp
 have hsz := hw.size
 clear hw hl hn hc hp hb
 go_enter Tryz.func114, Tryz.ntmps114
 go_wp2_with fail
 change Calls _ _ _ (w.alloc (.cells (Array.replicate 32 (.int .u8 0)) 177)) _
 have hW0 : Below w.heap.size w (w.alloc (.cells (Array.replicate 32 (.int .u8 0)) 177)) := (Below.refl _ _).alloc (Nat.le_refl _) _
 have hsw := HW.out.keep hW0 hsz
 refine (new_any il _ HW.out.len hsw.first).mono ?_
 rintro e w1 ⟨rfl, hw1⟩
 have HR1 := Lib.hid (show w1.heap[w.heap.size]? = some (.cells (Array.replicate 32 (.int .u8 0)) 177 (0, 0)) from by rw [hw1]; exact (alloc_before (by rw [alloc_size1]; omega)).trans (alloc_at rfl))
 have HA1 := Lib.hid (show HAt w1 (w.heap.size + 1) (hash0 il) from by rw [hw1]; exact alloc_at (alloc_size1 _ _).symm)
 have HB1 := Lib.hid (show Below w.heap.size w w1 from by rw [hw1]; exact hW0.alloc (by rw [alloc_size1]; omega) _)
 have z1 : w.heap.size + 2 ≤ w1.heap.size := by rw [hw1, alloc_size1, alloc_size1]; omega
 clear hw1 hW0 hsw
 rw [alloc_size1]
 go_wp2_with fail
 have hk4 : ∀ W1 : World, Below w.heap.size w W1 → ∀ k, k < 64 → W1.cell? ⟨4, k, none⟩ = some (U (kl.getD k 0)) := fun W1 h1 => (HW.out.keep h1 hsz).consts
 have HK4 := Lib.hid hk4
 clear hk4
 go_loopw [9] (fun i wr => ∃ k : Nat, k ≤ 1 ∧ i = .int .i64 k ∧ HAt wr (w.heap.size + 1) (feed kl (hash0 il) (if k = 0 then [] else l)) ∧ wr.heap[w.heap.size]? = some (.cells (Array.replicate 32 (.int .u8 0)) 177 (0, 0)) ∧ Below w.heap.size w wr ∧ w.heap.size + 2 ≤ wr.heap.size) (fun i _ => 1 - (intOf i).toNat)
 case atStart => exact ⟨0, by omega, rfl, HA1.out, HR1.out, HB1.out, z1⟩
 case round =>
  clear HA1 HR1 HB1 z1
  obtain ⟨k, hk, rfl, hx, hrs, hbl, zr⟩ := hrel
  have HX := Lib.hid hx
  have HRS := Lib.hid hrs
  have HBL := Lib.hid hbl
  clear hx hrs hbl
  have hk0 : (0 : Int) ≤ (k : Int) := Int.natCast_nonneg _
  by_cases hlt : k < 1
  ·obtain rfl : k = 0 := by omega
   have hcell := (HBL.out.cell (p := p) hpl).trans HP.out
   go_wp2_with fail
   refine (write_any kl (hash0 il) l (w.heap.size + 1) A cap wr (hash0_ok HW.out.len) HL.out (by simp [hash0]; have := HN.out; omega) HX.out (HB.out.to (by omega) HBL.out) HC.out (by omega) (HK4.out _ HBL.out)).mono ?_
   rintro e w2 ⟨rfl, ha1, hal1, hbl1⟩
   have HX2 := Lib.hid (show HAt w2 (w.heap.size + 1) (feed kl (hash0 il) l) from ha1)
   have HR2 := Lib.hid ((hbl1.block _ (by omega)).trans HRS.out)
   have HB2 := Lib.hid (HBL.out.trans (hbl1.mono (by omega)))
   have z2 : w.heap.size + 2 ≤ w2.heap.size := by have := hal1.size; omega
   clear ha1 hal1 hbl1
   go_wp2
   go_roundw
   case rel => exact ⟨1, by omega, rfl, HX2.out, HR2.out, HB2.out, z2⟩
   case measure => simp [intOf]
  ·obtain rfl : k = 1 := by omega
   go_wp2_with fail
   refine (sum_any kl (feed kl (hash0 il) l) (w.heap.size + 1) wr ((hash0_ok HW.out.len).feed HL.out) (by rw [feed_n]; simp [hash0]; exact HN.out) HX.out (HK4.out _ HBL.out) (by omega)).mono ?_
   rintro e w2 ⟨rfl, hbl1⟩
   have hsn : (feed kl (hash0 il) l).n = l.length := by rw [feed_n]; simp [hash0]
   rw [hsn]
   have HR2 := Lib.hid ((hbl1.block _ (by omega)).trans HRS.out)
   have HB2 := Lib.hid (HBL.out.trans (hbl1.mono (by omega)))
   clear hbl1 hsn
   have hth := Lib.hid (there_of_heap HR2.out (n := 32) (by simp))
   have hsz' := arrB_size (l := shaL il kl l) (by unfold shaL; rw [outB_length]; omega)
   have hlen : (arrB (shaL il kl l)).toList.length = 32 := by simp [hsz']
   go_wp2_with (refine wpList_store_mid (by rfl) 177 (.tmp 2) (.tmp 18) (by rfl) w.heap.size 0 (arrB (shaL il kl l)) (by rfl) (by rfl) (by rw [hsz']; exact hth.out) (by rw [hsz']; exact hi177) (arrB_ones _) ?_)
   refine bodyPost_ret (results114 _ _ w.heap.size (arrB (shaL il kl l)).toList rfl (World.rangeAt_setCells_same _ _ _ _ (fun j hj => hth.out j (by rw [hlen] at hj; exact hj))) hlen) rfl ?_
   exact ⟨rfl, setCells_below _ (Nat.le_refl _) _ _ HB2.out⟩
end Go.Proofs.YtoimjnmhinfbkaaGreatDoor
