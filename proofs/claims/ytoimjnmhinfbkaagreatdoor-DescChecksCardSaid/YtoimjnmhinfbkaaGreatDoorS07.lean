import Derived.BigFrame
import Derived.Deep.RegionHeld3
import Derived.Test.YtoimjnmhinfbkaaGreatDoorS06
namespace Go.Proofs.YtoimjnmhinfbkaaGreatDoor
open Go.RowKit
set_option maxRecDepth 100000
/-- a region of a code by its number. -/
noncomputable def inCode (n : Nat) : Code → Option (Array Oper)
  | .region id ops _ => if id == n then some ops else none
  | .seq a b => (inCode n a).or (inCode n b)
  | .cond _ a b => (inCode n a).or (inCode n b)
  | .block _ b => inCode n b
  | .loop b => inCode n b
  | .scope b => inCode n b
  | .rangeFunc _ _ a b => (inCode n a).or (inCode n b)
  | _ => none
noncomputable def ops16 : Array Oper := (Tryz.f82.body.bind (inCode 16)).getD #[]
noncomputable def op16 (i : Nat) : Oper := ops16.getD i default
theorem ev_same {a : Act} {d : Nat} {v : Value} (h : d < a.tmps.size) : (a.put (some d) v).eval (.tmp d) = v := by
  simp [Act.put, Act.eval, h]
theorem ev_ne {a : Act} {d k : Nat} {v x : Value} (hk : d ≠ k) (h : a.eval (.tmp k) = x) : (a.put (some d) v).eval (.tmp k) = x := by
  rw [← h]; simp [Act.put, Act.eval, hk, Array.getD]; split <;> simp_all [Array.getElem_setIfInBounds]
theorem put_size {a : Act} {d : Option Nat} {v : Value} : (a.put d v).tmps.size = a.tmps.size := by
  cases d <;> simp [Act.put]
section
variable {ρ : Operand → Value} {w : World} {o : Oper}
theorem run_field43 {x : Operand} {g : Nat} (ho : o.op = .fieldAddr 43 x 3) (h : ρ x = .pointer (some ⟨g, 0, none⟩)) : (execOp ρ o).run Tryz.prog w = .ok (.value (.pointer (some ⟨g, 3, none⟩))) w := by
  unfold execOp; rw [ho]; simp only [h]
  go_simp
theorem run_load41 {x : Operand} {p : Addr} {A : Option Addr} {n c : Nat} (ho : o.op = .load 41 x) (h : ρ x = .pointer (some p)) (hc : w.cell? p = some (.slice A n c)) : (execOp ρ o).run Tryz.prog w = .ok (.value (.slice A n c)) w := by
  unfold execOp; rw [ho]; simp only [h]
  go_simp
theorem run_sub1 {x : Operand} {p : Nat} (ho : o.op = .binOp .sub 3 x (.const (.int .i64 1)) 3) (hp : (p : Int) < 4294967296) (h : ρ x = .int .i64 ((p : Int) + 1)) (hk : ρ (.const (.int .i64 1)) = .int .i64 1) : (execOp ρ o).run Tryz.prog w = .ok (.value (.int .i64 p)) w := by
  have hw : IntKind.i64.wrap ((p : Int) + 1 - 1) = (p : Int) := by rw [IntKind.wrap_i64]; omega
  have hw2 : IntKind.i64.wrap (p : Int) = (p : Int) := by rw [IntKind.wrap_i64]; omega
  unfold execOp; rw [ho]; simp only [h, hk]
  go_simp
theorem run_index41 {x y : Operand} {q n c : Nat} {i : Nat} {z : Int} (ho : o.op = .indexAddr 41 x y) (h : ρ x = .slice (some ⟨q, 0, none⟩) n c) (hi : ρ y = .int .i64 z) (hz : z = i) (hlt : i < n) : (execOp ρ o).run Tryz.prog w = .ok (.value (.pointer (some ⟨q, i * 5, none⟩))) w := by
  subst hz
  have h0 : (0 : Int) ≤ (i : Int) := Int.natCast_nonneg _
  have h1 : (i : Int) < (n : Int) := by omega
  unfold execOp; rw [ho]; simp only [h, hi]
  go_simp
theorem run_load43 {x : Operand} {q i : Nat} {a b c d e : Value} (ho : o.op = .load 43 x) (h : ρ x = .pointer (some ⟨q, i, none⟩)) (e0 : w.cell? ⟨q, i, none⟩ = some a) (e1 : w.cell? ⟨q, i + 1, none⟩ = some b) (e2 : w.cell? ⟨q, i + 2, none⟩ = some c) (e3 : w.cell? ⟨q, i + 3, none⟩ = some d) (e4 : w.cell? ⟨q, i + 4, none⟩ = some e) :
    (execOp ρ o).run Tryz.prog w = .ok (.value (.agg #[a, b, c, d, e])) w := by
  unfold execOp; rw [ho]; simp only [h]
  go_simp
theorem run_store43 {x y : Operand} {q i : Nat} {a b c d e : Value} {k : Int} {t : Bool} {s : ByteArray} {A B : Option Addr} {n m ca cb : Nat} (ho : o.op = .store 43 x y) (h : ρ x = .pointer (some ⟨q, i, none⟩)) (hy : ρ y = .agg #[.int .i64 k, .bool t, .string s, .slice A n ca, .slice B m cb]) (hf : ∀ o, w.frozen? ⟨q, o, none⟩ = false)
    (e0 : w.cell? ⟨q, i, none⟩ = some a) (e1 : w.cell? ⟨q, i + 1, none⟩ = some b) (e2 : w.cell? ⟨q, i + 2, none⟩ = some c) (e3 : w.cell? ⟨q, i + 3, none⟩ = some d) (e4 : w.cell? ⟨q, i + 4, none⟩ = some e) :
    (execOp ρ o).run Tryz.prog w = .ok .skip (set5 w q i (.int .i64 k) (.bool t) (.string s) (.slice A n ca) (.slice B m cb)) := by
  unfold execOp set5; rw [ho]; simp only [h, hy]
  go_simp
end
theorem run_moved {ρ : Operand → Value} {w : World} {o : Oper} {x : Operand} {v : Value} (ho : o.op = .move x) (h : ρ x = v) : (execOp ρ o).run Tryz.prog w = .ok (.value v) w := by
  unfold execOp; rw [ho]; simp only [h]; rfl
theorem late_held1 {md : Region.Mode} {ops : Array Oper} {Q : Exit → Act → World → Prop} {S : World → Prop} {W : World} {c i d : Nat} {oi : Oper} {v : Value} {fuel : Nat} {listed : Array Bool} {a : Act} {w : World} (hi : ops[i]? = some oi) (hd : oi.dst = some d) (hg : oi.guard = none) (hs : Region.noSelect ops = true) (hf : Region.free md ops listed i = true) (hr : (Region.ready md ops listed).contains i = true)
    (hic : (i == c) = false) (hQ : ∀ c a a' w, Q (.panic c) a w → Q (.panic c) a' w) (hy : ∀ w', S w' → (execOp a.eval oi).run Tryz.prog w' = .ok (.value v) w') (hS : S w) (hcl : listed.getD c false = false → w = W)
    (h : lateAny Tryz.prog md ops Q S W c fuel (listed.setIfInBounds i true) (a.put (some d) v) w) : lateAny Tryz.prog md ops Q S W c (fuel + 1) listed a w :=
  held_first hi (Region.noSelect_spec hs) (fun c a w => hQ c _ _ w) (by simpa using hic) fuel listed a w (Region.free_spec hi hf) (by simpa using hr) hcl (.inl ⟨by unfold Region.wanted; rw [hg], hy⟩) hS (by rw [hd]; exact h)
theorem late_take1 {md : Region.Mode} {ops : Array Oper} {Q : Exit → Act → World → Prop} {S : World → Prop} {W : World} {c i d : Nat} {oi : Oper} {v : Value} {fuel : Nat} {listed : Array Bool} {a : Act} (hi : ops[i]? = some oi) (hd : oi.dst = some d) (hg : oi.guard = none) (hs : Region.noSelect ops = true) (hf : Region.free md ops listed i = true) (hr : (Region.ready md ops listed).contains i = true)
    (hw : waits md ops c i = true) (hic : (i == c) = false) (hl : listed.getD c false = false) (hQ : ∀ c a a' w, Q (.panic c) a w → Q (.panic c) a' w) (hy : (execOp a.eval oi).run Tryz.prog W = .ok (.value v) W) (hS : S W)
    (h : lateAny Tryz.prog md ops Q S W c fuel (listed.setIfInBounds i true) (a.put (some d) v) W) : lateAny Tryz.prog md ops Q S W c (fuel + 1) listed a W :=
  late_take hi hs hf hr hw hic hl (fun c a w => hQ c _ _ w) (.inl ⟨by unfold Region.wanted; rw [hg], fun w' e => by rw [e]; exact hy⟩) hS (by rw [hd]; exact h)
theorem late_one1 {md : Region.Mode} {ops : Array Oper} {Q : Exit → Act → World → Prop} {S : World → Prop} {W : World} {c i : Nat} {oi : Oper} {fuel : Nat} {listed : Array Bool} {a : Act} {w w2 : World} (hi : ops[i]? = some oi) (hd : oi.dst = none) (hg : oi.guard = none) (hr : Region.ready md ops listed = [i]) (hl : (i == c || listed.getD c false) = true)
    (hy : (execOp a.eval oi).run Tryz.prog w = .ok .skip w2) (hS : S w2) (h : lateAny Tryz.prog md ops Q S W c fuel (listed.setIfInBounds i true) a w2) : lateAny Tryz.prog md ops Q S W c (fuel + 1) listed a w :=
  late_one hr hi (by unfold Region.wanted; rw [hg]) hl (fun K hK => by
    unfold Oper.wp
    rw [hy, Oper.upon_skip, hd]
    exact hK _ _ hS h)
set_option maxHeartbeats 1600000 in
theorem swap16 {id : Nat} {ops : Array Oper} (ho : ops = ops16) {Q : Exit → Act → World → Prop} {a : Act} {w : World} {g q p n c : Nat} {k1 k2 : Int} {t1 t2 : Bool} {s1 s2 : ByteArray} {A1 B1 A2 B2 : Option Addr} {n1 ca1 m1 cb1 n2 ca2 m2 cb2 : Nat}
    (hsz : 104 ≤ a.tmps.size) (h3 : a.eval (.tmp 3) = .pointer (some ⟨g, 0, none⟩)) (h6 : a.eval (.tmp 6) = .int .i64 ((p : Int) + 1)) (hp : (p : Int) < 4294967296) (hn : p + 1 < n) (hgq : g ≠ q)
    (hS : w.cell? ⟨g, 3, none⟩ = some (.slice (some ⟨q, 0, none⟩) n c)) (hf : ∀ o, w.frozen? ⟨q, o, none⟩ = false)
    (e0 : w.cell? ⟨q, p * 5, none⟩ = some (.int .i64 k1)) (e1 : w.cell? ⟨q, p * 5 + 1, none⟩ = some (.bool t1)) (e2 : w.cell? ⟨q, p * 5 + 2, none⟩ = some (.string s1)) (e3 : w.cell? ⟨q, p * 5 + 3, none⟩ = some (.slice A1 n1 ca1)) (e4 : w.cell? ⟨q, p * 5 + 4, none⟩ = some (.slice B1 m1 cb1))
    (g0 : w.cell? ⟨q, (p + 1) * 5, none⟩ = some (.int .i64 k2)) (g1 : w.cell? ⟨q, (p + 1) * 5 + 1, none⟩ = some (.bool t2)) (g2 : w.cell? ⟨q, (p + 1) * 5 + 2, none⟩ = some (.string s2)) (g3 : w.cell? ⟨q, (p + 1) * 5 + 3, none⟩ = some (.slice A2 n2 ca2)) (g4 : w.cell? ⟨q, (p + 1) * 5 + 4, none⟩ = some (.slice B2 m2 cb2))
    (K : Q .normal (((((((((((((((((((((a.put (some 84) (.pointer (some ⟨g, 3, none⟩))).put (some 85) (.slice (some ⟨q, 0, none⟩) n c)).put (some 86) (.int .i64 ((p : Int) + 1))).put (some 87) (.pointer (some ⟨g, 3, none⟩))).put (some 88) (.slice (some ⟨q, 0, none⟩) n c)).put (some 89) (.int .i64 ((p : Int) + 1))).put (some 90) (.int .i64 (p : Int))).put (some 91) (.pointer (some ⟨g, 3, none⟩))).put (some 92) (.slice (some ⟨q, 0, none⟩) n c)).put (some 93) (.int .i64 ((p : Int) + 1))).put (some 94) (.int .i64 (p : Int))).put (some 95) (.pointer (some ⟨q, p * 5, none⟩))).put (some 96) (.agg #[.int .i64 k1, .bool t1, .string s1, .slice A1 n1 ca1, .slice B1 m1 cb1])).put (some 97) (.pointer (some ⟨g, 3, none⟩))).put (some 98) (.slice (some ⟨q, 0, none⟩) n c)).put (some 99) (.int .i64 ((p : Int) + 1))).put (some 100) (.pointer (some ⟨q, (p + 1) * 5, none⟩))).put (some 101) (.agg #[.int .i64 k2, .bool t2, .string s2, .slice A2 n2 ca2, .slice B2 m2 cb2])).put (some 102) (.pointer (some ⟨q, (p + 1) * 5, none⟩))).put (some 103) (.pointer (some ⟨q, p * 5, none⟩)))) (set5 (set5 w.drew q ((p + 1) * 5) (.int .i64 k1) (.bool t1) (.string s1) (.slice A1 n1 ca1) (.slice B1 m1 cb1)) q (p * 5) (.int .i64 k2) (.bool t2) (.string s2) (.slice A2 n2 ca2) (.slice B2 m2 cb2))) : (Code.region id ops true).wp Tryz.prog Q a w := by
  subst ho
  have far : ∀ (w : World) (o : Nat) (x1 x2 x3 x4 x5 : Value), w.cell? ⟨g, 3, none⟩ = some (.slice (some ⟨q, 0, none⟩) n c) → (set5 w q o x1 x2 x3 x4 x5).cell? ⟨g, 3, none⟩ = some (.slice (some ⟨q, 0, none⟩) n c) := fun w o a b c d e h => (cell_of_heap (set5_far _ _ _ _ _ _ _ _ g hgq)).trans h
  have hF : ∀ (w : World) (o : Nat) (a b c d e : Value), (∀ o, w.frozen? ⟨q, o, none⟩ = false) → ∀ o', (set5 w q o a b c d e).frozen? ⟨q, o', none⟩ = false := fun w o a b c d e h o' => by unfold set5; simp [go_sem, h]
  have hc : ∀ (a b c d e : Value) (j : Nat), j < 5 → (set5 w.drew q ((p + 1) * 5) a b c d e).cell? ⟨q, p * 5 + j, none⟩ = w.cell? ⟨q, p * 5 + j, none⟩ := fun a b c d e j hj => by
    unfold set5
    have h : ∀ i, p * 5 + j ≠ (p + 1) * 5 + i := fun i => by omega
    have h0 : p * 5 + j ≠ (p + 1) * 5 := by omega
    simp [go_sem, h, h0]
  refine wp_region_noPanic (wp_region_any (by kernel_rfl) ?_)
  refine any_of_late (S := fun w' => w'.cell? ⟨g, 3, none⟩ = some (.slice (some ⟨q, 0, none⟩) n c)) (W := w.drew) (c := 19) _ _ _ _ ?_
  change lateAny _ _ _ _ _ _ _ 22 (Array.replicate 22 false) a w.drew
  have hQ : ∀ (c : List PanicEntry) (a a' : Act) (w : World), NoPanic Q (.panic c) a w → NoPanic Q (.panic c) a' w := fun _ _ _ _ h => h
  have hS0 : w.drew.cell? ⟨g, 3, none⟩ = some (.slice (some ⟨q, 0, none⟩) n c) := hS
  refine late_held1 (i := 0) (d := 84) (v := .pointer (some ⟨g, 3, none⟩)) (oi := op16 0) (by kernel_rfl) (by kernel_rfl) (by kernel_rfl) (by kernel_rfl) (by kernel_rfl) (by kernel_rfl) (by kernel_rfl) hQ (fun w' hS => run_field43 (x := .tmp 3) (by kernel_rfl) (by repeat (first | (with_reducible exact h3) | (with_reducible exact h6) | ((with_reducible refine ev_same ?_); first | omega | (simp only [put_size]; omega)) | ((with_reducible refine ev_ne ?_ ?_); · decide)))) hS0 (fun _ => rfl) ?_
  refine late_held1 (i := 1) (d := 85) (v := .slice (some ⟨q, 0, none⟩) n c) (oi := op16 1) (by kernel_rfl) (by kernel_rfl) (by kernel_rfl) (by kernel_rfl) (by kernel_rfl) (by kernel_rfl) (by kernel_rfl) hQ (fun w' hS => run_load41 (x := .tmp 84) (by kernel_rfl) (by repeat (first | (with_reducible exact h3) | (with_reducible exact h6) | ((with_reducible refine ev_same ?_); first | omega | (simp only [put_size]; omega)) | ((with_reducible refine ev_ne ?_ ?_); · decide))) hS) hS0 (fun _ => rfl) ?_
  refine late_held1 (i := 2) (d := 86) (v := .int .i64 ((p : Int) + 1)) (oi := op16 2) (by kernel_rfl) (by kernel_rfl) (by kernel_rfl) (by kernel_rfl) (by kernel_rfl) (by kernel_rfl) (by kernel_rfl) hQ (fun w' hS => run_moved (x := .tmp 6) (by kernel_rfl) (by repeat (first | (with_reducible exact h3) | (with_reducible exact h6) | ((with_reducible refine ev_same ?_); first | omega | (simp only [put_size]; omega)) | ((with_reducible refine ev_ne ?_ ?_); · decide)))) hS0 (fun _ => rfl) ?_
  refine late_held1 (i := 3) (d := 87) (v := .pointer (some ⟨g, 3, none⟩)) (oi := op16 3) (by kernel_rfl) (by kernel_rfl) (by kernel_rfl) (by kernel_rfl) (by kernel_rfl) (by kernel_rfl) (by kernel_rfl) hQ (fun w' hS => run_field43 (x := .tmp 3) (by kernel_rfl) (by repeat (first | (with_reducible exact h3) | (with_reducible exact h6) | ((with_reducible refine ev_same ?_); first | omega | (simp only [put_size]; omega)) | ((with_reducible refine ev_ne ?_ ?_); · decide)))) hS0 (fun _ => rfl) ?_
  refine late_held1 (i := 4) (d := 88) (v := .slice (some ⟨q, 0, none⟩) n c) (oi := op16 4) (by kernel_rfl) (by kernel_rfl) (by kernel_rfl) (by kernel_rfl) (by kernel_rfl) (by kernel_rfl) (by kernel_rfl) hQ (fun w' hS => run_load41 (x := .tmp 87) (by kernel_rfl) (by repeat (first | (with_reducible exact h3) | (with_reducible exact h6) | ((with_reducible refine ev_same ?_); first | omega | (simp only [put_size]; omega)) | ((with_reducible refine ev_ne ?_ ?_); · decide))) hS) hS0 (fun _ => rfl) ?_
  refine late_held1 (i := 5) (d := 89) (v := .int .i64 ((p : Int) + 1)) (oi := op16 5) (by kernel_rfl) (by kernel_rfl) (by kernel_rfl) (by kernel_rfl) (by kernel_rfl) (by kernel_rfl) (by kernel_rfl) hQ (fun w' hS => run_moved (x := .tmp 6) (by kernel_rfl) (by repeat (first | (with_reducible exact h3) | (with_reducible exact h6) | ((with_reducible refine ev_same ?_); first | omega | (simp only [put_size]; omega)) | ((with_reducible refine ev_ne ?_ ?_); · decide)))) hS0 (fun _ => rfl) ?_
  refine late_held1 (i := 6) (d := 90) (v := .int .i64 (p : Int)) (oi := op16 6) (by kernel_rfl) (by kernel_rfl) (by kernel_rfl) (by kernel_rfl) (by kernel_rfl) (by kernel_rfl) (by kernel_rfl) hQ (fun w' hS => run_sub1 (x := .tmp 89) (by kernel_rfl) hp (by repeat (first | (with_reducible exact h3) | (with_reducible exact h6) | ((with_reducible refine ev_same ?_); first | omega | (simp only [put_size]; omega)) | ((with_reducible refine ev_ne ?_ ?_); · decide))) rfl) hS0 (fun _ => rfl) ?_
  refine late_held1 (i := 7) (d := 91) (v := .pointer (some ⟨g, 3, none⟩)) (oi := op16 7) (by kernel_rfl) (by kernel_rfl) (by kernel_rfl) (by kernel_rfl) (by kernel_rfl) (by kernel_rfl) (by kernel_rfl) hQ (fun w' hS => run_field43 (x := .tmp 3) (by kernel_rfl) (by repeat (first | (with_reducible exact h3) | (with_reducible exact h6) | ((with_reducible refine ev_same ?_); first | omega | (simp only [put_size]; omega)) | ((with_reducible refine ev_ne ?_ ?_); · decide)))) hS0 (fun _ => rfl) ?_
  refine late_held1 (i := 8) (d := 92) (v := .slice (some ⟨q, 0, none⟩) n c) (oi := op16 8) (by kernel_rfl) (by kernel_rfl) (by kernel_rfl) (by kernel_rfl) (by kernel_rfl) (by kernel_rfl) (by kernel_rfl) hQ (fun w' hS => run_load41 (x := .tmp 91) (by kernel_rfl) (by repeat (first | (with_reducible exact h3) | (with_reducible exact h6) | ((with_reducible refine ev_same ?_); first | omega | (simp only [put_size]; omega)) | ((with_reducible refine ev_ne ?_ ?_); · decide))) hS) hS0 (fun _ => rfl) ?_
  refine late_held1 (i := 9) (d := 93) (v := .int .i64 ((p : Int) + 1)) (oi := op16 9) (by kernel_rfl) (by kernel_rfl) (by kernel_rfl) (by kernel_rfl) (by kernel_rfl) (by kernel_rfl) (by kernel_rfl) hQ (fun w' hS => run_moved (x := .tmp 6) (by kernel_rfl) (by repeat (first | (with_reducible exact h3) | (with_reducible exact h6) | ((with_reducible refine ev_same ?_); first | omega | (simp only [put_size]; omega)) | ((with_reducible refine ev_ne ?_ ?_); · decide)))) hS0 (fun _ => rfl) ?_
  refine late_held1 (i := 10) (d := 94) (v := .int .i64 (p : Int)) (oi := op16 10) (by kernel_rfl) (by kernel_rfl) (by kernel_rfl) (by kernel_rfl) (by kernel_rfl) (by kernel_rfl) (by kernel_rfl) hQ (fun w' hS => run_sub1 (x := .tmp 93) (by kernel_rfl) hp (by repeat (first | (with_reducible exact h3) | (with_reducible exact h6) | ((with_reducible refine ev_same ?_); first | omega | (simp only [put_size]; omega)) | ((with_reducible refine ev_ne ?_ ?_); · decide))) rfl) hS0 (fun _ => rfl) ?_
  refine late_held1 (i := 11) (d := 95) (v := .pointer (some ⟨q, p * 5, none⟩)) (oi := op16 11) (by kernel_rfl) (by kernel_rfl) (by kernel_rfl) (by kernel_rfl) (by kernel_rfl) (by kernel_rfl) (by kernel_rfl) hQ (fun w' hS => run_index41 (x := .tmp 92) (y := .tmp 94) (by kernel_rfl) (by repeat (first | (with_reducible exact h3) | (with_reducible exact h6) | ((with_reducible refine ev_same ?_); first | omega | (simp only [put_size]; omega)) | ((with_reducible refine ev_ne ?_ ?_); · decide))) (by repeat (first | (with_reducible exact h3) | (with_reducible exact h6) | ((with_reducible refine ev_same ?_); first | omega | (simp only [put_size]; omega)) | ((with_reducible refine ev_ne ?_ ?_); · decide))) (by omega) (by omega)) hS0 (fun _ => rfl) ?_
  refine late_take1 (i := 12) (d := 96) (v := .agg #[.int .i64 k1, .bool t1, .string s1, .slice A1 n1 ca1, .slice B1 m1 cb1]) (oi := op16 12) (by kernel_rfl) (by kernel_rfl) (by kernel_rfl) (by kernel_rfl) (by kernel_rfl) (by kernel_rfl) (by kernel_rfl) (by kernel_rfl) (by kernel_rfl) hQ (run_load43 (x := .tmp 95) (by kernel_rfl) (by repeat (first | (with_reducible exact h3) | (with_reducible exact h6) | ((with_reducible refine ev_same ?_); first | omega | (simp only [put_size]; omega)) | ((with_reducible refine ev_ne ?_ ?_); · decide))) e0 e1 e2 e3 e4) hS0 ?_
  refine late_held1 (i := 13) (d := 97) (v := .pointer (some ⟨g, 3, none⟩)) (oi := op16 13) (by kernel_rfl) (by kernel_rfl) (by kernel_rfl) (by kernel_rfl) (by kernel_rfl) (by kernel_rfl) (by kernel_rfl) hQ (fun w' hS => run_field43 (x := .tmp 3) (by kernel_rfl) (by repeat (first | (with_reducible exact h3) | (with_reducible exact h6) | ((with_reducible refine ev_same ?_); first | omega | (simp only [put_size]; omega)) | ((with_reducible refine ev_ne ?_ ?_); · decide)))) hS0 (fun _ => rfl) ?_
  refine late_held1 (i := 14) (d := 98) (v := .slice (some ⟨q, 0, none⟩) n c) (oi := op16 14) (by kernel_rfl) (by kernel_rfl) (by kernel_rfl) (by kernel_rfl) (by kernel_rfl) (by kernel_rfl) (by kernel_rfl) hQ (fun w' hS => run_load41 (x := .tmp 97) (by kernel_rfl) (by repeat (first | (with_reducible exact h3) | (with_reducible exact h6) | ((with_reducible refine ev_same ?_); first | omega | (simp only [put_size]; omega)) | ((with_reducible refine ev_ne ?_ ?_); · decide))) hS) hS0 (fun _ => rfl) ?_
  refine late_held1 (i := 15) (d := 99) (v := .int .i64 ((p : Int) + 1)) (oi := op16 15) (by kernel_rfl) (by kernel_rfl) (by kernel_rfl) (by kernel_rfl) (by kernel_rfl) (by kernel_rfl) (by kernel_rfl) hQ (fun w' hS => run_moved (x := .tmp 6) (by kernel_rfl) (by repeat (first | (with_reducible exact h3) | (with_reducible exact h6) | ((with_reducible refine ev_same ?_); first | omega | (simp only [put_size]; omega)) | ((with_reducible refine ev_ne ?_ ?_); · decide)))) hS0 (fun _ => rfl) ?_
  refine late_held1 (i := 16) (d := 100) (v := .pointer (some ⟨q, (p + 1) * 5, none⟩)) (oi := op16 16) (by kernel_rfl) (by kernel_rfl) (by kernel_rfl) (by kernel_rfl) (by kernel_rfl) (by kernel_rfl) (by kernel_rfl) hQ (fun w' hS => run_index41 (x := .tmp 98) (y := .tmp 99) (by kernel_rfl) (by repeat (first | (with_reducible exact h3) | (with_reducible exact h6) | ((with_reducible refine ev_same ?_); first | omega | (simp only [put_size]; omega)) | ((with_reducible refine ev_ne ?_ ?_); · decide))) (by repeat (first | (with_reducible exact h3) | (with_reducible exact h6) | ((with_reducible refine ev_same ?_); first | omega | (simp only [put_size]; omega)) | ((with_reducible refine ev_ne ?_ ?_); · decide))) (by omega) (by omega)) hS0 (fun _ => rfl) ?_
  refine late_take1 (i := 17) (d := 101) (v := .agg #[.int .i64 k2, .bool t2, .string s2, .slice A2 n2 ca2, .slice B2 m2 cb2]) (oi := op16 17) (by kernel_rfl) (by kernel_rfl) (by kernel_rfl) (by kernel_rfl) (by kernel_rfl) (by kernel_rfl) (by kernel_rfl) (by kernel_rfl) (by kernel_rfl) hQ (run_load43 (x := .tmp 100) (by kernel_rfl) (by repeat (first | (with_reducible exact h3) | (with_reducible exact h6) | ((with_reducible refine ev_same ?_); first | omega | (simp only [put_size]; omega)) | ((with_reducible refine ev_ne ?_ ?_); · decide))) g0 g1 g2 g3 g4) hS0 ?_
  refine late_held1 (i := 18) (d := 102) (v := .pointer (some ⟨q, (p + 1) * 5, none⟩)) (oi := op16 18) (by kernel_rfl) (by kernel_rfl) (by kernel_rfl) (by kernel_rfl) (by kernel_rfl) (by kernel_rfl) (by kernel_rfl) hQ (fun w' hS => run_index41 (x := .tmp 85) (y := .tmp 86) (by kernel_rfl) (by repeat (first | (with_reducible exact h3) | (with_reducible exact h6) | ((with_reducible refine ev_same ?_); first | omega | (simp only [put_size]; omega)) | ((with_reducible refine ev_ne ?_ ?_); · decide))) (by repeat (first | (with_reducible exact h3) | (with_reducible exact h6) | ((with_reducible refine ev_same ?_); first | omega | (simp only [put_size]; omega)) | ((with_reducible refine ev_ne ?_ ?_); · decide))) (by omega) (by omega)) hS0 (fun _ => rfl) ?_
  have hS1 := far _ ((p + 1) * 5) (.int .i64 k1) (.bool t1) (.string s1) (.slice A1 n1 ca1) (.slice B1 m1 cb1) hS0
  refine late_one1 (i := 19) (oi := op16 19) (w2 := set5 w.drew q ((p + 1) * 5) (.int .i64 k1) (.bool t1) (.string s1) (.slice A1 n1 ca1) (.slice B1 m1 cb1)) (by kernel_rfl) (by kernel_rfl) (by kernel_rfl) (by kernel_rfl) (by kernel_rfl) (run_store43 (x := .tmp 102) (y := .tmp 96) (by kernel_rfl) (by repeat (first | (with_reducible exact h3) | (with_reducible exact h6) | ((with_reducible refine ev_same ?_); first | omega | (simp only [put_size]; omega)) | ((with_reducible refine ev_ne ?_ ?_); · decide))) (by repeat (first | (with_reducible exact h3) | (with_reducible exact h6) | ((with_reducible refine ev_same ?_); first | omega | (simp only [put_size]; omega)) | ((with_reducible refine ev_ne ?_ ?_); · decide))) hf g0 g1 g2 g3 g4) hS1 ?_
  refine late_held1 (i := 20) (d := 103) (v := .pointer (some ⟨q, p * 5, none⟩)) (oi := op16 20) (by kernel_rfl) (by kernel_rfl) (by kernel_rfl) (by kernel_rfl) (by kernel_rfl) (by kernel_rfl) (by kernel_rfl) hQ (fun w' hS => run_index41 (x := .tmp 88) (y := .tmp 90) (by kernel_rfl) (by repeat (first | (with_reducible exact h3) | (with_reducible exact h6) | ((with_reducible refine ev_same ?_); first | omega | (simp only [put_size]; omega)) | ((with_reducible refine ev_ne ?_ ?_); · decide))) (by repeat (first | (with_reducible exact h3) | (with_reducible exact h6) | ((with_reducible refine ev_same ?_); first | omega | (simp only [put_size]; omega)) | ((with_reducible refine ev_ne ?_ ?_); · decide))) (by omega) (by omega)) hS1 (fun h => absurd h (by decide)) ?_
  refine late_one1 (i := 21) (oi := op16 21) (w2 := set5 (set5 w.drew q ((p + 1) * 5) (.int .i64 k1) (.bool t1) (.string s1) (.slice A1 n1 ca1) (.slice B1 m1 cb1)) q (p * 5) (.int .i64 k2) (.bool t2) (.string s2) (.slice A2 n2 ca2) (.slice B2 m2 cb2)) (by kernel_rfl) (by kernel_rfl) (by kernel_rfl) (by kernel_rfl) (by kernel_rfl) (run_store43 (x := .tmp 103) (y := .tmp 101) (by kernel_rfl) (by repeat (first | (with_reducible exact h3) | (with_reducible exact h6) | ((with_reducible refine ev_same ?_); first | omega | (simp only [put_size]; omega)) | ((with_reducible refine ev_ne ?_ ?_); · decide))) (by repeat (first | (with_reducible exact h3) | (with_reducible exact h6) | ((with_reducible refine ev_same ?_); first | omega | (simp only [put_size]; omega)) | ((with_reducible refine ev_ne ?_ ?_); · decide))) (hF _ _ _ _ _ _ _ hf) ((hc _ _ _ _ _ 0 (by omega)).trans e0) ((hc _ _ _ _ _ 1 (by omega)).trans e1) ((hc _ _ _ _ _ 2 (by omega)).trans e2) ((hc _ _ _ _ _ 3 (by omega)).trans e3) ((hc _ _ _ _ _ 4 (by omega)).trans e4)) (far _ _ _ _ _ _ _ hS1) ?_
  exact late_done (by kernel_rfl) (NoPanic.normal K) _
end Go.Proofs.YtoimjnmhinfbkaaGreatDoor

namespace Go.Proofs.YtoimjnmhinfbkaaGreatDoor
open Go.RowKit
set_option maxRecDepth 100000
/-! A region that draws its order, by facts: each operation leaves a fact on its slot and the world; no order is looked at. -/
/-- what is listed has all that it waits for. -/
def Downed (md : Region.Mode) (ops : Array Oper) (L : Array Bool) : Prop := ∀ c i, waits md ops c i = true → L.getD c false = true → L.getD i false = true
/-- each operation waits for earlier ones alone. -/
def topoB (md : Region.Mode) (ops : Array Oper) : Bool := (List.range ops.size).all fun c => match ops[c]? with
  | some o => o.after.all fun e => !Region.binds md e || decide (e.on < c)
  | none => true
/-- fact i speaks of slot sl i: the slot that i writes; who writes the slot of another one's fact is waited for by it. -/
def apartB (md : Region.Mode) (ops : Array Oper) (sl : Nat → Nat) : Bool := (List.range ops.size).all fun i => match (ops[i]?).bind (·.dst) with
  | some d => sl i == d && (List.range ops.size).all fun j => i == j || sl j != d || waits md ops j i
  | none => true
/-- no operation writes this slot. -/
def freeB (ops : Array Oper) (s : Nat) : Bool := (List.range ops.size).all fun i => (ops[i]?).bind (·.dst) != some s
theorem count_set (l : List Bool) : ∀ i, l.getD i true = false → (l.set i true).count false + 1 = l.count false := by
  induction l with
  | nil => intro i h; simp at h
  | cons b l ih =>
    intro i h
    cases i with
    | zero => simp at h; subst h; simp
    | succ i =>
      simp at h
      have := ih i (by simpa using h)
      cases b <;> simp [List.count_cons] <;> omega
theorem waits_of {md : Region.Mode} {ops : Array Oper} {c : Nat} {o : Oper} (ho : ops[c]? = some o) {e : Edge} (he : e ∈ o.after) (hb : Region.binds md e = true) : waits md ops c e.on = true := by
  unfold waits
  rw [ho]
  simp only [Array.any_eq_true, Bool.and_eq_true, beq_iff_eq]
  obtain ⟨k, hk, rfl⟩ := Array.mem_iff_getElem.1 he
  exact ⟨k, hk, hb, rfl⟩
theorem of_waits {md : Region.Mode} {ops : Array Oper} {c i : Nat} (h : waits md ops c i = true) : ∃ o e, ops[c]? = some o ∧ e ∈ o.after ∧ Region.binds md e = true ∧ e.on = i := by
  unfold waits at h
  split at h
  · rename_i o ho
    obtain ⟨k, hk, hb⟩ := Array.any_eq_true.1 h
    simp only [Bool.and_eq_true, beq_iff_eq] at hb
    exact ⟨o, _, ho, Array.getElem_mem hk, hb.1, hb.2⟩
  · cases h
section
variable {P : Program} {md : Region.Mode} {ops : Array Oper} {Q : Exit → Act → World → Prop}
theorem all_listed (ht : topoB md ops = true) {L : Array Bool} (hs : L.size = ops.size) (hr : Region.ready md ops L = []) : ∀ i, i < ops.size → L.getD i false = true := by
  intro i
  induction i using Nat.strongRecOn with
  | ind i ih =>
    intro hi
    have ho : ops[i]? = some ops[i] := Array.getElem?_eq_getElem hi
    cases h : L.getD i false with
    | true => rfl
    | false =>
      exfalso
      have hm : i ∈ Region.ready md ops L := by
        refine mem_ready.2 ⟨?_, _, ho, fun e he hb => ?_⟩
        · simp [Array.getD, hs, hi] at h ⊢; exact h
        · have h1 := List.all_eq_true.1 ht i (by simpa using hi)
          rw [ho] at h1
          simp only [Array.all_eq_true'] at h1
          have h2 := h1 e he
          simp [hb] at h2
          exact ih _ h2 (by omega)
      rw [hr] at hm
      cases hm
theorem any_facts (ht : topoB md ops = true) (St : Array Bool → Act → World → Prop)
    (hstep : ∀ i o, ops[i]? = some o → ∀ (L : Array Bool) a w, L.size = ops.size → L.getD i true = false → (∀ j, waits md ops i j = true → L.getD j false = true) → Downed md ops L → St L a w → wpOp P ops Q i (St (L.setIfInBounds i true)) a w)
    (hdone : ∀ L a w, (∀ i, i < ops.size → L.getD i false = true) → St L a w → Q .normal a w) :
    ∀ (fuel : Nat) (L : Array Bool) (a : Act) (w : World), L.size = ops.size → L.toList.count false ≤ fuel → Downed md ops L → St L a w → wpAny P md ops Q fuel L a w := by
  intro fuel
  induction fuel with
  | zero =>
    intro L a w hs hc hd hst
    have hall : ∀ i, i < ops.size → L.getD i false = true := fun i hi => by
      have hc0 : L.toList.count false = 0 := by omega
      have hne := List.count_eq_zero.1 hc0
      have hi' : i < L.size := by omega
      have hmem : L[i] ∈ L.toList := by simp
      have e : L[i] ≠ false := fun e => hne (e ▸ hmem)
      have e' : L[i] = true := by simpa using e
      rw [Array.getD_eq_getD_getElem?, Array.getElem?_eq_getElem hi']
      exact e'
    refine ⟨?_, hdone L a w hall hst⟩
    refine List.eq_nil_iff_forall_not_mem.2 fun i hi => ?_
    obtain ⟨h1, o, ho, -⟩ := mem_ready.1 hi
    have hi' := (Array.getElem?_eq_some_iff.1 ho).1
    have h2 := hall i hi'
    have hi2 : i < L.size := by omega
    simp [Array.getD, hi2] at h1 h2
    rw [h1] at h2
    cases h2
  | succ fuel ih =>
    intro L a w hs hc hd hst
    refine ⟨fun hr => hdone L a w (all_listed ht hs hr) hst, fun i hi => ?_⟩
    obtain ⟨h1, o, ho, hb⟩ := mem_ready.1 hi
    refine wpOp_mono (fun a' w' h' => ih _ a' w' (by simpa using hs) ?_ ?_ h') (hstep i o ho L a w hs h1 (fun j hj => ?_) hd hst)
    · have h1' : L.toList.getD i true = false := by rw [← h1]; simp [Array.getD_eq_getD_getElem?, List.getD]
      have := count_set L.toList i h1'
      rw [Array.toList_setIfInBounds]
      omega
    · intro c j hw hc
      by_cases hcj : c = i
      · subst hcj
        obtain ⟨o', e, ho', he, hbe, rfl⟩ := of_waits hw
        rw [ho] at ho'
        cases ho'
        have := hb e he hbe
        by_cases hei : e.on = c
        · rw [hei] at this
          have hlt : c < L.size := by have := (Array.getElem?_eq_some_iff.1 ho).1; omega
          simp [Array.getD, hlt] at h1 this
          rw [h1] at this
          cases this
        · rw [getD_set_ne false (fun e' => hei e'.symm)]; exact this
      · rw [getD_set_ne false (fun e' => hcj e'.symm)] at hc
        have h3 := hd c j hw hc
        by_cases hji : j = i
        · subst hji
          have hlt : j < L.size := by have := (Array.getElem?_eq_some_iff.1 ho).1; omega
          simp [Array.getD, hlt]
        · rw [getD_set_ne false (fun e' => hji e'.symm)]; exact h3
    · obtain ⟨o', e, ho', he, hbe, rfl⟩ := of_waits hj
      rw [ho] at ho'
      cases ho'
      exact hb e he hbe
/-- the state: what holds of the world; the frame but for the region's slots; each listed operation's fact on its slot. -/
structure Facts (ops : Array Oper) (sl : Nat → Nat) (J : Array Bool → World → Prop) (R : Nat → Value → World → Prop) (a0 : Act) (L : Array Bool) (a : Act) (w : World) : Prop where
  world : J L w
  defers : a.defers = a0.defers
  size : a.tmps.size = a0.tmps.size
  rest : ∀ s, freeB ops s = true → a.eval (.tmp s) = a0.eval (.tmp s)
  got : ∀ i, L.getD i false = true → R i (a.eval (.tmp (sl i))) w
/-- behind operation i: its value, its fact; the others' facts stand. -/
def Made (sl : Nat → Nat) (J : Array Bool → World → Prop) (R : Nat → Value → World → Prop) (L : Array Bool) (i : Nat) (o : Oper) (a : Act) (w : World) (a' : Act) (w' : World) : Prop :=
  ∃ v, a' = a.put o.dst v ∧ (∀ d, o.dst = some d → R i v w') ∧ (o.dst = none → R i (a.eval (.tmp (sl i))) w') ∧ J (L.setIfInBounds i true) w' ∧ ∀ j, j ≠ i → L.getD j false = true → ∀ u, R j u w → R j u w'
theorem any_made {sl : Nat → Nat} {J : Array Bool → World → Prop} {R : Nat → Value → World → Prop} (ht : topoB md ops = true) (hap : apartB md ops sl = true) (a0 : Act) (hsl : ∀ i d : Nat, (ops[i]?).bind (·.dst) = some d → d < a0.tmps.size)
    (hstep : ∀ i o, ops[i]? = some o → ∀ (L : Array Bool) a w, L.size = ops.size → L.getD i true = false → (∀ j, waits md ops i j = true → L.getD j false = true) → Downed md ops L → Facts ops sl J R a0 L a w → wpOp P ops Q i (Made sl J R L i o a w) a w)
    (hdone : ∀ L a w, (∀ i, i < ops.size → L.getD i false = true) → Facts ops sl J R a0 L a w → Q .normal a w) (w : World) (hJ : J (Array.replicate ops.size false) w) :
    wpAny P md ops Q ops.size (Array.replicate ops.size false) a0 w := by
  refine any_facts ht (Facts ops sl J R a0) (fun i o ho L a w hs h1 hdep hd hst => ?_) hdone _ _ _ _ (by simp) (by rw [Array.toList_replicate, List.count_replicate_self]; exact Nat.le_refl _) (fun c i _ hc => by simp [Array.getD] at hc) ⟨hJ, rfl, rfl, fun _ _ => rfl, fun i hi => by simp [Array.getD] at hi⟩
  have hil : i < ops.size := (Array.getElem?_eq_some_iff.1 ho).1
  refine wpOp_mono ?_ (hstep i o ho L a w hs h1 hdep hd hst)
  rintro a' w' ⟨v, rfl, hR, hR0, hJ', hk⟩
  obtain ⟨-, g2, g3, g4, g5⟩ := hst
  have hod : (ops[i]?).bind (·.dst) = o.dst := by rw [ho]; rfl
  have hai := List.all_eq_true.1 hap i (by simpa using hil)
  rw [hod] at hai
  refine ⟨hJ', ?_, ?_, fun s hs' => ?_, fun j hj => ?_⟩
  · cases hd' : o.dst <;> exact g2
  · rw [put_size]; exact g3
  · have := List.all_eq_true.1 hs' i (by simpa using hil)
    rw [hod] at this
    cases hd' : o.dst with
    | none => exact g4 s hs'
    | some d =>
      rw [hd'] at this
      exact ev_ne (by simpa using this) (g4 s hs')
  · by_cases hji : j = i
    · subst hji
      cases hd' : o.dst with
      | none => exact hR0 hd'
      | some d =>
        rw [hd'] at hai
        simp only [Bool.and_eq_true, beq_iff_eq] at hai
        rw [hai.1]
        have he : (a.put (some d) v).eval (.tmp d) = v := ev_same (by rw [g3]; exact hsl j d (hod.trans hd'))
        rw [he]
        exact hR d hd'
    · rw [getD_set_ne false (fun e => hji e.symm)] at hj
      have h5 := hk j hji hj _ (g5 j hj)
      cases hd' : o.dst with
      | none => exact h5
      | some d =>
        rw [hd'] at hai
        simp only [Bool.and_eq_true, beq_iff_eq] at hai
        have hjl : j < ops.size := by
          rw [← hs]
          rcases Nat.lt_or_ge j L.size with h | h
          · exact h
          · simp [Array.getD, Nat.not_lt.2 h] at hj
        have h6 := List.all_eq_true.1 hai.2 j (by simpa using hjl)
        simp only [Bool.or_eq_true, beq_iff_eq, bne_iff_ne] at h6
        rcases h6 with (h6 | h6) | h6
        · exact absurd h6.symm hji
        · have he : (a.put (some d) v).eval (.tmp (sl j)) = a.eval (.tmp (sl j)) := ev_ne (fun e => h6 e.symm) rfl
          rw [he]
          exact h5
        · exfalso
          have h7 := hd j i h6 hj
          have hlt : i < L.size := by omega
          simp [Array.getD, hlt] at h1 h7
          rw [h1] at h7
          cases h7
theorem op_value {i : Nat} {o : Oper} {K : Act → World → Prop} {a : Act} {w w' : World} {v : Value} (ho : ops[i]? = some o) (hg : o.guard = none) (hr : (execOp a.eval o).run P w = .ok (.value v) w') (h : K (a.put o.dst v) w') : wpOp P ops Q i K a w := by
  unfold wpOp
  have hw : Region.wanted o (yielded ops a.tmps) = true := by unfold Region.wanted; rw [hg]
  simp only [ho, hw, if_true]
  refine .inl ?_
  unfold Oper.wp
  rw [hr, Oper.upon_value]
  exact h
theorem op_skip {i : Nat} {o : Oper} {K : Act → World → Prop} {a : Act} {w w' : World} (ho : ops[i]? = some o) (hg : o.guard = none) (hr : (execOp a.eval o).run P w = .ok .skip w') (h : K (a.put o.dst undef) w') : wpOp P ops Q i K a w := by
  unfold wpOp
  have hw : Region.wanted o (yielded ops a.tmps) = true := by unfold Region.wanted; rw [hg]
  simp only [ho, hw, if_true]
  refine .inl ?_
  unfold Oper.wp
  rw [hr, Oper.upon_skip]
  exact h
theorem op_call {i : Nat} {o : Oper} {K : Act → World → Prop} {a : Act} {w w' : World} {f : FuncId} {args : Array Value} (ho : ops[i]? = some o) (hg : o.guard = none) (hr : (execOp a.eval o).run P w = .ok (.enter f args) w') (h : Calls P f args w' fun e w'' => ∃ v, e = .returned v ∧ K (a.put o.dst v) w'') : wpOp P ops Q i K a w := by
  unfold wpOp
  have hw : Region.wanted o (yielded ops a.tmps) = true := by unfold Region.wanted; rw [hg]
  simp only [ho, hw, if_true]
  refine .inl ?_
  unfold Oper.wp
  rw [hr, Oper.upon_enter]
  refine Calls.mono h ?_
  rintro e w'' ⟨v, rfl, hk⟩
  exact hk
end
/-- a frame is told by its slots. -/
theorem act_ext {a b : Act} (hd : a.defers = b.defers) (hs : a.tmps.size = b.tmps.size) (h : ∀ s, s < a.tmps.size → a.eval (.tmp s) = b.eval (.tmp s)) : a = b := by
  cases a; cases b
  simp only at hd hs h
  subst hd
  congr 1
  refine Array.ext hs fun i h1 h2 => ?_
  have := h i h1
  simpa [Act.eval, Array.getD, h1, h2] using this
end Go.Proofs.YtoimjnmhinfbkaaGreatDoor

namespace Go.Proofs.YtoimjnmhinfbkaaGreatDoor
open Go.RowKit
set_option maxRecDepth 100000
/-- a world that has grown, nothing else. -/
def Ext (w w' : World) : Prop := w.heap.size ≤ w'.heap.size ∧ ∀ b, b < w.heap.size → w'.heap[b]? = w.heap[b]?
theorem Ext.of_below {w w' : World} (h : Below w.heap.size w w') : Ext w w' := ⟨h.size, fun b hb => h.block b hb⟩
theorem Ext.alloc (w : World) (o : Obj) : Ext w (w.alloc o) := ⟨by simp, fun b hb => alloc_before hb⟩
theorem own_ext {w w' : World} {base e size n : Nat} {v : Value} {xs : List Value} (h : w.ownsRow base e size v n xs) (hx : Ext w w') : w'.ownsRow base e size v n xs :=
  h.far fun b hb => hx.2 b (World.ownsRow.lt h b hb).2
theorem blk_ext {w w' : World} {b : Nat} {c : Obj} (h : w.heap[b]? = some c) (hx : Ext w w') : w'.heap[b]? = some c := by
  have hlt : b < w.heap.size := by
    rcases Nat.lt_or_ge b w.heap.size with h1 | h1
    · exact h1
    · rw [Array.getElem?_eq_none h1] at h; cases h
  exact (hx.2 b hlt).trans h
theorem own_new {w : World} {base e size n : Nat} (xs : List Value) (hl : xs.length = n * size) (hb : base ≤ w.heap.size) (hn : n ≤ maxLen) :
    (w.alloc (.cells xs.toArray e)).ownsRow base e size (.slice (some ⟨w.heap.size, 0, none⟩) n n) n xs :=
  ⟨hl, .inr ⟨w.heap.size, n, xs.toArray, rfl, hb, heap_alloc_new w _, Nat.le_refl _, hn, by simpa using hl, by simp [← hl]⟩⟩
noncomputable def opAt (ops : Array Oper) (i : Nat) : Oper := ops.getD i default
section
variable {sl : Nat → Nat} {J : Array Bool → World → Prop} {R : Nat → Value → World → Prop} {L : Array Bool} {i : Nat} {o : Oper} {a : Act} {w w' : World}
theorem made_val {v : Value} {d : Nat} (hd : o.dst = some d) (hR : R i v w') (hJ : J (L.setIfInBounds i true) w') (hk : ∀ j, j ≠ i → L.getD j false = true → ∀ u, R j u w → R j u w') : Made sl J R L i o a w (a.put o.dst v) w' :=
  ⟨v, rfl, fun _ _ => hR, fun h => by (rw [hd] at h; cases h), hJ, hk⟩
theorem made_skip {v : Value} (hd : o.dst = none) (hR : R i (a.eval (.tmp (sl i))) w') (hJ : J (L.setIfInBounds i true) w') (hk : ∀ j, j ≠ i → L.getD j false = true → ∀ u, R j u w → R j u w') : Made sl J R L i o a w (a.put o.dst v) w' :=
  ⟨v, rfl, fun d h => by (rw [hd] at h; cases h), fun _ => hR, hJ, hk⟩
end
/-- the form in which a region's law is used. -/
theorem region_made {id : Nat} {ops : Array Oper} {n : Nat} {sl : Nat → Nat} {J : Array Bool → World → Prop} {R : Nat → Value → World → Prop} {Q : Exit → Act → World → Prop} {a0 : Act} {w : World} (hn : ops.size = n) (ht : topoB .any ops = true) (hap : apartB .any ops sl = true)
    (hm : ops.all (fun o => match o.dst with | some d => decide (d < a0.tmps.size) | none => true) = true)
    (hstep : ∀ i, i < n → ∀ (L : Array Bool) a w, L.size = n → L.getD i true = false → (∀ j, waits .any ops i j = true → L.getD j false = true) → Downed .any ops L → Facts ops sl J R a0 L a w → ops[i]? = some (opAt ops i) → wpOp Tryz.prog ops Q i (Made sl J R L i (opAt ops i) a w) a w)
    (hJ : J (Array.replicate n false) w.drew)
    (hdone : ∀ L a w, (∀ i, i < n → L.getD i false = true) → Facts ops sl J R a0 L a w → Q .normal a w) : (Code.region id ops true).wp Tryz.prog Q a0 w := by
  subst hn
  refine wp_region_any (by kernel_rfl) (any_made ht hap a0 (fun i d h => ?_) (fun i o ho L a w hs h1 hdep hd hst => ?_) hdone _ hJ)
  · cases ho : ops[i]? with
    | none => rw [ho] at h; cases h
    | some o =>
      rw [ho] at h
      have h1 := (Array.all_eq_true'.1 hm) o (Array.mem_of_getElem? ho)
      simp only [Option.bind_some] at h
      rw [h] at h1
      simpa using h1
  · have hil : i < ops.size := (Array.getElem?_eq_some_iff.1 ho).1
    have e : o = opAt ops i := by unfold opAt; rw [Array.getD_eq_getD_getElem?, ho]; rfl
    subst e
    exact hstep i hil L a w hs h1 hdep hd hst ho
end Go.Proofs.YtoimjnmhinfbkaaGreatDoor
