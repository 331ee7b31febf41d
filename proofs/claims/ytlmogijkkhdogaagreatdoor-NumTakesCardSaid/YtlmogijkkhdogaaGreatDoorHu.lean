/- The slow path's variables and the floats' powers of ten, out of the rows' listed variables. -/
import Derived.Test.YtlmogijkkhdogaaGreatDoorHr
import Derived.Test.YtlmogijkkhdogaaGreatDoorGl
import Derived.ChangeArms
namespace Go.Proofs.YtlmogijkkhdogaaGreatDoor
open Go.RowKit Go.Lib
set_option maxRecDepth 100000

section
variable {H : Type} {enc : TypeId × Value → H} {P : Program} {w : World} {base : Nat} {sp : Nat → Bool} {held : Bool}
theorem struct_field {fuel : Nat} {t : TypeId} {fs : Array Field} {cs : List Value} {ds : List (DataW H)} {p : List MemPlace} (ht : P.underlying t = some (.struct fs)) (h : DataW.trod enc P w base sp held fuel t cs = some (.agg ds, p))
    {i : Nat} {f : Field} {d : DataW H} (hf : fs[i]? = some f) (hd : ds[i]? = some d) : ∃ n q, DataW.trod enc P w base sp held n f.type ((cs.drop f.offset).take (P.cellsOf f.type)) = some (d, q) := by
  obtain ⟨xs, n, rfl, hx, hl, hxl, hall⟩ := DataW.trod_struct ht h
  have h1 := hall i f hf
  have hds : xs.map (·.1) = ds := by
    have := congrArg Prod.fst hx
    simpa using this.symm
  rw [← hds, List.getElem?_map] at hd
  cases hy : xs[i]? with
  | none => rw [hy] at hd; cases hd
  | some y =>
    rw [hy] at h1 hd
    simp only [Option.map_some, Option.some.injEq] at hd
    exact ⟨n, y.2, by rw [h1, ← hd]⟩
theorem int_field {fuel : Nat} {t : TypeId} {fs : Array Field} {cs : List Value} {ds : List (DataW H)} {p : List MemPlace} (ht : P.underlying t = some (.struct fs)) (h : DataW.trod enc P w base sp held fuel t cs = some (.agg ds, p))
    (i : Nat) {f : Field} {k : IntKind} {z : Int} (hf : fs[i]? = some f) (hu : P.underlying f.type = some (.int k)) (hc : P.cellsOf f.type = 1) (hd : ds[i]? = some (.lit (.int k z))) : cs[f.offset]? = some (.int k z) := by
  obtain ⟨n, q, h1⟩ := struct_field ht h hf hd
  rw [hc] at h1
  obtain ⟨m, hcs, hx, _⟩ := DataW.trod_int hu h1
  simp only [Prod.mk.injEq, DataW.lit.injEq, Lit.int.injEq] at hx
  have := congrArg (·[0]?) hcs
  simp only [List.getElem?_take, List.getElem?_drop] at this
  rw [hx.1.2]
  simpa using this
theorem str_field {fuel : Nat} {t : TypeId} {fs : Array Field} {cs : List Value} {ds : List (DataW H)} {p : List MemPlace} (ht : P.underlying t = some (.struct fs)) (h : DataW.trod enc P w base sp held fuel t cs = some (.agg ds, p))
    (i : Nat) {f : Field} {l : List UInt8} (hf : fs[i]? = some f) (hu : P.underlying f.type = some .string) (hc : P.cellsOf f.type = 1) (hd : ds[i]? = some (.lit (.string l))) : cs[f.offset]? = some (.string ⟨l.toArray⟩) := by
  obtain ⟨n, q, h1⟩ := struct_field ht h hf hd
  rw [hc] at h1
  obtain ⟨s, hcs, hx, _⟩ := DataW.trod_string hu h1
  simp only [Prod.mk.injEq, DataW.lit.injEq, Lit.string.injEq] at hx
  have := congrArg (·[0]?) hcs
  simp only [List.getElem?_take, List.getElem?_drop] at this
  rw [hx.1]
  simpa using this
theorem trod_float {fuel : Nat} {t : TypeId} {k : FloatKind} {cs : List Value} {x : DataW H × List MemPlace} (ht : P.underlying t = some (.float k)) (h : DataW.trod enc P w base sp held fuel t cs = some x) : ∃ b, cs = [.float k b] ∧ x = (.lit (.float k b), []) := by
  cases fuel with
  | zero => simp [DataW.trod] at h
  | succ n =>
    unfold DataW.trod at h
    rw [ht] at h
    split at h <;> simp_all
theorem addr_add {w : World} {a : Addr} {v : Value} (h : w.cell? a = some v) (i : Nat) : a = ⟨a.block, a.off, none⟩ ∧ a.add i = ⟨a.block, a.off + i, none⟩ := by
  have hs : a.spot = none := by
    unfold World.cell? at h
    split at h
    · cases hp : a.spot with
      | none => rfl
      | some x => rw [hp] at h; simp at h
    · cases h
  have e : a = ⟨a.block, a.off, none⟩ := by cases a; simp at hs; subst hs; rfl
  refine ⟨e, ?_⟩
  unfold Addr.add
  split
  · rename_i h0; rw [h0, Nat.add_zero]; exact e
  · rfl
/-- a slice of structs without spare: each element's cells. -/
theorem open_rows {t e : TypeId} {fuel : Nat} {cs : List Value} {ds : List (DataW H)} {p : List MemPlace} (ht : P.underlying t = some (.slice e))
    (h : DataW.trod enc P w base sp held fuel t cs = some (.slice ds [], p)) :
    ∃ a cap, cs = [.slice (some a) ds.length cap] ∧ ∀ i d, ds[i]? = some d → ∃ n q c, w.cells? base (a.add (i * P.cellsOf e)) (P.cellsOf e) = some c ∧ DataW.trod enc P w base sp held n e c = some (d, q) := by
  rcases DataW.trod_slice ht h with ⟨_, hx⟩ | ⟨a, len, cap, elems, rest, n, _, hcs, hx, _, hl, _, hlen, hel, _⟩
  · simp at hx
  · simp only [Prod.mk.injEq, DataW.slice.injEq] at hx
    obtain ⟨⟨rfl, _⟩, _⟩ := hx
    have el : (elems.map (·.1)).length = len := by simpa using hlen
    refine ⟨a, cap, by rw [el]; exact hcs, fun i d hd => ?_⟩
    have hi : i < len := by rw [← el]; exact (List.getElem?_eq_some_iff.1 hd).1
    have hE := hel i hi
    rw [List.getElem?_map] at hd
    cases hy : elems[i]? with
    | none => simp [hy] at hd
    | some y =>
      rw [hy] at hE hd
      simp only [Option.map_some, Option.some.injEq] at hd
      simp only [Option.bind_eq_some_iff] at hE
      obtain ⟨c1, hc1, hy1⟩ := hE
      exact ⟨n, y.2, c1, hc1, by rw [hy1, ← hd]⟩
end

theorem info_of_reads {W : World} (h : VarReads Tryz.prog W "internal/strconv.float64info" Rows.laid_internal_strconv_float64info) :
    W.cell? ⟨6, 0, none⟩ = some (.int .u64 52) ∧ W.cell? ⟨6, 1, none⟩ = some (.int .u64 11) ∧ W.cell? ⟨6, 2, none⟩ = some (.int .i64 (-1023)) := by
  obtain ⟨g, t, cs, fuel, p, hg, hty, hvar, hd⟩ := h
  obtain rfl := Option.some.inj ((show Tryz.prog.globalNamed "internal/strconv.float64info" = some 6 by kernel_rfl).symm.trans hg)
  obtain rfl := Option.some.inj ((show (Tryz.prog.globals[6]?).map (·.type) = some 264 by kernel_rfl).symm.trans hty)
  have hd' : DataW.trod (fun _ => ()) Tryz.prog W 0 (fun _ => true) false fuel 264 cs.toList = some (.agg [.lit (.int .u64 52), .lit (.int .u64 11), .lit (.int .i64 (-1023))], p) := hd
  have e0 := int_field Tryz.underlying264 hd' 0 rfl (by kernel_rfl) (by kernel_rfl) rfl
  have e1 := int_field Tryz.underlying264 hd' 1 rfl (by kernel_rfl) (by kernel_rfl) rfl
  have e2 := int_field Tryz.underlying264 hd' 2 rfl (by kernel_rfl) (by kernel_rfl) rfl
  refine ⟨?_, ?_, ?_⟩
  · rw [World.var?_cell hg hvar 0, ← Array.getElem?_toList]; exact e0
  · rw [World.var?_cell hg hvar 1, ← Array.getElem?_toList]; exact e1
  · rw [World.var?_cell hg hvar 2, ← Array.getElem?_toList]; exact e2
theorem powtab_of_reads {W : World} (h : VarReads Tryz.prog W "internal/strconv.powtab" Rows.laid_internal_strconv_powtab) :
    ∃ b o cap : Nat, b < W.heap.size ∧ W.cell? ⟨12, 0, none⟩ = some (.slice (some ⟨b, o, none⟩) 9 cap) ∧ ∀ i n, powT[i]? = some n → W.cell? ⟨b, o + i, none⟩ = some (.int .i64 (n : Nat)) := by
  obtain ⟨g, t, cs, fuel, p, hg, hty, hvar, hd⟩ := h
  obtain rfl := Option.some.inj ((show Tryz.prog.globalNamed "internal/strconv.powtab" = some 12 by kernel_rfl).symm.trans hg)
  obtain rfl := Option.some.inj ((show (Tryz.prog.globals[12]?).map (·.type) = some 43 by kernel_rfl).symm.trans hty)
  have hd' : DataW.trod (fun _ => ()) Tryz.prog W 0 (fun _ => true) false fuel 43 cs.toList = some (.slice (powT.map fun n => .lit (.int .i64 (n : Nat))) [], p) := hd
  obtain ⟨a, cap, hcs, _, hall⟩ := open_row Tryz.underlying43 (by kernel_rfl) hd'
  obtain ⟨v0, n0, q0, hc0, _⟩ := hall 0 _ rfl
  have ha0 : W.cell? a = some v0 := by simpa [Addr.add] using hc0
  have hA := fun i => addr_add ha0 i
  refine ⟨a.block, a.off, cap, World.block_lt_of_cell? W _ ha0, ?_, fun i n hi => ?_⟩
  · rw [World.var?_cell hg hvar 0, ← Array.getElem?_toList, hcs]
    show some (Value.slice (some a) 9 cap) = _
    rw [← (hA 0).1]
  · obtain ⟨v, m, q, hc, ht⟩ := hall i (.lit (.int .i64 (n : Nat))) (by rw [List.getElem?_map, hi]; rfl)
    obtain ⟨z, hz, hx, _⟩ := DataW.trod_int Tryz.underlying3 ht
    simp only [Prod.mk.injEq, DataW.lit.injEq, Lit.int.injEq] at hx
    simp only [List.cons.injEq, and_true] at hz
    rw [← (hA i).2, hc, hz, hx.1.2]
theorem fp_of_reads {W : World} (h : VarReads Tryz.prog W "internal/strconv.float64pow10" Rows.laid_internal_strconv_float64pow10) : Pow10F W.heap.size W := by
  obtain ⟨g, t, cs, fuel, p, hg, hty, hvar, hd⟩ := h
  obtain rfl := Option.some.inj ((show Tryz.prog.globalNamed "internal/strconv.float64pow10" = some 13 by kernel_rfl).symm.trans hg)
  obtain rfl := Option.some.inj ((show (Tryz.prog.globals[13]?).map (·.type) = some 305 by kernel_rfl).symm.trans hty)
  have hd' : DataW.trod (fun _ => ()) Tryz.prog W 0 (fun _ => true) false fuel 305 cs.toList = some (.slice (fp10.map fun n => .lit (.float .f64 n)) [], p) := hd
  obtain ⟨a, cap, hcs, _, hall⟩ := open_row Tryz.underlying305 (by kernel_rfl) hd'
  obtain ⟨v0, n0, q0, hc0, _⟩ := hall 0 _ rfl
  have ha0 : W.cell? a = some v0 := by simpa [Addr.add] using hc0
  have hA := fun i => addr_add ha0 i
  refine ⟨a.block, a.off, cap, World.block_lt_of_cell? W _ ha0, ?_, fun i hi => ?_⟩
  · rw [World.var?_cell hg hvar 0, ← Array.getElem?_toList, hcs]
    show some (Value.slice (some a) 23 cap) = _
    rw [← (hA 0).1]
  · have hlt : i < fp10.length := by show i < 23; omega
    have hfp : fp10[i]? = some (fp i) := by
      unfold fp; rw [List.getD_eq_getElem?_getD, List.getElem?_eq_getElem hlt]; rfl
    obtain ⟨v, m, q, hc, ht⟩ := hall i (.lit (.float .f64 (fp i))) (by rw [List.getElem?_map, hfp]; rfl)
    obtain ⟨z, hz, hx⟩ := trod_float Tryz.underlying24 ht
    simp only [Prod.mk.injEq, DataW.lit.injEq, Lit.float.injEq] at hx
    simp only [List.cons.injEq, and_true] at hz
    rw [← (hA i).2, hc, hz, hx.1.2]
theorem cheats_len : Go.Pinned.cheatRows.length = 61 := by kernel_rfl
theorem cheat_of_reads {W : World} (h : VarReads Tryz.prog W "internal/strconv.leftcheats" Rows.laid_internal_strconv_leftcheats) :
    ∃ b o cap : Nat, b < W.heap.size ∧ W.cell? ⟨10, 0, none⟩ = some (.slice (some ⟨b, o, none⟩) 61 cap) ∧ ∀ k δ c, Go.Pinned.cheatRows[k]? = some (δ, c) → W.cell? ⟨b, o + k * 2, none⟩ = some (.int .i64 (δ : Nat)) ∧ W.cell? ⟨b, o + k * 2 + 1, none⟩ = some (.string ⟨c.toArray⟩) := by
  obtain ⟨g, t, cs, fuel, p, hg, hty, hvar, hd⟩ := h
  obtain rfl := Option.some.inj ((show Tryz.prog.globalNamed "internal/strconv.leftcheats" = some 10 by kernel_rfl).symm.trans hg)
  obtain rfl := Option.some.inj ((show (Tryz.prog.globals[10]?).map (·.type) = some 299 by kernel_rfl).symm.trans hty)
  have hd' : DataW.trod (fun _ => ()) Tryz.prog W 0 (fun _ => true) false fuel 299 cs.toList = some (.slice (Go.Pinned.cheatRows.map fun x => .agg [.lit (.int .i64 x.1), .lit (.string x.2)]) [], p) := hd
  obtain ⟨a, cap, hcs, hall⟩ := open_rows Tryz.underlying299 hd'
  have h2 : Tryz.prog.cellsOf 298 = 2 := by kernel_rfl
  rw [h2] at hall
  have key : ∀ k δ c, Go.Pinned.cheatRows[k]? = some (δ, c) → W.cell? ((a.add (k * 2)).add 0) = some (.int .i64 (δ : Nat)) ∧ W.cell? ((a.add (k * 2)).add 1) = some (.string ⟨c.toArray⟩) := by
    intro k δ c hk
    obtain ⟨n, q, l, hc, ht⟩ := hall k (.agg [.lit (.int .i64 δ), .lit (.string c)]) (by rw [List.getElem?_map, hk]; rfl)
    have i0 := int_field Tryz.underlying298 ht 0 rfl (by kernel_rfl) (by kernel_rfl) rfl
    have i1 := str_field Tryz.underlying298 ht 1 rfl (by kernel_rfl) (by kernel_rfl) rfl
    obtain ⟨_, hl, hcells⟩ := World.cells?_some hc
    have c0 := hcells 0 (by omega)
    have c1 := hcells 1 (by omega)
    exact ⟨by rw [c0]; exact i0, by rw [c1]; exact i1⟩
  have hrow0 : Go.Pinned.cheatRows[0]? = some (0, []) := by kernel_rfl
  have ha0 : W.cell? a = some (.int .i64 (0 : Nat)) := by simpa [Addr.add] using (key 0 0 [] hrow0).1
  have hA := fun i => addr_add ha0 i
  refine ⟨a.block, a.off, cap, World.block_lt_of_cell? W _ ha0, ?_, fun k δ c hk => ?_⟩
  · rw [World.var?_cell hg hvar 0, ← Array.getElem?_toList, hcs]
    show some (Value.slice (some a) _ cap) = _
    rw [← (hA 0).1, List.length_map, cheats_len]
  · obtain ⟨k0, k1⟩ := key k δ c hk
    rw [(hA (k * 2)).2] at k0 k1
    exact ⟨by simpa [Addr.add] using k0, by simpa [Addr.add] using k1⟩
theorem lay_of {W : World} (hg : Glob W) (ht : Tab10 W) (h1 : VarReads Tryz.prog W "internal/strconv.float64info" Rows.laid_internal_strconv_float64info) (h2 : VarReads Tryz.prog W "internal/strconv.powtab" Rows.laid_internal_strconv_powtab)
    (h3 : VarReads Tryz.prog W "internal/strconv.leftcheats" Rows.laid_internal_strconv_leftcheats) (h4 : VarReads Tryz.prog W "internal/strconv.float64pow10" Rows.laid_internal_strconv_float64pow10) : Lay W := by
  obtain ⟨a, b, c⟩ := info_of_reads h1
  have hF := fp_of_reads h4
  have h14 : 14 ≤ W.heap.size := by
    obtain ⟨b, o, cap, _, h, _⟩ := hF
    exact World.block_lt_of_cell? W _ h
  exact ⟨hg, ht, W.heap.size, Nat.le_refl _, ⟨h14, a, b, c, powtab_of_reads h2, cheat_of_reads h3⟩, hF⟩
end Go.Proofs.YtlmogijkkhdogaaGreatDoor
