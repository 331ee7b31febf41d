/- The table of powers of ten, out of the rows' listed variables. -/
import Derived.Test.YtlmogijkkhdogaaGreatDoorGb
import Derived.Test.YtlmogijkkhdogaaGreatDoorFg
namespace Go.Proofs.YtlmogijkkhdogaaGreatDoor
open Go.RowKit Go.Lib
set_option maxRecDepth 100000

theorem tab10_of_reads {W : World} (h : VarReads Tryz.prog W "internal/strconv.pow10Tab" Rows.laid_internal_strconv_pow10Tab) : Tab10 W := by
  intro k hk
  obtain ⟨g, t, cs, fuel, p, hg, hty, hvar, hd⟩ := h
  obtain rfl := Option.some.inj ((show Tryz.prog.globalNamed "internal/strconv.pow10Tab" = some 9 by kernel_rfl).symm.trans hg)
  obtain rfl := Option.some.inj ((show (Tryz.prog.globals[9]?).map (·.type) = some 295 by kernel_rfl).symm.trans hty)
  have hd' : DataW.trod (fun _ => ()) Tryz.prog W 0 (fun _ => true) false fuel 295 cs.toList = some (.agg (Go.Pinned.pow10Rows.map fun x => .agg [.lit (.int .u64 x.1), .lit (.int .u64 x.2)]), p) := hd
  have hc : Tryz.prog.cellsOf 294 = 2 := by kernel_rfl
  obtain ⟨fuel', d, q, hdi, he⟩ := array_elem (show Tryz.prog.underlying 295 = some (.array 696 294) by kernel_rfl) hd' k hk
  rw [List.getElem?_map, row_get k hk, Option.map_some] at hdi
  obtain rfl := Option.some.inj hdi
  rw [hc] at he
  have hcs := ints_of_struct (zs := [(pHi k : Int), (pLo k : Int)]) Tryz.underlying294 (fun j f hj => by
      match j, hj with
      | 0, hj => simp at hj; subst hj; exact ⟨Tryz.underlying22, rfl, by kernel_rfl⟩
      | 1, hj => simp at hj; subst hj; exact ⟨Tryz.underlying22, rfl, by kernel_rfl⟩
      | j + 2, hj => simp at hj) (by rw [hc]; rfl) he
  have e0 := congrArg (·[0]?) hcs
  have e1 := congrArg (·[1]?) hcs
  simp only [List.getElem?_take, List.getElem?_drop] at e0 e1
  constructor
  · rw [World.var?_cell hg hvar (k * 2), ← Array.getElem?_toList]
    simpa using e0
  · rw [World.var?_cell hg hvar (k * 2 + 1), ← Array.getElem?_toList]
    simpa using e1
end Go.Proofs.YtlmogijkkhdogaaGreatDoor
