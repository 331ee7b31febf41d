/- What the library's own variables hold, out of the rows' listed variables. -/
import Derived.Test.YtlmogijkkhdogaaGreatDoorTie
import Derived.Test.YtlmogijkkhdogaaGreatDoorP
import GoSem.PinnedTables
import Derived.LaidLaws
import Derived.Lib.LaidU8
import Derived.Stop.LaidErr
import Derived.Stop.Joined
import Derived.LaidMore
import Derived.MakeChecks
namespace Go.Proofs.YtlmogijkkhdogaaGreatDoor
open Go.RowKit Go.Lib
set_option maxRecDepth 100000

theorem own : ownKnob Tryz.prog.godebug = none := by kernel_rfl

theorem iface_of_reads {W : World} {n : String} {g : Nat} {t : TypeId} {ms : Array (String × TypeId)} {nm : String} {d : DataW Unit} (hg : Tryz.prog.globalNamed n = some g) (ht : (Tryz.prog.globals[g]?).map (·.type) = some t) (hu : Tryz.prog.underlying t = some (.interface ms))
    (h : VarReads Tryz.prog W n (.iface nm d)) : ∃ te pe, W.cell? ⟨g, 0, none⟩ = some (.iface te pe) := by
  obtain ⟨g', t', cs, fuel, p, hg', ht', hv, hd⟩ := h
  obtain rfl := Option.some.inj (hg.symm.trans hg')
  obtain rfl := Option.some.inj (ht.symm.trans ht')
  obtain ⟨f1, u, v, hcs, -, -⟩ := iface_of_trod hu hd
  refine ⟨u, v, ?_⟩
  have := World.var?_cell hg hv 0
  rw [Array.eq_one_of_toList hcs] at this
  simpa using this

theorem bool_of_reads {W : World} {n : String} {g : Nat} {t : TypeId} {b : Bool} (hg : Tryz.prog.globalNamed n = some g) (ht : (Tryz.prog.globals[g]?).map (·.type) = some t) (hu : Tryz.prog.underlying t = some .bool)
    (h : VarReads Tryz.prog W n (.lit (.bool b))) : W.cell? ⟨g, 0, none⟩ = some (.bool b) := by
  obtain ⟨g', t', cs, fuel, p, hg', ht', hv, hd⟩ := h
  obtain rfl := Option.some.inj (hg.symm.trans hg')
  obtain rfl := Option.some.inj (ht.symm.trans ht')
  have hcs : cs.toList = [.bool b] := by
    cases fuel with
    | zero => simp [DataW.trod] at hd
    | succ k =>
      simp only [DataW.trod, hu] at hd
      split at hd <;> simp_all
  have := World.var?_cell hg hv 0
  rw [Array.eq_one_of_toList hcs] at this
  simpa using this

theorem glob_of_laid {W : World} (h1 : VarReads Tryz.prog W "strconv.ErrSyntax" Rows.laid_strconv_ErrSyntax) (h2 : VarReads Tryz.prog W "strconv.ErrRange" Rows.laid_strconv_ErrRange)
    (h3 : VarReads Tryz.prog W "internal/strconv.uint64pow10" Rows.laid_internal_strconv_uint64pow10) (h4 : VarReads Tryz.prog W "internal/strconv.optimize" Rows.laid_internal_strconv_optimize) : Glob W := by
  refine ⟨iface_of_reads (t := 27) (by kernel_rfl) (by kernel_rfl) Tryz.underlying27 h1, iface_of_reads (t := 27) (by kernel_rfl) (by kernel_rfl) Tryz.underlying27 h2, ?_, bool_of_reads (t := 4) (by kernel_rfl) (by kernel_rfl) Tryz.underlying4 h4⟩
  obtain ⟨g, t, cs, fuel, p, hg, hty, hvar, hd⟩ := h3
  obtain rfl := Option.some.inj (gPow.symm.trans hg)
  obtain rfl := Option.some.inj ((show (Tryz.prog.globals[1]?).map (·.type) = some 193 by kernel_rfl).symm.trans hty)
  rw [show (Rows.laid_internal_strconv_uint64pow10 : DataW Unit) = tabData .u64 pow10Tab by kernel_rfl] at hd
  rw [TabIs, hvar, ← cells_of_tab (e := 22) (n := 20) (by kernel_rfl) (by kernel_rfl) (by kernel_rfl) (by kernel_rfl) hd]
end Go.Proofs.YtlmogijkkhdogaaGreatDoor
