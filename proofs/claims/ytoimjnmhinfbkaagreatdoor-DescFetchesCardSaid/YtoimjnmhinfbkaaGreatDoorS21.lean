import Derived.LaidLaws
import Derived.LaidMore
import Derived.Lib.LaidU8
import Derived.MakeChecks
import Derived.Stop.Joined
import Derived.Stop.LaidErr
import GoSem.PinnedTables
import Derived.Test.YtoimjnmhinfbkaaGreatDoorS02
import Derived.Test.YtoimjnmhinfbkaaGreatDoorTie
namespace Go.Proofs.YtoimjnmhinfbkaaGreatDoor
open Go.RowKit Go.Lib
set_option maxRecDepth 100000
theorem own : ownKnob Tryz.prog.godebug = none := by kernel_rfl
/-- the list that every row of the seat begins with. -/
theorem u8Extra : U8Extra Tryz.prog Tryz.lays260_ren := ⟨by kernel_rfl, by kernel_rfl, by kernel_rfl, by kernel_rfl, by kernel_rfl, by kernel_rfl, by kernel_rfl⟩
theorem iface_of_reads {W : World} {n : String} {g : Nat} {t : TypeId} {ms : Array (String × TypeId)} {nm : String} {d : DataW Unit} (hg : Tryz.prog.globalNamed n = some g) (ht : (Tryz.prog.globals[g]?).map (·.type) = some t) (hu : Tryz.prog.underlying t = some (.interface ms))
  (h : VarReads Tryz.prog W n (.iface nm d)) : ∃ te pe, W.cell? ⟨g, 0, none⟩ = some (.iface te pe) := by
 obtain ⟨g', t', cs, fuel, p, hg', ht', hv, hd⟩ := h
 obtain rfl := Option.some.inj (hg.symm.trans hg')
 obtain rfl := Option.some.inj (ht.symm.trans ht')
 obtain ⟨f1, u, v, hcs, -, -⟩ := iface_of_trod hu hd
 refine ⟨u, v, ?_⟩
 have := World.var?_cell hg hv 0
 rw [Array.eq_one_of_toList hcs] at this
 simpa using this
theorem glob_of_laid {W : World} (h1 : VarReads Tryz.prog W "strconv.ErrSyntax" Rows.laid_strconv_ErrSyntax) (h2 : VarReads Tryz.prog W "strconv.ErrRange" Rows.laid_strconv_ErrRange)
  (h3 : VarReads Tryz.prog W "internal/strconv.uint64pow10" Rows.laid_internal_strconv_uint64pow10) (h5 : VarReads Tryz.prog W "unicode/utf8.first" Rows.laid_unicode_utf8_first) (h6 : VarReads Tryz.prog W "unicode/utf8.acceptRanges" Rows.laid_unicode_utf8_acceptRanges) : Glob W := by
 refine ⟨iface_of_reads (t := 29) (by kernel_rfl) (by kernel_rfl) Tryz.underlying29 h1, iface_of_reads (t := 29) (by kernel_rfl) (by kernel_rfl) Tryz.underlying29 h2, ?_, ?_⟩
 ·obtain ⟨g, t, cs, fuel, p, hg, hty, hvar, hd⟩ := h3
  obtain rfl := Option.some.inj (gPow.symm.trans hg)
  obtain rfl := Option.some.inj ((show (Tryz.prog.globals[3]?).map (·.type) = some 270 by kernel_rfl).symm.trans hty)
  rw [show (Rows.laid_internal_strconv_uint64pow10 : DataW Unit) = tabData .u64 pow10Tab by kernel_rfl] at hd
  rw [TabIs, hvar, ← cells_of_tab (e := 105) (n := 20) (by kernel_rfl) (by kernel_rfl) (by kernel_rfl) (by kernel_rfl) hd]
 ·rw [show Rows.laid_unicode_utf8_first = firstData by kernel_rfl] at h5
  rw [show (Rows.laid_unicode_utf8_acceptRanges : DataW Unit) = acceptData by kernel_rfl] at h6
  exact utf8Tabs_of_reads Tryz.lays260 u8Extra h5 h6
end Go.Proofs.YtoimjnmhinfbkaaGreatDoor
