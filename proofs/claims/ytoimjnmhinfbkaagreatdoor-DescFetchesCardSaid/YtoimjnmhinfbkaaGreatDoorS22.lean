/- PROVED: crossdocklaw23.DescChecks returns true at every descriptor, and the argument reads behind the call as it read before. Conditions: the row's listed variables read as the program's own text lays them (tied); no other. -/
/- PROVED: crossdocklaw23.DescFetches returns true at every store, descriptor and text of bytes, and the arguments read behind the call as they read before. Conditions: the row's listed variables read as the program's own text lays them (tied); no other. -/
import Derived.Carry
import Derived.ChangeSame
import Derived.ChangeVars
import Derived.Deep.RegionHeld3
import Derived.Deep.Slices
import Derived.JoinedOf
import Derived.Lay
import Derived.Lib.LaidTab
import Derived.OpenShut
import Derived.ProofKit
import Derived.RowKitTokens
import Derived.SevenTiedAt
import Derived.Test.YtoimjnmhinfbkaaGreatDoorCards
import Derived.Test.YtoimjnmhinfbkaaGreatDoorProg
import Derived.Test.YtoimjnmhinfbkaaGreatDoorRows
import Derived.Test.YtoimjnmhinfbkaaGreatDoorS01
import Derived.Test.YtoimjnmhinfbkaaGreatDoorS04
import Derived.Test.YtoimjnmhinfbkaaGreatDoorS19
import Derived.Test.YtoimjnmhinfbkaaGreatDoorS20
import Derived.Test.YtoimjnmhinfbkaaGreatDoorS21
import Derived.Test.YtoimjnmhinfbkaaGreatDoorTie
namespace Go.Proofs.YtoimjnmhinfbkaaGreatDoor
open Go.ChangeShapes Go.WideShapes Go.ChangeAt Go.RowKit Go.Lib
set_option maxRecDepth 100000
section
variable {H : Type} {enc : TypeId × Value → H} {W : World} {spare : Nat → Bool} {held : Bool}
theorem c62 : Tryz.prog.cellsOf 62 = 6 := by kernel_rfl
theorem c60 : Tryz.prog.cellsOf 60 = 3 := by kernel_rfl
theorem cc9 : Tryz.prog.cellsOf 9 = 1 := by kernel_rfl
theorem cc3 : Tryz.prog.cellsOf 3 = 1 := by kernel_rfl
theorem plat_of_trod {fuel : Nat} {cs : List Value} {x : DataW H × List MemPlace} (h : DataW.trod enc Tryz.prog W 0 spare held fuel 60 cs = some x) : ∃ a o v : ByteArray, cs = [.string a, .string o, .string v] := by
 obtain ⟨xs, n, rfl, rfl, hl, hlen, hf⟩ := DataW.trod_struct Tryz.underlying60 h
 rw [c60] at hl
 match cs, hl, xs, hlen with
 | [k0, k1, k2], _, [y0, y1, y2], _ =>
  have f0 : DataW.trod enc Tryz.prog W 0 spare held n 9 (([k0, k1, k2].drop 0).take (Tryz.prog.cellsOf 9)) = some y0 := hf 0 _ rfl
  have f1 : DataW.trod enc Tryz.prog W 0 spare held n 9 (([k0, k1, k2].drop 1).take (Tryz.prog.cellsOf 9)) = some y1 := hf 1 _ rfl
  have f2 : DataW.trod enc Tryz.prog W 0 spare held n 9 (([k0, k1, k2].drop 2).take (Tryz.prog.cellsOf 9)) = some y2 := hf 2 _ rfl
  rw [cc9] at f0 f1 f2
  obtain ⟨a, e0, -, -⟩ := DataW.trod_string Tryz.underlying9 (show DataW.trod enc Tryz.prog W 0 spare held n 9 [k0] = some y0 from f0)
  obtain ⟨o, e1, -, -⟩ := DataW.trod_string Tryz.underlying9 (show DataW.trod enc Tryz.prog W 0 spare held n 9 [k1] = some y1 from f1)
  obtain ⟨v, e2, -, -⟩ := DataW.trod_string Tryz.underlying9 (show DataW.trod enc Tryz.prog W 0 spare held n 9 [k2] = some y2 from f2)
  injection e0 with e0
  injection e1 with e1
  injection e2 with e2
  subst e0 e1 e2
  exact ⟨a, o, v, rfl⟩
theorem desc_of_trod {fuel : Nat} {cs : List Value} {x : DataW H × List MemPlace} (h : DataW.trod enc Tryz.prog W 0 spare held fuel 62 cs = some x) :
  ∃ (m n : ByteArray) (z : Int) (a o v : ByteArray), cs = [.string m, .string n, .int .i64 z, .string a, .string o, .string v] := by
 obtain ⟨xs, n, rfl, rfl, hl, hlen, hf⟩ := DataW.trod_struct Tryz.underlying62 h
 rw [c62] at hl
 match cs, hl, xs, hlen with
 | [k0, k1, k2, k3, k4, k5], _, [y0, y1, y2, y3], _ =>
  have f0 : DataW.trod enc Tryz.prog W 0 spare held n 9 (([k0, k1, k2, k3, k4, k5].drop 0).take (Tryz.prog.cellsOf 9)) = some y0 := hf 0 _ rfl
  have f1 : DataW.trod enc Tryz.prog W 0 spare held n 9 (([k0, k1, k2, k3, k4, k5].drop 1).take (Tryz.prog.cellsOf 9)) = some y1 := hf 1 _ rfl
  have f2 : DataW.trod enc Tryz.prog W 0 spare held n 3 (([k0, k1, k2, k3, k4, k5].drop 2).take (Tryz.prog.cellsOf 3)) = some y2 := hf 2 _ rfl
  have f3 : DataW.trod enc Tryz.prog W 0 spare held n 60 (([k0, k1, k2, k3, k4, k5].drop 3).take (Tryz.prog.cellsOf 60)) = some y3 := hf 3 _ rfl
  rw [cc9] at f0 f1
  rw [cc3] at f2
  rw [c60] at f3
  obtain ⟨m, e0, -, -⟩ := DataW.trod_string Tryz.underlying9 (show DataW.trod enc Tryz.prog W 0 spare held n 9 [k0] = some y0 from f0)
  obtain ⟨n', e1, -, -⟩ := DataW.trod_string Tryz.underlying9 (show DataW.trod enc Tryz.prog W 0 spare held n 9 [k1] = some y1 from f1)
  obtain ⟨z, e2, -, -⟩ := DataW.trod_int Tryz.underlying3 (show DataW.trod enc Tryz.prog W 0 spare held n 3 [k2] = some y2 from f2)
  obtain ⟨a, o, v, e3⟩ := plat_of_trod (show DataW.trod enc Tryz.prog W 0 spare held n 60 [k3, k4, k5] = some y3 from f3)
  injection e0 with e0
  injection e1 with e1
  injection e2 with e2
  simp only [List.cons.injEq, and_true] at e3
  obtain ⟨e3, e4, e5⟩ := e3
  subst e0 e1 e2 e3 e4 e5
  exact ⟨m, n', z, a, o, v, rfl⟩
end
end Go.Proofs.YtoimjnmhinfbkaaGreatDoor

namespace Go.Proofs.YtoimjnmhinfbkaaGreatDoor
open Go.ChangeShapes Go.WideShapes Go.RowKit Go.Lib
set_option maxRecDepth 100000
instance : Inhabited V := ⟨.mk 0 false ⟨#[]⟩ [] []⟩
theorem c9 : Tryz.prog.cellsOf 9 = 1 := by kernel_rfl
theorem c3 : Tryz.prog.cellsOf 3 = 1 := by kernel_rfl
theorem c4 : Tryz.prog.cellsOf 4 = 1 := by kernel_rfl
section
variable {H : Type} {enc : TypeId × Value → H} {W : World} {spare : Nat → Bool} {held : Bool}
/-- the first element's address is a plain one. -/
theorem plain_addr {a : Addr} {n : Nat} {cs : List Value} (h : W.cells? 0 a n = some cs) (hn : 0 < n) : a.spot = none ∧ a.block < W.heap.size := by
 obtain ⟨_, hl, hc⟩ := World.cells?_some h
 have h0 := hc 0 hn
 obtain ⟨v, hv⟩ : ∃ v, W.cell? (a.add 0) = some v := ⟨cs[0]'(by omega), by rw [h0]; exact List.getElem?_eq_getElem (by omega)⟩
 exact ⟨World.cell?_spot hv, World.cells?_block h hn⟩
theorem row_of_cells {b o i n : Nat} {cs : List Value} (h : W.cells? 0 ((⟨b, o, none⟩ : Addr).add i) n = some cs) : Row W b (o + i) cs := by
 obtain ⟨_, hl, hc⟩ := World.cells?_some h
 intro k hk
 have := hc k (by omega)
 rw [Deep.add_add] at this
 have e : ((⟨b, o, none⟩ : Addr).add (i + k)) = ⟨b, o + i + k, none⟩ := by
  unfold Addr.add
  by_cases h0 : i + k = 0
  ·rw [if_pos h0]; congr 1; omega
  ·rw [if_neg h0]; congr 1; show o + (i + k) = _; omega
 rw [e] at this
 rw [this]
 exact List.getElem?_eq_getElem hk
end
end Go.Proofs.YtoimjnmhinfbkaaGreatDoor

namespace Go.Proofs.YtoimjnmhinfbkaaGreatDoor
open Go.ChangeShapes Go.WideShapes Go.ChangeAt Go.RowKit Go.Lib
set_option maxRecDepth 100000
theorem slice_arg {W : World} {base : Nat} {t e : TypeId} {v : Value} {A : Option Addr} {n c : Nat} (ht : Tryz.prog.underlying t = some (.slice e)) (h : Value.okWide Tryz.prog W .any base t v) (hc : v.cells.toList = [.slice A n c]) : v = .slice A n c := by
 cases v with
 | slice x y z => simpa [Value.cells] using hc
 | agg cs =>
  exfalso
  unfold Value.okWide at h
  rw [ht] at h
  simp only at h
  unfold Cell.okWide at h
  simp only [ht] at h
  unfold Cell.ok at h
  simp [ht] at h
 | _ => simp [Value.cells] at hc
/-! the program's two tables are the document's. -/
def zI (l : List (BitVec 32)) : List Int := l.map fun x => (x.toNat : Int)
theorem u_getD (l : List (BitVec 32)) {k : Nat} (hk : k < l.length) : Value.int .u32 ((zI l).getD k 0) = U (l.getD k 0) := by
 unfold zI
 rw [List.getD_eq_getElem?_getD, List.getD_eq_getElem?_getD, List.getElem?_map, List.getElem?_eq_getElem hk]
 rfl
theorem tab_of_reads {W : World} {n : String} {g t e m : Nat} {l : List (BitVec 32)} {d : DataW Unit} (hg : Tryz.prog.globalNamed n = some g) (ht : (Tryz.prog.globals[g]?).map (·.type) = some t) (hu : Tryz.prog.underlying t = some (.array m e)) (he : Tryz.prog.underlying e = some (.int .u32)) (hce : Tryz.prog.cellsOf e = 1) (hct : Tryz.prog.cellsOf t = m)
  (hd0 : d = tabData .u32 (zI l)) (h : VarReads Tryz.prog W n d) : ∀ k, k < l.length → W.cell? ⟨g, k, none⟩ = some (U (l.getD k 0)) := by
 obtain ⟨g', t', cs, fuel, p, hg', hty, hvar, hd⟩ := h
 obtain rfl := Option.some.inj (hg.symm.trans hg')
 obtain rfl := Option.some.inj (ht.symm.trans hty)
 rw [hd0] at hd
 have hc := cells_of_tab hu he hce hct hd
 have htab : TabIs Tryz.prog W n .u32 (zI l) := by
  rw [TabIs, hvar, ← hc]
 intro k hk
 rw [TabIs.cell htab hg k (by unfold zI; simpa using hk), u_getD l hk]
theorem first_data : (Rows.laid_crossdock_sha_first : DataW Unit) = tabData .u32 (zI (roots.map (BitVec.ofNat 32))) := by kernel_rfl
theorem consts_data : (Rows.laid_crossdock_sha_constants : DataW Unit) = tabData .u32 (zI (cubes.map (BitVec.ofNat 32))) := by kernel_rfl
theorem sha_of_laid {W : World} (h1 : VarReads Tryz.prog W "crossdock/sha.first" Rows.laid_crossdock_sha_first) (h2 : VarReads Tryz.prog W "crossdock/sha.constants" Rows.laid_crossdock_sha_constants) : ShaD W := by
 have a1 := tab_of_reads (g := 0) (t := 250) (e := 184) (m := 8) (l := docH) (by kernel_rfl) (by kernel_rfl) (by kernel_rfl) (by kernel_rfl) (by kernel_rfl) (by kernel_rfl) (by rw [docH_val]; exact first_data) h1
 have a2 := tab_of_reads (g := 4) (t := 186) (e := 184) (m := 64) (l := docK) (by kernel_rfl) (by kernel_rfl) (by kernel_rfl) (by kernel_rfl) (by kernel_rfl) (by kernel_rfl) (by rw [docK_val]; exact consts_data) h2
 rw [docH_length] at a1
 rw [docK_length] at a2
 exact ⟨docH_length, a1, a2, World.block_lt_of_cell? W _ (a2 0 (by decide))⟩
theorem globF_of_met {W : World} (h : laidMetH Tryz.prog Rows.descFetchesRow.laid W) : Glob W ∧ ShaD W := by
 rw [MakeChecks.laidMetH_plain _ _ _ (by kernel_rfl)] at h
 exact ⟨glob_of_laid (laidMet.reads h (by simp [Rows.descFetchesRow])) (laidMet.reads h (by simp [Rows.descFetchesRow])) (laidMet.reads h (by simp [Rows.descFetchesRow])) (laidMet.reads h (by simp [Rows.descFetchesRow])) (laidMet.reads h (by simp [Rows.descFetchesRow])), sha_of_laid (laidMet.reads h (by simp [Rows.descFetchesRow])) (laidMet.reads h (by simp [Rows.descFetchesRow]))⟩
section
variable {H : Type} {enc : TypeId × Value → H} {W : World} {spare : Nat → Bool} {held : Bool}
theorem cF5 : Tryz.prog.cellsOf 5 = 1 := by kernel_rfl
theorem cF146 : Tryz.prog.cellsOf 146 = 2 := by kernel_rfl
theorem cF87 : Tryz.prog.cellsOf 87 = 1 := by kernel_rfl
theorem cF9 : Tryz.prog.cellsOf 9 = 1 := by kernel_rfl
theorem bytes_of_trod {fuel : Nat} {cs : List Value} {x : DataW H × List MemPlace} (h : DataW.trod enc Tryz.prog W 0 spare held fuel 87 cs = some x) :
  ∃ (A : Option Addr) (cap : Nat) (l : List Nat), cs = [.slice A l.length cap] ∧ BytesOk W A cap l := by
 rcases Deep.open_slice1 Tryz.underlying87 cF5 h with ⟨rfl, rfl⟩ | ⟨a, len, cap, m, n, Vf, D, Pl, rfl, -, hl, -, hm, rfl, hx⟩
 ·exact ⟨none, 0, [], rfl, fun _ => ⟨rfl, rfl⟩, Nat.le_refl _, (by intro x h; simp at h), .inl rfl⟩
 have hlm : len ≤ m := by rw [hm]; split <;> omega
 obtain ⟨f, hf⟩ := Deep.choose_lt (α := Nat) (n := len) (p := fun i z => Vf i = .int .u8 (z : Int) ∧ z < 256) (fun i hi => by
  obtain ⟨z, h1, h2, h3⟩ := DataW.trod_int Tryz.underlying5 (hx i (by omega)).2
  have hw : (0 : Int) ≤ z ∧ z ≤ 255 := by simpa [Lit.wf, IntKind.min, IntKind.max, IntKind.bits, IntKind.signed] using h3
  refine ⟨z.toNat, ?_, by omega⟩
  have e : ((z.toNat : Nat) : Int) = z := by omega
  rw [e]
  simpa using h1)
 have hll : ((List.range len).map f).length = len := by simp
 refine ⟨some a, cap, (List.range len).map f, by rw [hll], fun e => (by cases e), by rw [hll]; exact hl, ?_, .inr ⟨a, rfl, fun j hj => ?_⟩⟩
 ·intro x hx'
  obtain ⟨i, hi, rfl⟩ := List.mem_map.1 hx'
  exact (hf i (List.mem_range.1 hi)).2
 ·have hj' : j < len := by rwa [hll] at hj
  rw [(hx j (by omega)).1, (hf j hj').1]
  simp
theorem blob_of_trod {fuel : Nat} {cs : List Value} {x : DataW H × List MemPlace} (h : DataW.trod enc Tryz.prog W 0 spare held fuel 146 cs = some x) :
  ∃ b : Bl, cs = [.string b.nm, .slice b.A b.dat.length b.cap] ∧ BytesOk W b.A b.cap b.dat := by
 obtain ⟨xs, n, rfl, rfl, hl, hlen, hf⟩ := DataW.trod_struct Tryz.underlying146 h
 rw [cF146] at hl
 match cs, hl, xs, hlen with
 | [k0, k1], _, [y0, y1], _ =>
  have f0 : DataW.trod enc Tryz.prog W 0 spare held n 9 (([k0, k1].drop 0).take (Tryz.prog.cellsOf 9)) = some y0 := hf 0 _ rfl
  have f1 : DataW.trod enc Tryz.prog W 0 spare held n 87 (([k0, k1].drop 1).take (Tryz.prog.cellsOf 87)) = some y1 := hf 1 _ rfl
  rw [cF9] at f0
  rw [cF87] at f1
  obtain ⟨a, e0, -, -⟩ := DataW.trod_string Tryz.underlying9 (show DataW.trod enc Tryz.prog W 0 spare held n 9 [k0] = some y0 from f0)
  obtain ⟨A, cap, l, e1, h1⟩ := bytes_of_trod (show DataW.trod enc Tryz.prog W 0 spare held n 87 [k1] = some y1 from f1)
  injection e0 with e0
  injection e1 with e1
  subst e0 e1
  exact ⟨⟨a, A, cap, l⟩, rfl, h1⟩
theorem store_of_trod {fuel : Nat} {cs : List Value} {x : DataW H × List MemPlace} (h : DataW.trod enc Tryz.prog W 0 spare held fuel 86 cs = some x) :
  ∃ (S : Option Addr) (cap : Nat) (bs : List Bl), cs = [.slice S bs.length cap] ∧ StoreAt W S bs := by
 rcases Deep.open_slice Tryz.underlying86 h with ⟨rfl, rfl⟩ | ⟨a, len, cap, m, n', D, Pl, rfl, -, hl, -, hm, rfl, hx⟩
 ·exact ⟨none, 0, [], rfl, .inl rfl, (by intro b h; simp at h)⟩
 rw [cF146] at hx
 have hlm : len ≤ m := by rw [hm]; split <;> omega
 by_cases h0 : len = 0
 ·subst h0
  exact ⟨some a, cap, [], rfl, .inl rfl, (by intro b h; simp at h)⟩
 obtain ⟨cs0, hc0, -⟩ := hx 0 (by omega)
 obtain ⟨hsp, hblk⟩ := plain_addr (a := a) (by simpa [Addr.add] using hc0) (by omega)
 obtain ⟨b, o, sp⟩ := a
 subst hsp
 haveI : Inhabited Bl := ⟨⟨⟨#[]⟩, none, 0, []⟩⟩
 obtain ⟨g, hg⟩ := Deep.choose_lt (α := Bl) (n := len) (p := fun i v => Row W b (o + i * 2) [.string v.nm, .slice v.A v.dat.length v.cap] ∧ BytesOk W v.A v.cap v.dat) (fun i hi => by
  obtain ⟨cs', h1, h2⟩ := hx i (by omega)
  obtain ⟨v, hv, hv2⟩ := blob_of_trod h2
  subst hv
  exact ⟨v, row_of_cells h1, hv2⟩)
 have hll : ((List.range len).map g).length = len := by simp
 refine ⟨some ⟨b, o, none⟩, cap, (List.range len).map g, by rw [hll], .inr ⟨b, o, rfl, fun j hj => ?_⟩, fun v hv => ?_⟩
 ·have hj' : j < len := by simpa using hj
  have hr := (hg j hj').1
  have e : (((List.range len).map g).map Bl.pair)[j] = (g j).pair := by simp
  rw [e]
  exact ⟨hr 0 (by simp), hr 1 (by simp)⟩
 ·obtain ⟨i, hi, rfl⟩ := List.mem_map.1 hv
  exact (hg i (List.mem_range.1 hi)).2
end
theorem descFetches_lifted (os : Os) (started : os.Started) (H : Type) (enc : TypeId × Value → H) :
  ReturnsInHanded {} Tryz.checked os 7 .any (fun w args => (Rows.descFetchesSpec.pre enc Tryz.prog Tryz.f7 [] false w args ∧ laidMetH Tryz.prog Rows.descFetchesRow.laid w) ∧ sizedMet enc Tryz.prog Tryz.f7 (OpenSpec.ofChange Rows.descFetchesSpec) false w args)
   (Rows.descFetchesSpec.post enc Tryz.prog Tryz.f7 false true false false) := by
 refine returnsInHanded_of_change_and (C := Tryz.checked) (X := fun w _ => laidMetH Tryz.prog Rows.descFetchesRow.laid w) (fun _ _ _ hh h => h.of_heap hh) own started (by kernel_rfl) Tryz.func7
  (ChangeSpec.witness_shaped (enc := enc) (C := Tryz.checked) (os := os) (X := fun w _ => laidMetH Tryz.prog Rows.descFetchesRow.laid w) false (World.laidAll Tryz.prog os Rows.descFetchesRow.laid) #[.slice none 0 0, .agg #[.string ⟨#[]⟩, .string ⟨#[]⟩, .int .i64 0, .string ⟨#[]⟩, .string ⟨#[]⟩, .string ⟨#[]⟩], .slice none 0 0] 8 (World.laidAll_os _ _ _)
   (World.shaped_of_ZipB (by kernel_rfl) (by kernel_rfl)) (by kernel_rfl) (by kernel_rfl) (by kernel_rfl)
   (by rw [MakeChecks.laidMetH_plain _ _ _ (by kernel_rfl)]; exact laidMet_laidAll _ (by kernel_rfl) (by kernel_rfl))) ?_
 intro W base args ds gs before hval0 hW _ _ hL _
 have hW' := hW
 have hlt := hW.lt
 obtain ⟨p, q, hA0, hV, rfl, _, _⟩ := hW
 have hA : DataW.TrodAll enc Tryz.prog W 0 (fun _ => true) true Tryz.f7.params.toList args.toList ds p := hA0
 rw [Tryz.params7] at hA
 obtain ⟨v0, v1, v2, d0, d1, d2, p0, p1, p2, rfl, rfl, rfl, h0, h1, h2⟩ := trodAll_three hA
 obtain ⟨rfl, rfl⟩ := trodVars_none hV
 obtain ⟨f0, g0⟩ := h0
 obtain ⟨f1, g1⟩ := h1
 obtain ⟨f2, g2⟩ := h2
 obtain ⟨S, cap, bs, e0, hst⟩ := store_of_trod g0
 obtain ⟨m, n, z, a, o, v, e1⟩ := desc_of_trod g1
 obtain ⟨A, cap2, l, e2, hbk⟩ := bytes_of_trod g2
 obtain rfl : v0 = .slice S bs.length cap := slice_arg Tryz.underlying86 (hval0 0 86 v0 (by rw [← Array.getElem?_toList, Tryz.params7]; rfl) rfl) e0
 obtain rfl : v1 = .agg #[.string m, .string n, .int .i64 z, .string a, .string o, .string v] := by
  cases v1 with
  | agg c => simp only [Value.cells] at e1; congr 1; exact Array.ext' e1
  | _ => simp [Value.cells] at e1
 obtain rfl : v2 = .slice A l.length cap2 := slice_arg Tryz.underlying87 (hval0 2 87 v2 (by rw [← Array.getElem?_toList, Tryz.params7]; rfl) rfl) e2
 simp only [List.append_nil] at hW' hlt
 have hgl := globF_of_met hL
 refine (fetches_any bs m n z a o v l S A cap cap2 W hgl.1 hgl.2 hst hbk).mono fun e W' ⟨he, bel⟩ => ?_
 subst he
 exact ⟨_, rfl, _, _, _, [], _, [], hW', trodAll_mk1 (shut_bool Tryz.underlying4 _), trodAll_mk3 (Below.trod (by kernel_rfl) (by kernel_rfl) (of_decide_eq_true (by kernel_rfl)) ⟨f0, g0⟩ bel fun x hx => hlt x (by simp [hx])) (Below.trod (by kernel_rfl) (by kernel_rfl) (of_decide_eq_true (by kernel_rfl)) ⟨f1, g1⟩ bel fun x hx => hlt x (by simp [hx])) (Below.trod (by kernel_rfl) (by kernel_rfl) (of_decide_eq_true (by kernel_rfl)) ⟨f2, g2⟩ bel fun x hx => hlt x (by simp [hx])), rfl, bel.frame _, fun h => by cases h⟩
theorem descFetches_holds : Rows.DescFetchesSaid :=
 OpenClaim.holds_of_wide 7 Tryz.f7 rfl rfl rfl rfl rfl rfl rfl ⟨rfl, rfl, rfl, rfl, rfl⟩ rfl rfl rfl rfl rfl (by kernel_rfl) Tryz.func7 (by kernel_rfl)
  (of_decide_eq_true (by kernel_rfl)) (by unfold Func.isWrapper; first | (rw [if_pos (by decide +kernel)]; kernel_rfl) | (rw [if_neg (by decide +kernel)]; exact ⟨rfl, rfl⟩))
  (fun os started H enc _ => descFetches_lifted os started H enc)
theorem descFetches_card : Rows.DescFetchesCardSaid :=
 Claim7.holds_tied_plain_at .later [] _ _ _ _ descFetches_holds (fun _ h => by cases h) (by kernel_rfl) (fun _ h => by cases h) descFetches_row_tie rfl ⟨rfl, rfl⟩ (by kernel_rfl) rfl
  (fun f fn hf hfn => by
   obtain rfl : f = 7 := Option.some.inj ((show Tryz.prog.funcNamed "crossdock/crossdocklaw23.DescFetches" = some 7 by kernel_rfl).symm.trans hf) |>.symm
   obtain rfl : fn = Tryz.f7 := (Option.some.inj (Tryz.func7.symm.trans hfn)).symm
   exact ⟨by kernel_rfl, fun j t ht => by
    rw [Tryz.params7] at ht
    have hm : t ∈ [86, 62, 87] := by simpa using Array.mem_of_getElem? ht
    have hall : ([86, 62, 87].all fun u => !Tryz.prog.wantsStandIn u) = true := by kernel_rfl
    exact (show Tryz.prog.wantsStandIn t = false by simpa using List.all_eq_true.1 hall t hm)⟩)
  (by kernel_rfl)
#print axioms descFetches_card
end Go.Proofs.YtoimjnmhinfbkaaGreatDoor
