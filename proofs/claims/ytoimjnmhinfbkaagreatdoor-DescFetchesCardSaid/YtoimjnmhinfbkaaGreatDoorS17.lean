import Derived.Lib.BufferRead
import Derived.Test.YtoimjnmhinfbkaaGreatDoorS16
namespace Go.Proofs.YtoimjnmhinfbkaaGreatDoor
open Go.RowKit
set_option maxRecDepth 100000
theorem conv_str {l : List Nat} {A : Option Addr} {cap : Nat} {w : World} (h : BytesOk w A cap l) : (convert 87 9 (.slice A l.length cap)).run Tryz.prog w = .ok (.string (strN l)) w := by
 have hs : strN l = ⟨(l.map UInt8.ofNat).toArray⟩ := rfl
 have hll : (l.map UInt8.ofNat).length = l.length := by simp
 cases A with
 | none =>
  obtain ⟨h1, h2⟩ := h.nil rfl
  have hl0 : l = [] := List.eq_nil_of_length_eq_zero h1
  subst hl0 h2
  exact Lib.run_convert_nil_bytes w 87 9 5 0 Tryz.underlying87 Tryz.underlying5 Tryz.underlying9
 | some a =>
  have := run_convert_bytes_back (P := Tryz.prog) w 87 9 5 a cap (l.map UInt8.ofNat) Tryz.underlying87 Tryz.underlying5 Tryz.underlying9 (fun j hj => by
   have hj' : j < l.length := by simpa using hj
   rcases h.at' with h0 | ⟨a', ha, h0⟩
   ·rw [h0] at hj'; simp at hj'
   ·obtain rfl : a = a' := Option.some.inj ha
    rw [h0 j hj', List.getElem_map]
    have h3 := h.by' _ (List.getElem_mem hj')
    simp [Nat.mod_eq_of_lt h3])
  rw [hll] at this
  rw [hs]
  exact this
def cells2 (x : ByteArray × Value) : List Value := [.string x.1, x.2]
theorem flat2_length (l : List (ByteArray × Value)) : (l.flatMap cells2).length = 2 * l.length := by
 induction l with
 | nil => rfl
 | cons x l ih => rw [List.flatMap_cons, List.length_append, ih]; simp [cells2]; omega
theorem flat2_get : ∀ (l : List (ByteArray × Value)) (j : Nat) (h : j < l.length), (l.flatMap cells2)[j * 2]? = some (.string l[j].1) ∧ (l.flatMap cells2)[j * 2 + 1]? = some l[j].2
 | x :: l, 0, _ => ⟨rfl, rfl⟩
 | x :: l, j + 1, h => by
  have ih := flat2_get l j (by simpa using h)
  rw [List.flatMap_cons, List.getElem?_append_right (by simp [cells2]; omega), List.getElem?_append_right (by simp [cells2]; omega)]
  rw [show (j + 1) * 2 - (cells2 x).length = j * 2 by simp [cells2]; omega, show (j + 1) * 2 + 1 - (cells2 x).length = j * 2 + 1 by simp [cells2]; omega]
  exact ih
/-- a row of pairs of one's own. -/
theorem own_pairs {w : World} {base e n : Nat} {v : Value} {l : List (ByteArray × Value)} (h : w.ownsRow base e 2 v n (l.flatMap cells2)) (hn : n = l.length) : ∃ S cap, v = .slice S n cap ∧ Pairs w S l ∧ (S = none → n = 0 ∧ cap = 0) ∧ n ≤ cap := by
 rcases h.2 with ⟨h1, h2⟩ | ⟨g, cc, cur, h1, -, -, hle, -⟩
 ·exact ⟨none, 0, by rw [h1, h2], .inl (List.eq_nil_of_length_eq_zero (by omega)), fun _ => ⟨h2, rfl⟩, by omega⟩
 ·subst h1
  refine ⟨_, cc, rfl, .inr ⟨g, 0, rfl, fun j hj => ?_⟩, fun e => (by cases e), hle⟩
  have hg := flat2_get l j hj
  have a1 := h.cellAt (j * 2) (by omega)
  have a2 := h.cellAt (j * 2 + 1) (by omega)
  rw [hg.1] at a1
  rw [hg.2] at a2
  rw [Nat.zero_add]
  exact ⟨a1, a2⟩
theorem cells_new (w : World) (c : Array Value) (t : TypeId) : ∀ j u, c.toList[j]? = some u → (w.alloc (.cells c t)).cell? ((⟨w.heap.size, 0, none⟩ : Addr).add j) = some u := fun j u h => by
 rw [addr_add0]
 exact (cell_of_row _ w.heap.size j _ t (0, 0) (alloc_at rfl)).trans (by rw [← Array.getElem?_toList]; exact h)
theorem info152 : (Tryz.prog.info? 152).map (fun i => (i.zero, i.size, i.bytes)) = some (some (.agg #[.string ⟨#[]⟩, .string ⟨#[]⟩]), 2, 32) := by kernel_rfl
theorem info146 : (Tryz.prog.info? 146).map (fun i => (i.zero, i.size, i.bytes)) = some (some (.agg #[.string ⟨#[]⟩, .slice none 0 0]), 2, 40) := by kernel_rfl
theorem cells_new1 (w : World) (c0 : Obj) (c : Array Value) (t : TypeId) : ∀ j u, c.toList[j]? = some u → ((w.alloc c0).alloc (.cells c t)).cell? ((⟨w.heap.size + 1, 0, none⟩ : Addr).add j) = some u := fun j u h => by
 have := cells_new (w.alloc c0) c t j u h
 rwa [alloc_size1] at this
def Bl.doc (b : Bl) : ByteArray × ByteArray := (b.nm, strN b.dat)
/-- the document's rows of the first blobs. -/
def docRows (bs : List Bl) (k : Nat) : List Value := (((bs.take k).map Bl.doc).map dpair).flatMap cells2
theorem docRows_succ {bs : List Bl} {k : Nat} {nm : ByteArray} {A : Option Addr} {cap : Nat} {d : List Nat} (h : bs.take (k + 1) = bs.take k ++ [⟨nm, A, cap, d⟩]) : docRows bs (k + 1) = docRows bs k ++ [.string nm, .string (strN d)] := by
 unfold docRows
 rw [h, List.map_append, List.map_append, List.flatMap_append]
 rfl
set_option maxHeartbeats 3200000 in
theorem document22 (bs : List Bl) (S : Option Addr) (cap : Nat) (w : World) (hs : StoreAt w S bs) (hlen : bs.length ≤ 1000000) :
  Calls Tryz.prog 42 #[.slice S bs.length cap] w fun e w' => (∃ S' cap', e = .returned (.slice S' bs.length cap') ∧ Pairs w' S' ((bs.map Bl.doc).map dpair) ∧ (S' = none → bs.length = 0 ∧ cap' = 0) ∧ bs.length ≤ cap') ∧ Below w.heap.size w w' := by
 obtain ⟨i0, hi0, hz0, hzz1, hzz2⟩ := info_parts info152
 have HS := Lib.hid hs
 clear hs
 go_enter Tryz.func42, Tryz.ntmps42
 go_wp2_with fail
 have HO0 := Lib.hid (World.ownsRow_made (e := 152) (size := 2) (base := w.heap.size) w #[] 0 (Nat.le_refl _) (by decide) rfl)
 have HB0 := Lib.hid ((Below.refl w.heap.size w).alloc (Nat.le_refl _) (.cells #[] 152))
 go_loopw [3, 9] (fun v0 i wr => ∃ (k : Nat) (v : Value), v0 = v ∧ k ≤ bs.length ∧ i = .int .i64 k ∧ wr.ownsRow w.heap.size 152 2 v k (docRows bs k) ∧ Below w.heap.size w wr) (fun _ i _ => bs.length - (intOf i).toNat)
 case atStart => exact ⟨0, _, rfl, Nat.zero_le _, rfl, HO0.out, HB0.out⟩
 case round =>
  clear HO0 HB0
  obtain ⟨k, v, hv0, hk, rfl, hown, hbl⟩ := hrel
  rw [hv0]
  clear hv0
  have HO := Lib.hid hown
  have HBL := Lib.hid hbl
  clear hown hbl
  have hk0 : (0 : Int) ≤ (k : Int) := Int.natCast_nonneg _
  by_cases hlt : k < bs.length
  ·have hlt' : (k : Int) < (bs.length : Int) := by omega
   have hst := HS.out.keep HBL.out
   have hat := hst.pairs.at' (k := k) (by simpa using hlt)
   have hok := hst.ok _ (List.getElem_mem hlt)
   rw [List.getElem_map] at hat
   have htk : bs.take (k + 1) = bs.take k ++ [bs[k]] := List.take_succ_eq_append_getElem hlt
   obtain ⟨bk, hbk⟩ : ∃ bk, bk = bs[k] := ⟨_, rfl⟩
   rw [← hbk] at hat hok htk
   have HTK := Lib.hid htk
   clear hbk hst htk
   obtain ⟨nmk, Ak, capk, dk⟩ := bk
   simp only [Bl.pair] at hat hok
   obtain ⟨b, o, hSe, hc1, hc2⟩ := hat
   subst hSe
   have hB1 := (Below.refl wr.heap.size wr).alloc (Nat.le_refl _) (.cells #[.string nmk, .slice Ak dk.length capk] 146)
   have hcv := conv_str (hok.keep hB1)
   have HB1 := Lib.hid (HBL.out.trans (hB1.mono HBL.out.size))
   have hz1 : w.heap.size ≤ wr.heap.size := HBL.out.size
   clear hB1 hok
   go_wp2_with (at_builtin; (refine wpList_append_own _ rfl _ _ 95 rfl w.heap.size 152 i0 (.agg #[.string ⟨#[]⟩, .string ⟨#[]⟩]) 2 32 Tryz.underlying95 hi0 hz0 hzz1 hzz2 rfl (by decide) _ k _ rfl ((HO.out.alloc _).alloc _) ⟨wr.heap.size + 1, 0, none⟩ 1 1 [.string nmk, .string (strN dk)] rfl rfl (cells_new1 _ _ #[_, _] _) (by simp [Value.oneCell']) (by unfold maxLen; omega) (by omega) (by rw [alloc_size1, alloc_size1]; omega) ?_; intro v' w4 hown' hgrow hnil))
   go_roundw
   case rel => exact ⟨k + 1, _, rfl, by omega, (by first | rfl | go_num), by rw [docRows_succ HTK.out]; exact hown', (HB1.out.alloc (by rw [alloc_size1]; omega) _).grown hgrow (by rw [alloc_size1, alloc_size1]; omega) (fun q hq => (HO.out.lt q hq).1)⟩
   case measure => simp [intOf]; omega
  ·obtain rfl : k = bs.length := by omega
   have hfin : docRows bs bs.length = ((bs.map Bl.doc).map dpair).flatMap cells2 := by unfold docRows; rw [List.take_length]
   rw [hfin] at HO
   obtain ⟨S', cap', hv, hp, hp2, hp3⟩ := own_pairs HO.out (by simp)
   subst hv
   have HPA := Lib.hid hp
   have HP2 := Lib.hid hp2
   have HP3 := Lib.hid hp3
   clear hp hp2 hp3
   go_wp2
   go_ret
   exact ⟨⟨S', cap', rfl, HPA.out, HP2.out, HP3.out⟩, HBL.out⟩
theorem own_ne_type {w : World} {base e size n : Nat} {v : Value} {xs : List Value} (h : w.ownsRow base e size v n xs) {b t : Nat} {c : Array Value} {fr : Nat × Nat} (hb : w.heap[b]? = some (.cells c t fr)) (hne : e ≠ t) : v.ownBlock ≠ some b := by
 obtain ⟨-, ⟨rfl, -⟩ | ⟨g, cap, cur, rfl, -, hg, -⟩⟩ := h
 ·simp [Value.ownBlock]
 ·intro e'
  obtain rfl : g = b := by simpa [Value.ownBlock] using e'
  rw [hg] at hb
  simp only [Option.some.injEq, Obj.cells.injEq] at hb
  exact hne hb.2.1
/-- bytes in a block of bytes. -/
def BytesIn (w : World) (b : Bl) : Prop := ∃ q c fr, b.A = some ⟨q, 0, none⟩ ∧ w.heap[q]? = some (.cells c 5 fr) ∧ BytesOk w b.A b.cap b.dat
theorem BytesIn.keep {w w' : World} {b : Bl} (h : BytesIn w b) (hk : ∀ (q : Nat) (c : Array Value) (fr : Nat × Nat), w.heap[q]? = some (Obj.cells c 5 fr) → w'.heap[q]? = w.heap[q]?) : BytesIn w' b := by
 obtain ⟨q, c, fr, h1, h2, h3⟩ := h
 have hq := hk q c fr h2
 refine ⟨q, c, fr, h1, hq.trans h2, h3.nil, h3.le, h3.by', ?_⟩
 rcases h3.at' with h0 | ⟨a, ha, h0⟩
 ·exact .inl h0
 ·refine .inr ⟨a, ha, fun j hj => ?_⟩
  have h5 := h0 j hj
  obtain rfl : a = ⟨q, 0, none⟩ := Option.some.inj (ha.symm.trans h1)
  rw [addr_add0] at h5 ⊢
  rw [← h5]
  unfold World.cell?
  simp only [hq]
theorem conv_bytes2 (s : ByteArray) (w : World) : ∃ cap w' c fr, (convert 9 87 (.string s)).run Tryz.prog w = .ok (.slice (some ⟨w.heap.size, 0, none⟩) s.size cap) w' ∧ Below w.heap.size w w' ∧ BytesOk w' (some ⟨w.heap.size, 0, none⟩) cap (bytesN s) ∧ w'.heap[w.heap.size]? = some (.cells c 5 fr) := by
 obtain ⟨cap, w', h1, h2, h3⟩ := conv_bytes s w
 have h4 := run_bytes_of_string (P := Tryz.prog) w 9 87 5 s Tryz.underlying9 Tryz.underlying87 Tryz.underlying5
 rw [h1] at h4
 have hw : w' = _ := (Result.ok.inj h4).2
 exact ⟨cap, w', bytesRow s (grownCap w s.size 0 5), _, h1, h2, h3, by rw [hw]; exact alloc_at rfl⟩
set_option maxHeartbeats 3200000 in
theorem back_any (ds : List (ByteArray × ByteArray)) (S : Option Addr) (cap : Nat) (w : World) (hs : Pairs w S (ds.map dpair)) (hlen : ds.length ≤ 1000000) :
  Calls Tryz.prog 44 #[.slice S ds.length cap] w fun e w' => (∃ S' cap' bs, e = .returned (.slice S' bs.length cap') ∧ StoreAt w' S' bs ∧ bs.map Bl.key = ds.map dkey) ∧ Below w.heap.size w w' := by
 obtain ⟨i0, hi0, hz0, hzz1, hzz2⟩ := info_parts info146
 have HS := Lib.hid hs
 clear hs
 go_enter Tryz.func44, Tryz.ntmps44
 go_wp2_with fail
 go_loopw [3, 8] (fun v0 i wr => ∃ (k : Nat) (v : Value) (bs : List Bl), v0 = v ∧ k ≤ ds.length ∧ i = .int .i64 k ∧ bs.map Bl.key = (ds.take k).map dkey ∧ wr.ownsRow w.heap.size 146 2 v k ((bs.map Bl.pair).flatMap cells2) ∧ (∀ b ∈ bs, BytesIn wr b) ∧ Below w.heap.size w wr) (fun _ i _ => ds.length - (intOf i).toNat)
 case atStart => exact ⟨0, _, [], rfl, Nat.zero_le _, rfl, rfl, ⟨rfl, .inl ⟨rfl, rfl⟩⟩, (by intro b h; simp at h), Below.refl _ _⟩
 case round =>
  obtain ⟨k, v, bs, hv0, hk, rfl, hkey, hown, hin, hbl⟩ := hrel
  rw [hv0]
  clear hv0
  have HO := Lib.hid hown
  have HBL := Lib.hid hbl
  have HK := Lib.hid hkey
  have HIN := Lib.hid hin
  clear hown hbl hkey hin
  have hk0 : (0 : Int) ≤ (k : Int) := Int.natCast_nonneg _
  by_cases hlt : k < ds.length
  ·have hlt' : (k : Int) < (ds.length : Int) := by omega
   have hat := (HS.out.keep HBL.out).at' (k := k) (by simpa using hlt)
   rw [List.getElem_map] at hat
   have htk : ds.take (k + 1) = ds.take k ++ [ds[k]] := List.take_succ_eq_append_getElem hlt
   obtain ⟨dk, hdk⟩ : ∃ dk, dk = ds[k] := ⟨_, rfl⟩
   rw [← hdk] at hat htk
   have HTK := Lib.hid htk
   clear hdk htk
   obtain ⟨nmk, sk⟩ := dk
   simp only [dpair] at hat
   obtain ⟨b, o, hSe, hc1, hc2⟩ := hat
   subst hSe
   have hB1 := (Below.refl wr.heap.size wr).alloc (Nat.le_refl _) (.cells #[.string nmk, .string sk] 152)
   obtain ⟨cb, wb, cc, fr, hcv, hbb, hok, hhp⟩ := conv_bytes2 sk (wr.alloc (.cells #[.string nmk, .string sk] 152))
   have hB2 := hB1.trans (hbb.mono hB1.size)
   have hnew : BytesIn wb ⟨nmk, some ⟨(wr.alloc (.cells #[.string nmk, .string sk] 152)).heap.size, 0, none⟩, cb, bytesN sk⟩ := ⟨_, cc, fr, rfl, hhp, hok⟩
   rw [alloc_size1] at hcv hnew
   have HNEW := Lib.hid hnew
   have HB2 := Lib.hid hB2
   have HO2 := Lib.hid (own_ext HO.out (Ext.of_below hB2))
   have hz1 : w.heap.size ≤ wr.heap.size := HBL.out.size
   have hz2 : wr.heap.size ≤ wb.heap.size := hB2.size
   clear hB1 hB2 hbb hok hhp hnew
   go_wp2_with (at_builtin; (refine wpList_append_own _ rfl _ _ 86 rfl w.heap.size 146 i0 (.agg #[.string ⟨#[]⟩, .slice none 0 0]) 2 40 Tryz.underlying86 hi0 hz0 hzz1 hzz2 rfl (by decide) _ k _ rfl (HO2.out.alloc _) ⟨wb.heap.size, 0, none⟩ 1 1 [.string nmk, .slice (some ⟨wr.heap.size + 1, 0, none⟩) sk.size cb] rfl rfl (cells_new _ #[_, _] _) (by simp [Value.oneCell']) (by unfold maxLen; omega) (by omega) (by rw [alloc_size1]; omega) ?_; intro v' w4 hown' hgrow hnil))
   go_roundw
   case rel =>
    refine ⟨k + 1, _, bs ++ [⟨nmk, some ⟨wr.heap.size + 1, 0, none⟩, cb, bytesN sk⟩], rfl, by omega, (by first | rfl | go_num), by rw [List.map_append, HK.out, HTK.out, List.map_append]; rfl, ?_, ?_, ((HBL.out.trans (HB2.out.mono hz1)).alloc (by omega) _).grown hgrow (by rw [alloc_size1]; omega) (fun q hq => (HO.out.lt q hq).1)⟩
    ·rw [List.map_append, List.flatMap_append]
     have e : (List.map Bl.pair [⟨nmk, some ⟨wr.heap.size + 1, 0, none⟩, cb, bytesN sk⟩]).flatMap cells2 = [.string nmk, .slice (some ⟨wr.heap.size + 1, 0, none⟩) sk.size cb] := by
      simp [Bl.pair, cells2, bytesN_length]
     rw [e]
     exact hown'
    ·have hkeep : ∀ b', BytesIn wb b' → BytesIn w4 b' := fun b' hb' => hb'.keep fun q c f hq => by
      have hql : q < wb.heap.size := by
       rcases Nat.lt_or_ge q wb.heap.size with h | h
       ·exact h
       ·rw [Array.getElem?_eq_none (by simpa using h)] at hq
        cases hq
      exact (hgrow.block q (by rw [alloc_size1]; omega) (fun e => own_ne_type HO2.out hq (by decide) e.symm)).trans (alloc_before hql)
     intro b' hb'
     rcases List.mem_append.1 hb' with h | h
     ·refine hkeep b' ((HIN.out b' h).keep fun q c f hq => HB2.out.block q ?_)
      rcases Nat.lt_or_ge q wr.heap.size with h | h
      ·exact h
      ·rw [Array.getElem?_eq_none (by simpa using h)] at hq
       cases hq
     ·obtain rfl := List.mem_singleton.1 h
      exact hkeep _ HNEW.out
   case measure => simp [intOf]; omega
  ·obtain rfl : k = ds.length := by omega
   have hk2 := HK.out
   rw [List.take_length] at hk2
   have hbl2 : bs.length = ds.length := by have := congrArg List.length hk2; simpa using this
   obtain ⟨S', cap', hv, hp, -, -⟩ := own_pairs HO.out (by simpa using hbl2.symm)
   subst hv
   have HPA := Lib.hid hp
   have HKK := Lib.hid hk2
   have HBB := Lib.hid hbl2
   clear hp hk2 hbl2
   go_wp2
   go_ret
   refine ⟨⟨S', cap', bs, by rw [HBB.out]; rfl, ⟨HPA.out, fun b hb => ?_⟩, HKK.out⟩, HBL.out⟩
   obtain ⟨-, -, -, -, -, h⟩ := HIN.out b hb
   exact h
end Go.Proofs.YtoimjnmhinfbkaaGreatDoor

namespace Go.Proofs.YtoimjnmhinfbkaaGreatDoor
open Go.RowKit
set_option maxRecDepth 100000
theorem bytes_same (l : List Nat) (A1 A2 : Option Addr) (c1 c2 : Nat) (w : World) (h1 : BytesOk w A1 c1 l) (h2 : BytesOk w A2 c2 l) :
  Calls Tryz.prog 45 #[.slice A1 l.length c1, .slice A2 l.length c2] w fun e w' => e = .returned (.bool true) ∧ w = w' := by
 have hc1 := conv_str h1
 have hc2 := conv_str h2
 generalize strN l = s at hc1 hc2
 clear h1 h2
 go_enter Tryz.func45, Tryz.ntmps45
 go_wp2
 go_ret
 exact ⟨rfl, rfl⟩
def longOne (b : Bl) : Bool := decide (3000 < b.dat.length) || decide (200 < b.nm.size)
def longB (bs : List Bl) : Bool := decide (20 < bs.length) || bs.any longOne
set_option maxHeartbeats 3200000 in
theorem long_any (bs : List Bl) (S : Option Addr) (cap : Nat) (w : World) (hs : StoreAt w S bs) :
  Calls Tryz.prog 37 #[.slice S bs.length cap, .int .i64 20] w fun e w' => e = .returned (.bool (longB bs)) ∧ Below w.heap.size w w' := by
 have HS := Lib.hid hs
 clear hs
 by_cases h20 : 20 < bs.length
 ·have h20' : (20 : Int) < (bs.length : Int) := by omega
  have hl : longB bs = true := by unfold longB; simp [h20]
  rw [hl]
  clear hl
  go_enter Tryz.func37, Tryz.ntmps37
  go_wp2
  go_ret
  exact ⟨rfl, Below.refl _ _⟩
 ·have h20' : ¬ (20 : Int) < (bs.length : Int) := by omega
  have hl : longB bs = bs.any longOne := by unfold longB; simp [h20]
  rw [hl]
  clear hl
  go_enter Tryz.func37, Tryz.ntmps37
  go_wp2_with fail
  go_loopw [13] (fun i wr => ∃ k : Nat, k ≤ bs.length ∧ i = .int .i64 k ∧ (∀ b ∈ bs.take k, longOne b = false) ∧ Below w.heap.size w wr) (fun i _ => bs.length - (intOf i).toNat)
  case atStart => exact ⟨0, Nat.zero_le _, rfl, (by intro b h; simp at h), Below.refl _ _⟩
  case round =>
   obtain ⟨k, hk, rfl, hno, hbl⟩ := hrel
   have HNO := Lib.hid hno
   have HBL := Lib.hid hbl
   clear hno hbl
   have hk0 : (0 : Int) ≤ (k : Int) := Int.natCast_nonneg _
   by_cases hlt : k < bs.length
   ·have hlt' : (k : Int) < (bs.length : Int) := by omega
    have hat := (HS.out.keep HBL.out).pairs.at' (k := k) (by simpa using hlt)
    rw [List.getElem_map] at hat
    have htk : bs.take (k + 1) = bs.take k ++ [bs[k]] := List.take_succ_eq_append_getElem hlt
    have hmem : bs[k] ∈ bs := List.getElem_mem hlt
    obtain ⟨bk, hbk⟩ : ∃ bk, bk = bs[k] := ⟨_, rfl⟩
    rw [← hbk] at hat htk hmem
    have HTK := Lib.hid htk
    have HMEM := Lib.hid hmem
    clear hbk htk hmem
    obtain ⟨nmk, Ak, capk, dk⟩ := bk
    simp only [Bl.pair] at hat
    obtain ⟨b, o, hSe, hc1, hc2⟩ := hat
    subst hSe
    have HB1 := Lib.hid (HBL.out.alloc HBL.out.size (.cells #[.string nmk, .slice Ak dk.length capk] 146))
    by_cases h1 : 3000 < dk.length
    ·have h1' : (3000 : Int) < (dk.length : Int) := by omega
     have hany : bs.any longOne = true := List.any_eq_true.2 ⟨_, HMEM.out, by simp [longOne, h1]⟩
     have HANY := Lib.hid hany
     clear hany
     go_wp2
     go_ret
     exact ⟨by rw [HANY.out]; rfl, HB1.out⟩
    ·have h1' : ¬ (3000 : Int) < (dk.length : Int) := by omega
     by_cases h2 : 200 < nmk.size
     ·have h2' : (200 : Int) < (nmk.size : Int) := by omega
      have hany : bs.any longOne = true := List.any_eq_true.2 ⟨_, HMEM.out, by simp [longOne, h2]⟩
      have HANY := Lib.hid hany
      clear hany
      go_wp2
      go_ret
      exact ⟨by rw [HANY.out]; rfl, HB1.out⟩
     ·have h2' : ¬ (200 : Int) < (nmk.size : Int) := by omega
      go_wp2
      go_roundw
      case rel =>
       refine ⟨k + 1, by omega, (by first | rfl | go_num), fun b' hb' => ?_, HB1.out⟩
       rw [HTK.out] at hb'
       rcases List.mem_append.1 hb' with h | h
       ·exact HNO.out b' h
       ·obtain rfl := List.mem_singleton.1 h
        simp [longOne]; omega
      case measure => simp [intOf]; omega
   ·obtain rfl : k = bs.length := by omega
    have hany : bs.any longOne = false := by
     rw [List.any_eq_false]
     intro b hb
     have := HNO.out b (by rw [List.take_length]; exact hb)
     simp [this]
    have HANY := Lib.hid hany
    clear hany
    go_wp2
    go_ret
    exact ⟨by rw [HANY.out]; rfl, HBL.out⟩
def sumN (ds : List (ByteArray × ByteArray)) : Nat := (ds.map fun x => x.2.size).sum
set_option maxHeartbeats 3200000 in
theorem size_any (ds : List (ByteArray × ByteArray)) (S : Option Addr) (cap : Nat) (w : World) (hs : Pairs w S (ds.map dpair)) (hlen : ds.length ≤ 1000000) (hbig : ∀ x ∈ ds, x.2.size ≤ 3000) :
  Calls Tryz.prog 91 #[.slice S ds.length cap] w fun e w' => e = .returned (.int .i64 (sumN ds)) ∧ Below w.heap.size w w' := by
 have hsum : ∀ k, sumN (ds.take k) ≤ 3000 * k := fun k => by
  induction k with
  | zero => simp [sumN]
  | succ k ih =>
   by_cases h : k < ds.length
   ·rw [List.take_succ_eq_append_getElem h, sumN, List.map_append, List.sum_append]
    have := hbig _ (List.getElem_mem h)
    unfold sumN at ih
    simp only [List.map_cons, List.map_nil, List.sum_cons, List.sum_nil]
    omega
   ·rw [List.take_of_length_le (by omega)] at ih ⊢
    omega
 have HSUM := Lib.hid hsum
 have HS := Lib.hid hs
 clear hs hsum
 go_enter Tryz.func91, Tryz.ntmps91
 go_wp2_with fail
 go_loopw [3, 8] (fun n i wr => ∃ k : Nat, k ≤ ds.length ∧ i = .int .i64 k ∧ n = .int .i64 (sumN (ds.take k)) ∧ Below w.heap.size w wr) (fun _ i _ => ds.length - (intOf i).toNat)
 case atStart => exact ⟨0, Nat.zero_le _, rfl, rfl, Below.refl _ _⟩
 case round =>
  obtain ⟨k, hk, rfl, rfl, hbl⟩ := hrel
  have HBL := Lib.hid hbl
  clear hbl
  have hk0 : (0 : Int) ≤ (k : Int) := Int.natCast_nonneg _
  have hsk := HSUM.out k
  have hs0 : (0 : Int) ≤ (sumN (ds.take k) : Int) := Int.natCast_nonneg _
  by_cases hlt : k < ds.length
  ·have hlt' : (k : Int) < (ds.length : Int) := by omega
   have hat := (HS.out.keep HBL.out).at' (k := k) (by simpa using hlt)
   rw [List.getElem_map] at hat
   have hsz := hbig _ (List.getElem_mem hlt)
   have htk : sumN (ds.take (k + 1)) = sumN (ds.take k) + (ds[k]).2.size := by
    rw [List.take_succ_eq_append_getElem hlt, sumN, List.map_append, List.sum_append]; simp [sumN]
   obtain ⟨bk, hbk⟩ : ∃ bk, bk = ds[k] := ⟨_, rfl⟩
   rw [← hbk] at hat hsz htk
   have HTK := Lib.hid htk
   clear hbk htk
   obtain ⟨nmk, sk⟩ := bk
   simp only [dpair] at hat hsz
   obtain ⟨b, o, hSe, hc1, hc2⟩ := hat
   subst hSe
   have HB1 := Lib.hid (HBL.out.alloc HBL.out.size (.cells #[.string nmk, .string sk] 152))
   have hsz0 : (0 : Int) ≤ (sk.size : Int) := Int.natCast_nonneg _
   obtain ⟨sm, hsm⟩ : ∃ sm, sm = sumN (ds.take k) := ⟨_, rfl⟩
   rw [← hsm] at hsk hs0 HTK ⊢
   clear hsm
   go_wp2
   go_roundw
   case rel => exact ⟨k + 1, by omega, (by first | rfl | go_num), by rw [HTK.out]; simp, HB1.out⟩
   case measure => simp [intOf]; omega
  ·obtain rfl : k = ds.length := by omega
   rw [List.take_length] at *
   go_wp2
   go_ret
   exact ⟨rfl, HBL.out⟩
end Go.Proofs.YtoimjnmhinfbkaaGreatDoor

namespace Go.Proofs.YtoimjnmhinfbkaaGreatDoor
open Go.RowKit
set_option maxRecDepth 100000
/-- a slice's rest. -/
def cutV (S : Option Addr) (n cap k : Nat) : Value := match S with
 | none => .slice none 0 0
 | some a => .slice (some (if cap - k = 0 then a else a.add (k * 2))) (n - k) (cap - k)
section
variable {ρ : Operand → Value} {w w' : World} {o : Oper} {x y : Operand}
theorem run_slice95 {S : Option Addr} {n cap k : Nat} (hk : k ≤ n) (hlc : n ≤ cap) (hnil : S = none → n = 0 ∧ cap = 0) (ho : o.op = .slice 95 x (some y) none none) (h1 : ρ x = .slice S n cap) (h2 : ρ y = .int .i64 (k : Int)) : (execOp ρ o).run Tryz.prog w = .ok (.value (cutV S n cap k)) w := by
 cases S with
 | none =>
  obtain ⟨rfl, rfl⟩ := hnil rfl
  obtain rfl : k = 0 := by omega
  unfold execOp cutV; rw [ho]; simp only [h1, h2, Option.map]; go_simp
 | some A =>
  have h0 : (0 : Int) ≤ (k : Int) := Int.natCast_nonneg _
  have h3 : (k : Int) ≤ (n : Int) := by omega
  have h4 : (n : Int) ≤ (cap : Int) := by omega
  unfold execOp cutV; rw [ho]; simp only [h1, h2, Option.map]; go_simp
  by_cases e : cap = k
  ·rw [if_pos e, if_pos (by omega)]
  ·rw [if_neg e, if_neg (by omega)]
theorem run_app95 {a b v : Value} (hr : (Builtin.append_ #[95, 95] 95 #[a, b]).run Tryz.prog w = .ok v w') (ht : o.type = 95) (ho : o.op = .call { callee := .builtin .append, args := #[x, y], argTypes := #[95, 95] }) (h1 : ρ x = a) (h2 : ρ y = b) : (execOp ρ o).run Tryz.prog w = .ok (.value v) w' := by
 have hr2 : (Builtin.append_ #[95, 95] o.type #[a, b]).run Tryz.prog w = .ok v w' := by rw [ht]; exact hr
 unfold execOp
 simp only [ho, resolve, invoke, builtin, Sem.run_bind, Sem.run_pure, Result.andThen_ok, List.map_toArray, List.map_cons, List.map_nil, h1, h2, hr2]
theorem run_build152 {a b : ByteArray} (ho : o.op = .build 152 #[(0, x), (1, y)]) (h1 : ρ x = .string a) (h2 : ρ y = .string b) : (execOp ρ o).run Tryz.prog w = .ok (.value (.agg #[.string a, .string b])) w := by
 unfold execOp; rw [ho]; simp only [h1, h2]; go_simp
theorem run_bs95 {a b : ByteArray} {X : Nat} (hX : w.heap.size = X) (ho : o.op = .buildSlice 95 1 #[(0, x)]) (h1 : ρ x = .agg #[.string a, .string b]) : (execOp ρ o).run Tryz.prog w = .ok (.value (.slice (some ⟨X, 0, none⟩) 1 1)) (w.alloc (.cells #[.string a, .string b] 152)) := by
 subst hX
 unfold execOp; rw [ho]; simp only [h1]; go_simp
end
noncomputable def ops43_17 : Array Oper := (Tryz.f43.body.bind (inCode 17)).getD #[]
def sl43_17 : Nat → Nat
 | 0 => 60
 | 1 => 61
 | 2 => 62
 | 3 => 63
 | 4 => 64
 | 5 => 65
 | 6 => 66
 | 7 => 67
 | 8 => 68
 | 9 => 69
 | 10 => 70
 | 11 => 4
 | 12 => 5
 | 13 => 6
 | _ => 0
def R43_17 (S : Option Addr) (n : Nat) (cap : Nat) (k : Nat) (X : Nat) (nb : ByteArray) (dt : ByteArray) (v10 : Value) (v65 : Value) (v69 : Value) (W65 : World) (W69 : World) : Nat → Value → World → Prop
 | 0, v, _ => v = v10
 | 1, v, _ => v = .string nb
 | 2, v, _ => v = .string dt
 | 3, v, _ => v = .agg #[.string nb, .string dt]
 | 4, v, _ => v = .slice (some ⟨X, 0, none⟩) 1 1
 | 5, v, _ => v = v65
 | 6, v, _ => v = .slice S n cap
 | 7, v, _ => v = .int .i64 (k : Int)
 | 8, v, _ => v = cutV S n cap k
 | 9, v, _ => v = v69
 | 10, v, _ => v = .string nb
 | 11, v, _ => v = v69
 | 12, v, _ => v = .string nb
 | 13, v, _ => v = .int .i64 0
 | _, _, _ => True
def J43_17 (W0 : World) (S : Option Addr) (n : Nat) (cap : Nat) (k : Nat) (X : Nat) (nb : ByteArray) (dt : ByteArray) (v10 : Value) (v65 : Value) (v69 : Value) (W65 : World) (W69 : World) (L : Array Bool) (w : World) : Prop := (L.getD 4 false = false → w = W0) ∧ (L.getD 4 false = true → L.getD 5 false = false → w = W0.alloc (.cells #[.string nb, .string dt] 152)) ∧ (L.getD 5 false = true → L.getD 9 false = false → w = W65) ∧ (L.getD 9 false = true → w = W69)
theorem J43_17_any {W0 : World} {S : Option Addr} {n : Nat} {cap : Nat} {k : Nat} {X : Nat} {nb : ByteArray} {dt : ByteArray} {v10 : Value} {v65 : Value} {v69 : Value} {W65 : World} {W69 : World} {L : Array Bool} {w : World} (i : Nat) (hi : i ≠ 4 ∧ i ≠ 5 ∧ i ≠ 9) (h : J43_17 W0 S n cap k X nb dt v10 v65 v69 W65 W69 L w) : J43_17 W0 S n cap k X nb dt v10 v65 v69 W65 W69 (L.setIfInBounds i true) w := by
 obtain ⟨h0, h1, h2, h3⟩ := h
 exact ⟨fun h => h0 (unset h), fun h g => h1 (set_ne (by omega) h) (unset g), fun h g => h2 (set_ne (by omega) h) (unset g), fun h => h3 (set_ne (by omega) h)⟩
set_option maxHeartbeats 3200000 in
theorem reg43_17 {ops : Array Oper} (ho : ops = ops43_17) {Q : Exit → Act → World → Prop} {a0 : Act} {w0 W0 : World} (hW : w0.drew = W0) {S : Option Addr} {n : Nat} {cap : Nat} {k : Nat} {X : Nat} {nb : ByteArray} {dt : ByteArray} {v10 : Value} {v65 : Value} {v69 : Value} {W65 : World} {W69 : World} (hX : W0.heap.size = X) (hk : k ≤ n) (hlc : n ≤ cap) (hnil : S = none → n = 0 ∧ cap = 0) (h5 : (Builtin.append_ #[95, 95] 95 #[v10, .slice (some ⟨X, 0, none⟩) 1 1]).run Tryz.prog (W0.alloc (.cells #[.string nb, .string dt] 152)) = .ok v65 W65) (h9 : (Builtin.append_ #[95, 95] 95 #[v65, cutV S n cap k]).run Tryz.prog W65 = .ok v69 W69) (hs10 : a0.eval (.tmp 10) = v10) (hs7 : a0.eval (.tmp 7) = .string nb) (hs1 : a0.eval (.tmp 1) = .string dt) (hs0 : a0.eval (.tmp 0) = .slice S n cap) (hs9 : a0.eval (.tmp 9) = .int .i64 (k : Int)) (hsz : a0.tmps.size = 71)
  (HK : ∀ a, a.defers = a0.defers → a.tmps.size = 71 → (∀ s, freeB ops43_17 s = true → a.eval (.tmp s) = a0.eval (.tmp s)) → (∀ i, i < 14 → R43_17 S n cap k X nb dt v10 v65 v69 W65 W69 i (a.eval (.tmp (sl43_17 i))) (W69)) → Q .normal a (W69)) : (Code.region 17 ops true).wp Tryz.prog Q a0 w0 := by
 subst ho
 refine region_made (n := 14) (sl := sl43_17) (J := J43_17 W0 S n cap k X nb dt v10 v65 v69 W65 W69) (R := R43_17 S n cap k X nb dt v10 v65 v69 W65 W69) (by kernel_rfl) (by kernel_rfl) (by kernel_rfl) (by rw [hsz]; kernel_rfl) ?_ (by rw [hW]; exact ⟨fun _ => rfl, fun h => by simp [Array.getD] at h, fun h => by simp [Array.getD] at h, fun h => by simp [Array.getD] at h⟩) (fun L a w hall hf => ?_)
 rotate_left
 ·have hw1 : w = W69 := hf.world.2.2.2 (hall 9 (by decide))
  subst w
  exact HK a hf.defers (hf.size.trans hsz) hf.rest (fun i hi => hf.got i (hall i hi))
 intro i hi L a w hs h1 hdep hd hst ho
 clear HK
 match i, hi, h1, hdep, ho with
 | 0, _, h1, hdep, ho =>
   have JJ := J43_17_any 0 (by decide) hst.world
   have s10 : a.eval (.tmp 10) = v10 := (hst.rest 10 (by kernel_rfl)).trans hs10
   have hr : (execOp a.eval (opAt ops43_17 0)).run Tryz.prog w = .ok (.value (v10)) w := run_moved (x := .tmp 10) (by kernel_rfl) s10
   exact op_value ho (by kernel_rfl) hr (made_val (d := 60) (by kernel_rfl) rfl JJ (fun _ _ _ _ h => h))
 | 1, _, h1, hdep, ho =>
   have JJ := J43_17_any 1 (by decide) hst.world
   have s7 : a.eval (.tmp 7) = .string nb := (hst.rest 7 (by kernel_rfl)).trans hs7
   have hr : (execOp a.eval (opAt ops43_17 1)).run Tryz.prog w = .ok (.value (.string nb)) w := run_moved (x := .tmp 7) (by kernel_rfl) s7
   exact op_value ho (by kernel_rfl) hr (made_val (d := 61) (by kernel_rfl) rfl JJ (fun _ _ _ _ h => h))
 | 2, _, h1, hdep, ho =>
   have JJ := J43_17_any 2 (by decide) hst.world
   have s1 : a.eval (.tmp 1) = .string dt := (hst.rest 1 (by kernel_rfl)).trans hs1
   have hr : (execOp a.eval (opAt ops43_17 2)).run Tryz.prog w = .ok (.value (.string dt)) w := run_moved (x := .tmp 1) (by kernel_rfl) s1
   exact op_value ho (by kernel_rfl) hr (made_val (d := 62) (by kernel_rfl) rfl JJ (fun _ _ _ _ h => h))
 | 3, _, h1, hdep, ho =>
   have JJ := J43_17_any 3 (by decide) hst.world
   have g1 : a.eval (.tmp 61) = .string nb := hst.got 1 (hdep 1 (by kernel_rfl))
   have g2 : a.eval (.tmp 62) = .string dt := hst.got 2 (hdep 2 (by kernel_rfl))
   have hr : (execOp a.eval (opAt ops43_17 3)).run Tryz.prog w = .ok (.value (.agg #[.string nb, .string dt])) w := run_build152 (show (opAt ops43_17 3).op = .build 152 #[(0, .tmp 61), (1, .tmp 62)] from (by kernel_rfl)) g1 g2
   exact op_value ho (by kernel_rfl) hr (made_val (d := 63) (by kernel_rfl) rfl JJ (fun _ _ _ _ h => h))
 | 4, _, h1, hdep, ho =>
   have hw : w = W0 := hst.world.1 (unl h1)
   obtain rfl : W0 = w := hw.symm
   have g3 : a.eval (.tmp 63) = .agg #[.string nb, .string dt] := hst.got 3 (hdep 3 (by kernel_rfl))
   have hr : (execOp a.eval (opAt ops43_17 4)).run Tryz.prog (W0) = .ok (.value (.slice (some ⟨X, 0, none⟩) 1 1)) (W0.alloc (.cells #[.string nb, .string dt] 152)) := run_bs95 hX (show (opAt ops43_17 4).op = .buildSlice 95 1 #[(0, .tmp 63)] from (by kernel_rfl)) g3
   refine op_value ho (by kernel_rfl) hr (made_val (d := 64) (by kernel_rfl) rfl ⟨fun h => by (rw [set_same (by rw [hs]; decide)] at h; cases h), fun _ _ => rfl, fun h _ => by (rw [getD_set_ne false (by decide)] at h; rw [unlisted hs hd h1 (show waits .any ops43_17 5 4 = true from (by kernel_rfl))] at h; cases h), fun h => by (rw [getD_set_ne false (by decide)] at h; have h := hd 9 5 (by kernel_rfl) h; rw [unlisted hs hd h1 (show waits .any ops43_17 5 4 = true from (by kernel_rfl))] at h; cases h)⟩ (fun j _ _ u h => ?_))
   match j, h with
   | 0, h => exact (show _ = _ from h)
   | 1, h => exact (show _ = _ from h)
   | 2, h => exact (show _ = _ from h)
   | 3, h => exact (show _ = _ from h)
   | 4, h => exact (show _ = _ from h)
   | 5, h => exact (show _ = _ from h)
   | 6, h => exact (show _ = _ from h)
   | 7, h => exact (show _ = _ from h)
   | 8, h => exact (show _ = _ from h)
   | 9, h => exact (show _ = _ from h)
   | 10, h => exact (show _ = _ from h)
   | 11, h => exact (show _ = _ from h)
   | 12, h => exact (show _ = _ from h)
   | 13, h => exact (show _ = _ from h)
   | _ + 14, _ => exact trivial
 | 5, _, h1, hdep, ho =>
   have hw : w = W0.alloc (.cells #[.string nb, .string dt] 152) := hst.world.2.1 (hdep 4 (by kernel_rfl)) (unl h1)
   subst w
   have g0 : a.eval (.tmp 60) = v10 := hst.got 0 (hdep 0 (by kernel_rfl))
   have g4 : a.eval (.tmp 64) = .slice (some ⟨X, 0, none⟩) 1 1 := hst.got 4 (hdep 4 (by kernel_rfl))
   have hr : (execOp a.eval (opAt ops43_17 5)).run Tryz.prog (W0.alloc (.cells #[.string nb, .string dt] 152)) = .ok (.value (v65)) (W65) := run_app95 h5 (show (opAt ops43_17 5).type = 95 from (by kernel_rfl)) (show (opAt ops43_17 5).op = .call { callee := .builtin .append, args := #[.tmp 60, .tmp 64], argTypes := #[95, 95] } from (by kernel_rfl)) g0 g4
   refine op_value ho (by kernel_rfl) hr (made_val (d := 65) (by kernel_rfl) rfl ⟨fun h => by (rw [getD_set_ne false (by decide)] at h; rw [hdep 4 (by kernel_rfl)] at h; cases h), fun _ h => by (rw [set_same (by rw [hs]; decide)] at h; cases h), fun _ _ => rfl, fun h => by (rw [getD_set_ne false (by decide)] at h; rw [unlisted hs hd h1 (show waits .any ops43_17 9 5 = true from (by kernel_rfl))] at h; cases h)⟩ (fun j _ _ u h => ?_))
   match j, h with
   | 0, h => exact (show _ = _ from h)
   | 1, h => exact (show _ = _ from h)
   | 2, h => exact (show _ = _ from h)
   | 3, h => exact (show _ = _ from h)
   | 4, h => exact (show _ = _ from h)
   | 5, h => exact (show _ = _ from h)
   | 6, h => exact (show _ = _ from h)
   | 7, h => exact (show _ = _ from h)
   | 8, h => exact (show _ = _ from h)
   | 9, h => exact (show _ = _ from h)
   | 10, h => exact (show _ = _ from h)
   | 11, h => exact (show _ = _ from h)
   | 12, h => exact (show _ = _ from h)
   | 13, h => exact (show _ = _ from h)
   | _ + 14, _ => exact trivial
 | 6, _, h1, hdep, ho =>
   have JJ := J43_17_any 6 (by decide) hst.world
   have s0 : a.eval (.tmp 0) = .slice S n cap := (hst.rest 0 (by kernel_rfl)).trans hs0
   have hr : (execOp a.eval (opAt ops43_17 6)).run Tryz.prog w = .ok (.value (.slice S n cap)) w := run_moved (x := .tmp 0) (by kernel_rfl) s0
   exact op_value ho (by kernel_rfl) hr (made_val (d := 66) (by kernel_rfl) rfl JJ (fun _ _ _ _ h => h))
 | 7, _, h1, hdep, ho =>
   have JJ := J43_17_any 7 (by decide) hst.world
   have s9 : a.eval (.tmp 9) = .int .i64 (k : Int) := (hst.rest 9 (by kernel_rfl)).trans hs9
   have hr : (execOp a.eval (opAt ops43_17 7)).run Tryz.prog w = .ok (.value (.int .i64 (k : Int))) w := run_moved (x := .tmp 9) (by kernel_rfl) s9
   exact op_value ho (by kernel_rfl) hr (made_val (d := 67) (by kernel_rfl) rfl JJ (fun _ _ _ _ h => h))
 | 8, _, h1, hdep, ho =>
   have JJ := J43_17_any 8 (by decide) hst.world
   have g6 : a.eval (.tmp 66) = .slice S n cap := hst.got 6 (hdep 6 (by kernel_rfl))
   have g7 : a.eval (.tmp 67) = .int .i64 (k : Int) := hst.got 7 (hdep 7 (by kernel_rfl))
   have hr : (execOp a.eval (opAt ops43_17 8)).run Tryz.prog w = .ok (.value (cutV S n cap k)) w := run_slice95 hk hlc hnil (show (opAt ops43_17 8).op = .slice 95 (.tmp 66) (some (.tmp 67)) none none from (by kernel_rfl)) g6 g7
   exact op_value ho (by kernel_rfl) hr (made_val (d := 68) (by kernel_rfl) rfl JJ (fun _ _ _ _ h => h))
 | 9, _, h1, hdep, ho =>
   have hw : w = W65 := hst.world.2.2.1 (hdep 5 (by kernel_rfl)) (unl h1)
   subst w
   have g5 : a.eval (.tmp 65) = v65 := hst.got 5 (hdep 5 (by kernel_rfl))
   have g8 : a.eval (.tmp 68) = cutV S n cap k := hst.got 8 (hdep 8 (by kernel_rfl))
   have hr : (execOp a.eval (opAt ops43_17 9)).run Tryz.prog (W65) = .ok (.value (v69)) (W69) := run_app95 h9 (show (opAt ops43_17 9).type = 95 from (by kernel_rfl)) (show (opAt ops43_17 9).op = .call { callee := .builtin .append, args := #[.tmp 65, .tmp 68], argTypes := #[95, 95] } from (by kernel_rfl)) g5 g8
   refine op_value ho (by kernel_rfl) hr (made_val (d := 69) (by kernel_rfl) rfl ⟨fun h => by (rw [getD_set_ne false (by decide)] at h; rw [hd 5 4 (by kernel_rfl) (hdep 5 (by kernel_rfl))] at h; cases h), fun _ h => by (rw [getD_set_ne false (by decide)] at h; rw [hdep 5 (by kernel_rfl)] at h; cases h), fun _ h => by (rw [set_same (by rw [hs]; decide)] at h; cases h), fun _ => rfl⟩ (fun j _ _ u h => ?_))
   match j, h with
   | 0, h => exact (show _ = _ from h)
   | 1, h => exact (show _ = _ from h)
   | 2, h => exact (show _ = _ from h)
   | 3, h => exact (show _ = _ from h)
   | 4, h => exact (show _ = _ from h)
   | 5, h => exact (show _ = _ from h)
   | 6, h => exact (show _ = _ from h)
   | 7, h => exact (show _ = _ from h)
   | 8, h => exact (show _ = _ from h)
   | 9, h => exact (show _ = _ from h)
   | 10, h => exact (show _ = _ from h)
   | 11, h => exact (show _ = _ from h)
   | 12, h => exact (show _ = _ from h)
   | 13, h => exact (show _ = _ from h)
   | _ + 14, _ => exact trivial
 | 10, _, h1, hdep, ho =>
   have JJ := J43_17_any 10 (by decide) hst.world
   have s7 : a.eval (.tmp 7) = .string nb := (hst.rest 7 (by kernel_rfl)).trans hs7
   have hr : (execOp a.eval (opAt ops43_17 10)).run Tryz.prog w = .ok (.value (.string nb)) w := run_moved (x := .tmp 7) (by kernel_rfl) s7
   exact op_value ho (by kernel_rfl) hr (made_val (d := 70) (by kernel_rfl) rfl JJ (fun _ _ _ _ h => h))
 | 11, _, h1, hdep, ho =>
   have JJ := J43_17_any 11 (by decide) hst.world
   have g9 : a.eval (.tmp 69) = v69 := hst.got 9 (hdep 9 (by kernel_rfl))
   have hr : (execOp a.eval (opAt ops43_17 11)).run Tryz.prog w = .ok (.value (v69)) w := run_moved_as (x := .tmp 69) (by kernel_rfl) g9
   exact op_value ho (by kernel_rfl) hr (made_val (d := 4) (by kernel_rfl) rfl JJ (fun _ _ _ _ h => h))
 | 12, _, h1, hdep, ho =>
   have JJ := J43_17_any 12 (by decide) hst.world
   have g10 : a.eval (.tmp 70) = .string nb := hst.got 10 (hdep 10 (by kernel_rfl))
   have hr : (execOp a.eval (opAt ops43_17 12)).run Tryz.prog w = .ok (.value (.string nb)) w := run_moved_as (x := .tmp 70) (by kernel_rfl) g10
   exact op_value ho (by kernel_rfl) hr (made_val (d := 5) (by kernel_rfl) rfl JJ (fun _ _ _ _ h => h))
 | 13, _, h1, hdep, ho =>
   have JJ := J43_17_any 13 (by decide) hst.world
   have hr : (execOp a.eval (opAt ops43_17 13)).run Tryz.prog w = .ok (.value (.int .i64 0)) w := run_moved_as (x := .const (.int .i64 0)) (by kernel_rfl) rfl
   exact op_value ho (by kernel_rfl) hr (made_val (d := 6) (by kernel_rfl) rfl JJ (fun _ _ _ _ h => h))
 | k + 14, hi, _, _, _ => exact absurd hi (by omega)
set_option maxHeartbeats 3200000 in
theorem turn43_17 {x0 x1 x2 x3 x4 x5 x6 x7 x8 x9 x10 x11 x12 x13 x14 x15 x16 x17 x18 x19 x20 x21 x22 x23 x24 x25 x26 x27 x28 x29 x30 x31 x32 x33 x34 x35 x36 x37 x38 x39 x40 x41 x42 x43 x44 x45 x46 x47 x48 x49 x50 x51 x52 x53 x54 x55 x56 x57 x58 x59 x60 x61 x62 x63 x64 x65 x66 x67 x68 x69 x70 z4 z5 z6 : Value} {D : _} {a : Act} (hl : Left 71 ops43_17 a (Act.mk #[x0, x1, x2, x3, x4, x5, x6, x7, x8, x9, x10, x11, x12, x13, x14, x15, x16, x17, x18, x19, x20, x21, x22, x23, x24, x25, x26, x27, x28, x29, x30, x31, x32, x33, x34, x35, x36, x37, x38, x39, x40, x41, x42, x43, x44, x45, x46, x47, x48, x49, x50, x51, x52, x53, x54, x55, x56, x57, x58, x59, x60, x61, x62, x63, x64, x65, x66, x67, x68, x69, x70] D)) (h4 : a.eval (.tmp 4) = z4) (h5 : a.eval (.tmp 5) = z5) (h6 : a.eval (.tmp 6) = z6) : ∃ z60 z61 z62 z63 z64 z65 z66 z67 z68 z69 z70, a = ⟨#[x0, x1, x2, x3, z4, z5, z6, x7, x8, x9, x10, x11, x12, x13, x14, x15, x16, x17, x18, x19, x20, x21, x22, x23, x24, x25, x26, x27, x28, x29, x30, x31, x32, x33, x34, x35, x36, x37, x38, x39, x40, x41, x42, x43, x44, x45, x46, x47, x48, x49, x50, x51, x52, x53, x54, x55, x56, x57, x58, x59, z60, z61, z62, z63, z64, z65, z66, z67, z68, z69, z70], D⟩ := by
 subst h4
 subst h5
 subst h6
 exact ⟨a.eval (.tmp 60), a.eval (.tmp 61), a.eval (.tmp 62), a.eval (.tmp 63), a.eval (.tmp 64), a.eval (.tmp 65), a.eval (.tmp 66), a.eval (.tmp 67), a.eval (.tmp 68), a.eval (.tmp 69), a.eval (.tmp 70), (turn_gen [4, 5, 6, 60, 61, 62, 63, 64, 65, 66, 67, 68, 69, 70] (by kernel_rfl) (by kernel_rfl) hl.1 hl.2.1 hl.2.2).trans (by kernel_rfl)⟩
theorem pairs_flat {w : World} {S : Option Addr} {l : List (ByteArray × Value)} (h : Pairs w S l) (k : Nat) (hk : k ≤ l.length) : ∀ ad, S = some ad → ∀ j u, ((l.drop k).flatMap cells2)[j]? = some u → w.cell? ((ad.add (k * 2)).add j) = some u := fun ad ha j u hu => by
 rcases h with rfl | ⟨b, o, hb, hc⟩
 ·simp at hu
 ·obtain rfl : ad = ⟨b, o, none⟩ := Option.some.inj (ha.symm.trans hb)
  have hj : j < 2 * (l.length - k) := by
   have := (List.getElem?_eq_some_iff.1 hu).1
   rw [flat2_length, List.length_drop] at this
   exact this
  have hg := flat2_get (l.drop k) (j / 2) (by rw [List.length_drop]; omega)
  have hc2 := hc (k + j / 2) (by omega)
  have he : (l.drop k)[j / 2]'(by rw [List.length_drop]; omega) = l[k + j / 2] := by rw [List.getElem_drop]
  have ha2 : ((⟨b, o, none⟩ : Addr).add (k * 2)).add j = ⟨b, o + (k * 2 + j), none⟩ := by
   unfold Addr.add
   by_cases h1 : k * 2 = 0 <;> by_cases h2 : j = 0 <;> simp [h1, h2] <;> omega
  rw [ha2]
  rw [he] at hg
  rcases Nat.mod_two_eq_zero_or_one j with h2 | h2
  ·have e1 : j / 2 * 2 = j := by omega
   rw [e1, hu] at hg
   have e2 : o + (k + j / 2) * 2 = o + (k * 2 + j) := by omega
   rw [e2] at hc2
   rw [hc2.1]; exact hg.1.symm
  ·have e1 : j / 2 * 2 + 1 = j := by omega
   rw [e1, hu] at hg
   have e2 : o + (k + j / 2) * 2 + 1 = o + (k * 2 + j) := by omega
   rw [e2] at hc2
   rw [hc2.2]; exact hg.2.symm
theorem pairs_take {w : World} {S : Option Addr} {ds : List (ByteArray × ByteArray)} (h : Pairs w S (ds.map dpair)) (k : Nat) : ∀ ad, S = some ad → ∀ j u, (((ds.take k).map dpair).flatMap cells2)[j]? = some u → w.cell? (ad.add j) = some u := fun ad ha j u hu => by
 have h1 := pairs_flat h 0 (Nat.zero_le _) ad ha j u (by
  rw [List.drop_zero]
  have e : (ds.map dpair).flatMap cells2 = ((ds.take k).map dpair).flatMap cells2 ++ ((ds.drop k).map dpair).flatMap cells2 := by
   rw [← List.flatMap_append, ← List.map_append, List.take_append_drop]
  rw [e, List.getElem?_append_left (List.getElem?_eq_some_iff.1 hu).1]
  exact hu)
 rw [Nat.zero_mul] at h1
 rwa [show ad.add 0 = ad from by unfold Addr.add; rfl] at h1
theorem pairs_one (ds : List (ByteArray × ByteArray)) : ∀ u ∈ (ds.map dpair).flatMap cells2, u.oneCell' = true := fun u hu => by
 obtain ⟨x, hx, hu⟩ := List.mem_flatMap.1 hu
 obtain ⟨y, -, rfl⟩ := List.mem_map.1 hx
 simp [cells2, dpair] at hu
 rcases hu with rfl | rfl <;> rfl
theorem app_cut {W : World} {base n0 : Nat} {v : Value} {xs : List Value} {S : Option Addr} {cap k : Nat} {ds : List (ByteArray × ByteArray)} (hown : W.ownsRow base 152 2 v n0 xs) (hp : Pairs W S (ds.map dpair)) (hnil : S = none → ds.length = 0 ∧ cap = 0) (hk : k ≤ ds.length) (hle : ds.length ≤ cap) (hb : n0 + ds.length ≤ 1000000) (hbase : base ≤ W.heap.size) :
  ∃ v' W', (Builtin.append_ #[95, 95] 95 #[v, cutV S ds.length cap k]).run Tryz.prog W = .ok v' W' ∧ W'.ownsRow base 152 2 v' (n0 + (ds.length - k)) (xs ++ ((ds.drop k).map dpair).flatMap cells2) ∧ (W' = W ∨ W.grownBy W' v.ownBlock) := by
 obtain ⟨i0, hi0, hz0, hzz1, hzz2⟩ := info_parts info152
 cases hS : S with
 | none =>
  obtain ⟨h1, h2⟩ := hnil hS
  have hd : ds = [] := List.eq_nil_of_length_eq_zero h1
  subst hd
  refine ⟨v, W, run_append_owned_none W base 95 95 152 i0 2 Tryz.underlying95 hi0 v n0 xs hown, ?_, .inl rfl⟩
  simpa using hown
 | some a =>
  by_cases hc : cap - k = 0
  ·have hkn : k = ds.length := by omega
   obtain ⟨v', W', h1, h2, h3, -⟩ := run_append_own (P := Tryz.prog) (w := W) base 95 95 152 i0 (.agg #[.string ⟨#[]⟩, .string ⟨#[]⟩]) 2 32 Tryz.underlying95 hi0 hz0 hzz1 hzz2 rfl (by decide) v n0 xs hown a (ds.length - k) (cap - k) (((ds.drop k).map dpair).flatMap cells2) (by rw [flat2_length, List.length_map, List.length_drop]; omega) (fun j u hu => by rw [hkn, List.drop_length] at hu; simp at hu) (pairs_one _) (by unfold maxLen; omega) (by omega) hbase
   refine ⟨v', W', ?_, h2, .inr h3⟩
   simp only [cutV]
   rw [if_pos hc]; exact h1
  ·obtain ⟨v', W', h1, h2, h3, -⟩ := run_append_own (P := Tryz.prog) (w := W) base 95 95 152 i0 (.agg #[.string ⟨#[]⟩, .string ⟨#[]⟩]) 2 32 Tryz.underlying95 hi0 hz0 hzz1 hzz2 rfl (by decide) v n0 xs hown (a.add (k * 2)) (ds.length - k) (cap - k) (((ds.drop k).map dpair).flatMap cells2) (by rw [flat2_length, List.length_map, List.length_drop]; omega) (fun j u hu => by
    have := pairs_flat hp k (by simpa using hk) a hS j u (by rw [← List.map_drop]; exact hu)
    exact this) (pairs_one _) (by unfold maxLen; omega) (by omega) hbase
   refine ⟨v', W', ?_, h2, .inr h3⟩
   simp only [cutV]
   rw [if_neg hc]; exact h1
theorem ba_beq_self (b : ByteArray) : (b == b) = true := by rw [Go.beq_toListBytes]; simp
theorem ba_eq_of_beq {a b : ByteArray} (h : (a == b) = true) : a = b := by
 rw [Go.beq_toListBytes, ByteArray.toList_eq, ByteArray.toList_eq] at h
 have h2 : a.data.toList = b.data.toList := by simpa using h
 rw [← ba_eta a, h2, ba_eta]
theorem getA_insert {ds : List (ByteArray × ByteArray)} {nb data : ByteArray} (k : Nat) (hno : (ds.map dkey).find? (fun x => x.1 == nb) = none) (hnb : nb.data.toList = nmL (bytesN data)) : getA ((ds.take k ++ [(nb, data)] ++ ds.drop k).map dkey) nb = .ok (bytesN data) := by
 have h1 : ((ds.take k).map dkey).find? (fun x => x.1 == nb) = none := by
  rw [List.find?_eq_none] at hno ⊢
  intro x hx
  exact hno x (by
   obtain ⟨y, hy, rfl⟩ := List.mem_map.1 hx
   exact List.mem_map.2 ⟨y, List.mem_of_mem_take hy, rfl⟩)
 unfold getA
 rw [List.map_append, List.map_append, List.append_assoc, List.find?_append, h1]
 have h2 : (([(nb, data)].map dkey) ++ (ds.drop k).map dkey).find? (fun x => x.1 == nb) = some (nb, bytesN data) := by
  simp [dkey, ba_beq_self]
 rw [Option.none_or, h2]
 simp [hnb]
theorem getA_found {ds : List (ByteArray × ByteArray)} {nb nm data : ByteArray} (hf : (ds.map dkey).find? (fun x => x.1 == nb) = some (nm, bytesN data)) (hnb : nb.data.toList = nmL (bytesN data)) : getA (ds.map dkey) nb = .ok (bytesN data) := by
 unfold getA
 rw [hf]
 simp [hnb]
/-- is it put? -/
def putOk (ds : List (ByteArray × ByteArray)) (nb data : ByteArray) : Bool := match (ds.map dkey).find? (fun x => x.1 == nb) with
 | none => true
 | some x => x.2 == bytesN data
/-- what Put answers. -/
def PutRes (ok : Bool) (data nb : ByteArray) (w : World) (e : Ending) (w' : World) : Prop := (if ok = true then (∃ (S' : Option Addr) (cap' : Nat) (out : List (ByteArray × ByteArray)) (s : ByteArray), e = .returned (.tuple #[.slice S' out.length cap', .string s, .int .i64 0]) ∧ Pairs w' S' (out.map dpair) ∧ getA (out.map dkey) nb = .ok (bytesN data) ∧ out.length ≤ 21 ∧ ∀ x ∈ out, x.2.size ≤ 3000) else e = .returned (.tuple #[.slice none 0 0, .string ⟨#[]⟩, .int .i64 6])) ∧ Below w.heap.size w w'
set_option maxHeartbeats 6400000 in
theorem dput_any (ds : List (ByteArray × ByteArray)) (data : ByteArray) (S : Option Addr) (cap : Nat) (w : World) (hs : Pairs w S (ds.map dpair)) (hnil : S = none → ds.length = 0 ∧ cap = 0) (hle : ds.length ≤ cap) (hlen : ds.length ≤ 20) (hbig : ∀ x ∈ ds, x.2.size ≤ 3000) (hd : data.size ≤ 2000) :
  Calls Tryz.prog 43 #[.slice S ds.length cap, .string data] w (PutRes (putOk ds ⟨(nmL (bytesN data)).toArray⟩ data) data ⟨(nmL (bytesN data)).toArray⟩ w) := by
 obtain ⟨i0, hi0, hz0, hzz1, hzz2⟩ := info_parts info152
 obtain ⟨cb, wb, hcv, hbb, hok⟩ := conv_bytes data w
 have hnm := docName_any (bytesN data) (some ⟨w.heap.size, 0, none⟩) cb wb hok.by' (by rw [bytesN_length]; omega) hok.nil hok.le hok.at'
 rw [bytesN_length] at hnm
 have hnbl : (⟨(nmL (bytesN data)).toArray⟩ : ByteArray).data.toList = nmL (bytesN data) := rfl
 obtain ⟨nb, hnb⟩ : ∃ nb : ByteArray, nb = ⟨(nmL (bytesN data)).toArray⟩ := ⟨_, rfl⟩
 rw [← hnb] at hnm hnbl ⊢
 have hpl := fun w1 (hp : Pairs w1 S (ds.map dpair)) => dplace_any (ds.map (·.1)) nb S cap w1 (by rw [List.length_map]; omega) (by have h := hp.names; rwa [List.map_map] at h)
 simp only [List.length_map] at hpl
 have hpc := pos_cases (ds.map dkey) nb
 rw [List.map_map, show ((fun x : ByteArray × List Nat => x.1) ∘ dkey) = (fun x : ByteArray × ByteArray => x.1) from rfl] at hpc
 have HPL := Lib.hid hpl
 have HS := Lib.hid hs
 have HBB := Lib.hid hbb
 have HNM := Lib.hid hnm
 have HNB := Lib.hid hnbl
 have HNIL := Lib.hid hnil
 have hd' : ¬ (1048576 : Int) < (data.size : Int) := by omega
 clear hbb hok hnm hpl hs hnb hnbl hnil
 rcases hpc with ⟨hp, hf⟩ | ⟨k, hk', hp, hf⟩
 ·rw [hp] at HPL
  have hpo : putOk ds nb data = true := by unfold putOk; rw [hf]
  rw [hpo]
  have HF := Lib.hid hf
  clear hf hp hpo
  go_enter Tryz.func43, Tryz.ntmps43
  go_wp2_with fail
  refine HNM.out.mono ?_
  rintro e w1 ⟨rfl, hb1⟩
  have HB1 := Lib.hid (HBB.out.trans (hb1.mono HBB.out.size))
  clear hb1 hcv
  go_wp2_with fail
  refine (HPL.out w1 (HS.out.keep HB1.out)).mono ?_
  rintro e w2 ⟨rfl, rfl⟩
  have h256 : ¬ (256 : Int) ≤ (ds.length : Int) := by omega
  go_wp2_with fail
  refine (size_any ds S cap w1 (HS.out.keep HB1.out) (by omega) hbig).mono ?_
  rintro e w3 ⟨rfl, hb3⟩
  have HB3 := Lib.hid (HB1.out.trans (hb3.mono HB1.out.size))
  have hsum : sumN ds ≤ 60000 := by
   have : ∀ l : List (ByteArray × ByteArray), (∀ x ∈ l, x.2.size ≤ 3000) → sumN l ≤ 3000 * l.length := fun l => by
    induction l with
    | nil => intro _; simp [sumN]
    | cons x l ih =>
     intro h
     have h1 := h x (by simp)
     have h2 := ih (fun y hy => h y (by simp [hy]))
     unfold sumN at h2 ⊢
     simp only [List.map_cons, List.sum_cons, List.length_cons]
     omega
   have := this ds hbig
   omega
  obtain ⟨sm, hsm⟩ : ∃ sm, sm = sumN ds := ⟨_, rfl⟩
  rw [← hsm] at hsum ⊢
  have hsm0 : (0 : Int) ≤ (sm : Int) := Int.natCast_nonneg _
  have hdz0 : (0 : Int) ≤ (data.size : Int) := Int.natCast_nonneg _
  clear hsm hb3 HB1
  go_wp2_with fail
  go_loopw [9] (fun i wr => ∃ k : Nat, k ≤ ds.length ∧ i = .int .i64 k ∧ wr = w3) (fun i _ => ds.length - (intOf i).toNat)
  case atStart => exact ⟨0, Nat.zero_le _, rfl, rfl⟩
  case round =>
   obtain ⟨k, hk, rfl, rfl⟩ := hrel
   have hk0 : (0 : Int) ≤ (k : Int) := Int.natCast_nonneg _
   have hzr := HB3.out.size
   have hs3 := HS.out.keep HB3.out
   by_cases hlt : k < ds.length
   ·have hlt' : (k : Int) < (ds.length : Int) := by omega
    have hat := hs3.at' (k := k) (by simpa using hlt)
    rw [List.getElem_map] at hat
    obtain ⟨dk, hdk⟩ : ∃ dk, dk = ds[k] := ⟨_, rfl⟩
    rw [← hdk] at hat
    clear hdk
    obtain ⟨nmk, sk⟩ := dk
    simp only [dpair] at hat
    obtain ⟨b, o, hSe, hc1, hc2⟩ := hat
    cases hcmp : (Op.bytesLess nmk.toList nb.toList || nmk.toList == nb.toList) with
    | true =>
     subst hSe
     go_wp2
     go_roundw
     case rel => exact ⟨k + 1, by omega, (by first | rfl | go_num), (by first | trivial | rfl)⟩
     case measure => simp [intOf]; omega
    | false =>
     subst hSe
     have HO0 := Lib.hid (World.ownsRow_made (e := 152) (size := 2) (base := w.heap.size) wr #[] 0 hzr (by decide) rfl)
     have HB0 := Lib.hid (HB3.out.alloc hzr (.cells #[] 152))
     have HPA := Lib.hid (hs3.keep ((Below.refl wr.heap.size wr).alloc (Nat.le_refl _) (.cells #[] 152)))
     have hTz : w.heap.size ≤ (wr.alloc (.cells #[] 152)).heap.size := by rw [alloc_size1]; omega
     have HNW := Lib.hid (pairs_take HPA.out k)
     have hnl : (((ds.take k).map dpair).flatMap cells2).length = k * 2 := by rw [flat2_length, List.length_map, List.length_take]; omega
     have hnil2 : (some (⟨b, o, none⟩ : Addr)) = none → k = 0 ∧ cap = 0 := fun e => ⟨by have := (HNIL.out e).1; omega, (HNIL.out e).2⟩
     have HN2 := Lib.hid hnil2
     have hone : ∀ u ∈ ((ds.take k).map dpair).flatMap cells2, u.oneCell' = true := pairs_one _
     have HONE := Lib.hid hone
     clear hnil2 hone
     go_upto_region 17 with (at_builtin; (refine wpList_append_own_opt rfl _ _ 95 rfl w.heap.size 152 i0 (.agg #[.string ⟨#[]⟩, .string ⟨#[]⟩]) 2 32 Tryz.underlying95 hi0 hz0 hzz1 hzz2 rfl (by decide) _ 0 _ rfl HO0.out (some ⟨b, o, none⟩) k cap (((ds.take k).map dpair).flatMap cells2) rfl HN2.out hnl HNW.out HONE.out (by unfold maxLen; omega) (by omega) hTz ?_; intro v10 w4 hown' hgrow))
     have HB4 := Lib.hid (show Below w.heap.size w w4 from by
      rcases hgrow with rfl | hg
      ·exact HB0.out
      ·exact HB0.out.grown hg hTz (fun q hq => (HO0.out.lt q hq).1))
     have HO4 := Lib.hid hown'
     have hz4 : w.heap.size ≤ w4.heap.size := HB4.out.size
     clear hown' hgrow HO0 HB0 HPA HNW HONE HN2 hnl hTz
     have HO5 := (show w4.drew.ownsRow w.heap.size 152 2 v10 (0 + k) ([] ++ ((ds.take k).map dpair).flatMap cells2) from HO4.out).alloc (.cells #[.string nb, .string data] 152)
     obtain ⟨v65, W65, h5, hown5, hgrow5, -⟩ := run_append_own (P := Tryz.prog) (w := w4.drew.alloc (.cells #[.string nb, .string data] 152)) w.heap.size 95 95 152 i0 (.agg #[.string ⟨#[]⟩, .string ⟨#[]⟩]) 2 32 Tryz.underlying95 hi0 hz0 hzz1 hzz2 rfl (by decide) v10 (0 + k) _ HO5 ⟨w4.heap.size, 0, none⟩ 1 1 [.string nb, .string data] rfl (cells_new w4.drew #[_, _] 152) (by simp [Value.oneCell']) (by unfold maxLen; omega) (by omega) (by rw [alloc_size1]; exact Nat.le_succ_of_le hz4)
     have HB5 : Below w.heap.size w W65 := (HB4.out.drew.alloc hz4 _).grown hgrow5 (by rw [alloc_size1]; exact Nat.le_succ_of_le hz4) (fun q hq => (HO5.lt q hq).1)
     obtain ⟨v69, W69, h9, hown9, hg9⟩ := app_cut (S := (some ⟨b, o, none⟩)) (cap := cap) (k := k) (ds := ds) hown5 (HS.out.keep HB5) HNIL.out hk hle (by omega) HB5.size
     have HB9 := Lib.hid (show Below w.heap.size w W69 from by
      rcases hg9 with rfl | hg
      ·exact HB5
      ·exact HB5.grown hg HB5.size (fun q hq => (hown5.lt q hq).1))
     refine reg43_17 (S := (some ⟨b, o, none⟩)) (n := ds.length) (cap := cap) (k := k) (X := w4.heap.size) (nb := nb) (dt := data) (v10 := v10) (v65 := v65) (v69 := v69) (W65 := W65) (W69 := W69) (by kernel_rfl) rfl rfl hk hle HNIL.out h5 h9 rfl rfl rfl rfl rfl rfl (fun a hd hs hr hR => ?_)
     obtain ⟨z60, z61, z62, z63, z64, z65, z66, z67, z68, z69, z70, rfl⟩ := turn43_17 ⟨hd, hs, hr⟩ (hR 11 (by decide)) (hR 12 (by decide)) (hR 13 (by decide))
     clear hd hs hr hR h5 h9
     obtain ⟨out, hout⟩ : ∃ out, out = ds.take k ++ [(nb, data)] ++ ds.drop k := ⟨_, rfl⟩
     have hol : out.length = 0 + k + 1 + (ds.length - k) := by rw [hout]; simp; omega
     have hrows : (out.map dpair).flatMap cells2 = [] ++ ((ds.take k).map dpair).flatMap cells2 ++ [.string nb, .string data] ++ ((ds.drop k).map dpair).flatMap cells2 := by
      rw [hout, List.map_append, List.map_append, List.flatMap_append, List.flatMap_append]; rfl
     have hown10 : W69.ownsRow w.heap.size 152 2 v69 out.length ((out.map dpair).flatMap cells2) := by rw [hol, hrows]; exact hown9
     obtain ⟨S', cap', hv, hp, -, -⟩ := own_pairs hown10 (by simp)
     have HPP := Lib.hid hp
     have HOUT := Lib.hid hout
     have HV := Lib.hid hv
     have hol2 : out.length ≤ 21 := by omega
     clear hout hrows hown10 hp hv hown9 hown5 HO5 hg9 hgrow5 HB5 hol
     go_wp2
     refine bodyPost_ret (v := .tuple #[v69, .string nb, .int .i64 0]) (by simp [results, Tryz.results43, go_sem]) rfl ?_
     refine ⟨?_, HB9.out⟩
     rw [if_pos rfl]
     refine ⟨S', cap', out, nb, by rw [HV.out], HPP.out, by rw [HOUT.out]; exact getA_insert k HF.out HNB.out, hol2, fun x hx => ?_⟩
     rw [HOUT.out] at hx
     simp only [List.mem_append, List.mem_singleton] at hx
     rcases hx with (hx | rfl) | hx
     ·exact hbig x (List.mem_of_mem_take hx)
     ·exact Nat.le_trans hd (by decide)
     ·exact hbig x (List.mem_of_mem_drop hx)
   ·have hlt' : ¬ (k : Int) < (ds.length : Int) := by omega
    have HO0 := Lib.hid (World.ownsRow_made (e := 152) (size := 2) (base := w.heap.size) wr #[] 0 hzr (by decide) rfl)
    have HB0 := Lib.hid (HB3.out.alloc hzr (.cells #[] 152))
    have HPA := Lib.hid (hs3.keep ((Below.refl wr.heap.size wr).alloc (Nat.le_refl _) (.cells #[] 152)))
    have hTz : w.heap.size ≤ (wr.alloc (.cells #[] 152)).heap.size := by rw [alloc_size1]; omega
    have HNW := Lib.hid (pairs_take HPA.out k)
    have hnl : (((ds.take k).map dpair).flatMap cells2).length = k * 2 := by rw [flat2_length, List.length_map, List.length_take]; omega
    have hnil2 : S = none → k = 0 ∧ cap = 0 := fun e => ⟨by have := (HNIL.out e).1; omega, (HNIL.out e).2⟩
    have HN2 := Lib.hid hnil2
    have hone : ∀ u ∈ ((ds.take k).map dpair).flatMap cells2, u.oneCell' = true := pairs_one _
    have HONE := Lib.hid hone
    clear hnil2 hone
    go_upto_region 17 with (at_builtin; (refine wpList_append_own_opt rfl _ _ 95 rfl w.heap.size 152 i0 (.agg #[.string ⟨#[]⟩, .string ⟨#[]⟩]) 2 32 Tryz.underlying95 hi0 hz0 hzz1 hzz2 rfl (by decide) _ 0 _ rfl HO0.out S k cap (((ds.take k).map dpair).flatMap cells2) rfl HN2.out hnl HNW.out HONE.out (by unfold maxLen; omega) (by omega) hTz ?_; intro v10 w4 hown' hgrow))
    have HB4 := Lib.hid (show Below w.heap.size w w4 from by
     rcases hgrow with rfl | hg
     ·exact HB0.out
     ·exact HB0.out.grown hg hTz (fun q hq => (HO0.out.lt q hq).1))
    have HO4 := Lib.hid hown'
    have hz4 : w.heap.size ≤ w4.heap.size := HB4.out.size
    clear hown' hgrow HO0 HB0 HPA HNW HONE HN2 hnl hTz
    have HO5 := (show w4.drew.ownsRow w.heap.size 152 2 v10 (0 + k) ([] ++ ((ds.take k).map dpair).flatMap cells2) from HO4.out).alloc (.cells #[.string nb, .string data] 152)
    obtain ⟨v65, W65, h5, hown5, hgrow5, -⟩ := run_append_own (P := Tryz.prog) (w := w4.drew.alloc (.cells #[.string nb, .string data] 152)) w.heap.size 95 95 152 i0 (.agg #[.string ⟨#[]⟩, .string ⟨#[]⟩]) 2 32 Tryz.underlying95 hi0 hz0 hzz1 hzz2 rfl (by decide) v10 (0 + k) _ HO5 ⟨w4.heap.size, 0, none⟩ 1 1 [.string nb, .string data] rfl (cells_new w4.drew #[_, _] 152) (by simp [Value.oneCell']) (by unfold maxLen; omega) (by omega) (by rw [alloc_size1]; exact Nat.le_succ_of_le hz4)
    have HB5 : Below w.heap.size w W65 := (HB4.out.drew.alloc hz4 _).grown hgrow5 (by rw [alloc_size1]; exact Nat.le_succ_of_le hz4) (fun q hq => (HO5.lt q hq).1)
    obtain ⟨v69, W69, h9, hown9, hg9⟩ := app_cut (S := S) (cap := cap) (k := k) (ds := ds) hown5 (HS.out.keep HB5) HNIL.out hk hle (by omega) HB5.size
    have HB9 := Lib.hid (show Below w.heap.size w W69 from by
     rcases hg9 with rfl | hg
     ·exact HB5
     ·exact HB5.grown hg HB5.size (fun q hq => (hown5.lt q hq).1))
    refine reg43_17 (S := S) (n := ds.length) (cap := cap) (k := k) (X := w4.heap.size) (nb := nb) (dt := data) (v10 := v10) (v65 := v65) (v69 := v69) (W65 := W65) (W69 := W69) (by kernel_rfl) rfl rfl hk hle HNIL.out h5 h9 rfl rfl rfl rfl rfl rfl (fun a hd hs hr hR => ?_)
    obtain ⟨z60, z61, z62, z63, z64, z65, z66, z67, z68, z69, z70, rfl⟩ := turn43_17 ⟨hd, hs, hr⟩ (hR 11 (by decide)) (hR 12 (by decide)) (hR 13 (by decide))
    clear hd hs hr hR h5 h9
    obtain ⟨out, hout⟩ : ∃ out, out = ds.take k ++ [(nb, data)] ++ ds.drop k := ⟨_, rfl⟩
    have hol : out.length = 0 + k + 1 + (ds.length - k) := by rw [hout]; simp; omega
    have hrows : (out.map dpair).flatMap cells2 = [] ++ ((ds.take k).map dpair).flatMap cells2 ++ [.string nb, .string data] ++ ((ds.drop k).map dpair).flatMap cells2 := by
     rw [hout, List.map_append, List.map_append, List.flatMap_append, List.flatMap_append]; rfl
    have hown10 : W69.ownsRow w.heap.size 152 2 v69 out.length ((out.map dpair).flatMap cells2) := by rw [hol, hrows]; exact hown9
    obtain ⟨S', cap', hv, hp, -, -⟩ := own_pairs hown10 (by simp)
    have HPP := Lib.hid hp
    have HOUT := Lib.hid hout
    have HV := Lib.hid hv
    have hol2 : out.length ≤ 21 := by omega
    clear hout hrows hown10 hp hv hown9 hown5 HO5 hg9 hgrow5 HB5 hol
    go_wp2
    refine bodyPost_ret (v := .tuple #[v69, .string nb, .int .i64 0]) (by simp [results, Tryz.results43, go_sem]) rfl ?_
    refine ⟨?_, HB9.out⟩
    rw [if_pos rfl]
    refine ⟨S', cap', out, nb, by rw [HV.out], HPP.out, by rw [HOUT.out]; exact getA_insert k HF.out HNB.out, hol2, fun x hx => ?_⟩
    rw [HOUT.out] at hx
    simp only [List.mem_append, List.mem_singleton] at hx
    rcases hx with (hx | rfl) | hx
    ·exact hbig x (List.mem_of_mem_take hx)
    ·exact Nat.le_trans hd (by decide)
    ·exact hbig x (List.mem_of_mem_drop hx)
 ·have hk : k < ds.length := by simpa using hk'
  have hat := HS.out.at' (k := k) (by simpa using hk)
  rw [List.getElem_map] at hat hf
  rw [hp] at HPL
  obtain ⟨dk, hdk⟩ : ∃ dk, dk = ds[k] := ⟨_, rfl⟩
  rw [← hdk] at hat hf
  clear hp hdk hk'
  obtain ⟨nmk, sk⟩ := dk
  simp only [dpair, dkey] at hat hf
  obtain ⟨b, o, hSe, hc1, hc2⟩ := hat
  subst hSe
  have HF := Lib.hid hf
  clear hf
  have hk0 : (0 : Int) ≤ (k : Int) := Int.natCast_nonneg _
  have hkl : (k : Int) < (ds.length : Int) := by omega
  cases hq : (sk == data) with
  | true =>
   obtain rfl := ba_eq_of_beq hq
   have hpo : putOk ds nb sk = true := by unfold putOk; rw [HF.out]; simp
   rw [hpo]
   clear hq hpo
   go_enter Tryz.func43, Tryz.ntmps43
   go_wp2_with fail
   refine HNM.out.mono ?_
   rintro e w1 ⟨rfl, hb1⟩
   have HB1 := Lib.hid (HBB.out.trans (hb1.mono HBB.out.size))
   have hc3 := cell_below HB1.out hc2
   clear hb1 hcv hc1 hc2
   go_wp2_with fail
   refine (HPL.out w1 (HS.out.keep HB1.out)).mono ?_
   rintro e w2 ⟨rfl, rfl⟩
   go_wp2
   refine bodyPost_ret (v := .tuple #[.slice (some ⟨b, o, none⟩) ds.length cap, .string nb, .int .i64 0]) (by simp [results, Tryz.results43, go_sem]) rfl ?_
   refine ⟨?_, HB1.out⟩
   rw [if_pos rfl]
   exact ⟨_, cap, ds, nb, rfl, HS.out.keep HB1.out, getA_found HF.out HNB.out, by omega, hbig⟩
  | false =>
   have hpo : putOk ds nb data = false := by
    unfold putOk
    rw [HF.out]
    simp only [beq_eq_false_iff_ne]
    intro e
    have : sk = data := by rw [← strN_bytesN sk, e, strN_bytesN]
    rw [this, ba_beq_self] at hq
    cases hq
   rw [hpo]
   clear hpo
   rw [Go.beq_toListBytes] at hq
   go_enter Tryz.func43, Tryz.ntmps43
   go_wp2_with fail
   refine HNM.out.mono ?_
   rintro e w1 ⟨rfl, hb1⟩
   have HB1 := Lib.hid (HBB.out.trans (hb1.mono HBB.out.size))
   have hc3 := cell_below HB1.out hc2
   clear hb1 hcv hc1 hc2
   go_wp2_with fail
   refine (HPL.out w1 (HS.out.keep HB1.out)).mono ?_
   rintro e w2 ⟨rfl, rfl⟩
   go_wp2
   refine bodyPost_ret (v := .tuple #[.slice none 0 0, .string ⟨#[]⟩, .int .i64 6]) (by simp [results, Tryz.results43, go_sem]) rfl ?_
   refine ⟨?_, HB1.out⟩
   rw [if_neg (by decide)]
end Go.Proofs.YtoimjnmhinfbkaaGreatDoor
