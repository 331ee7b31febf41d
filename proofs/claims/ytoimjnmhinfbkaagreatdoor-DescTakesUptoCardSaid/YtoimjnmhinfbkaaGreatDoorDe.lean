import Derived.Test.YtoimjnmhinfbkaaGreatDoorDb
namespace Go.Proofs.YtoimjnmhinfbkaaGreatDoor
open Go.RowKit
set_option maxRecDepth 100000

/-! ### the document's side -/
def codeE {α : Type} : Except (Int × ByteArray) α → Int
  | .ok _ => 0
  | .error b => b.1
def whereE {α : Type} : Except (Int × ByteArray) α → ByteArray
  | .ok _ => ⟨#[]⟩
  | .error b => b.2
def strE : Except (Int × ByteArray) ByteArray → ByteArray
  | .ok s => s
  | .error _ => ⟨#[]⟩
def intE : Except (Int × ByteArray) Int → Int
  | .ok s => s
  | .error _ => 0

theorem from_doc (k : Int) (t : Bool) (x : ByteArray) (A : Option Addr) (n ca : Nat) (B : Option Addr) (m cb : Nat) (p : ByteArray) (bad : Int) (wh : ByteArray) (w : World) :
    Calls Tryz.prog 71 #[.agg #[.int .i64 k, .bool t, .string x, .slice A n ca, .slice B m cb, .string p, .int .i64 bad, .string wh]] w
      fun e w' => e = .returned (.agg #[.int .i64 bad, .string wh]) ∧ Below w.heap.size w w' := by
  go_enter Tryz.func71, Tryz.ntmps71
  go_wp2
  refine bodyPost_ret (v := .agg #[.int .i64 bad, .string wh]) (by simp [results, Tryz.results71, go_sem]) rfl ⟨rfl, ?_⟩
  (repeat (first | with_reducible refine Below.setCell ?_ (by simp) _))
  exact ((Below.refl _ _).alloc (Nat.le_refl _) _).alloc (by simp) _

def DocV (p : ByteArray) (S : Nat → Prop) (w : World) (r : Except (Int × ByteArray) V) (e : Ending) (w' : World) : Prop :=
  match r with
  | .ok u => ∃ cs, e = .returned (.tuple #[docCells cs p 0 ⟨#[]⟩, .bool true]) ∧ u.Rep w' S cs ∧ Below w.heap.size w w'
  | .error b => e = .returned (.tuple #[docBad b.1 b.2, .bool false]) ∧ Below w.heap.size w w'
def DocM (p : ByteArray) (S : Nat → Prop) (w : World) (r : Option V) (e : Ending) (w' : World) : Prop :=
  match r with
  | some u => ∃ cs, e = .returned (.tuple #[docCells cs p 0 ⟨#[]⟩, .bool true]) ∧ u.Rep w' S cs ∧ Below w.heap.size w w'
  | none => e = .returned (.tuple #[docBad 0 ⟨#[]⟩, .bool false]) ∧ Below w.heap.size w w'
def DocS1 (w : World) (r : Except (Int × ByteArray) ByteArray) (e : Ending) (w' : World) : Prop :=
  e = .returned (.tuple #[.string (strE r), docBad (codeE r) (whereE r)]) ∧ Below w.heap.size w w'
def DocI1 (w : World) (r : Except (Int × ByteArray) Int) (e : Ending) (w' : World) : Prop :=
  e = .returned (.tuple #[.int .i64 (intE r), docBad (codeE r) (whereE r)]) ∧ Below w.heap.size w w'
def DocS2 (w : World) (r : Except (Int × ByteArray) ByteArray) (e : Ending) (w' : World) : Prop :=
  e = .returned (.tuple #[.string (strE r), .agg #[.int .i64 (codeE r), .string (whereE r)]]) ∧ Below w.heap.size w w'

theorem place_of {l : List V} {k : Int} {t : Bool} {x name : ByteArray} {ns : List ByteArray} (h : ¬ (V.mk k t x l ns).place name < 0) :
    ∃ j, ∃ hj : j < l.length, (V.mk k t x l ns).place name = j ∧ (V.mk k t x l ns).get name = some l[j] := by
  obtain ⟨j, hj⟩ : ∃ j : Nat, (V.mk k t x l ns).place name = j := ⟨_, (Int.toNat_of_nonneg (by omega)).symm⟩
  have hlt := (V.place_lt h).2
  rw [hj, Int.toNat_natCast] at hlt
  change j < l.length at hlt
  refine ⟨j, hlt, hj, ?_⟩
  rw [V.get, if_neg h, hj, Int.toNat_natCast]
  exact List.getElem?_eq_getElem hlt

theorem rep_parts {v : V} {w : World} {S : Nat → Prop} {cs : List Value} (hv : v.Rep w S cs) (hb : v.bulk ≤ 4194304) : v.names.length ≤ 8388608 ∧ v.list.length ≤ 8388608 := by
  obtain ⟨k, t, x, l, ns⟩ := v
  simp only [V.bulk] at hb
  have := names_length ns
  have := V.bulks_length l
  simp only [V.names, V.list]
  omega

theorem dfield_any (v : V) (cs : List Value) (p name : ByteArray) (w : World) (S : Nat → Prop) (hv : v.Rep w S cs) (hb : v.bulk ≤ 4194304) (hp : p.size ≤ 1073741824) (hn : name.size ≤ 1073741824) :
    Calls Tryz.prog 62 #[docCells cs p 0 ⟨#[]⟩, .string name, .bool true] w (DocV (fieldPlace p name) S w (fieldA v p name)) := by
  have hlen := rep_parts hv hb
  obtain ⟨k, t, x, l, ns⟩ := v
  obtain ⟨A, ca, B, cb, rfl, hca, hcb, hS, hL⟩ := hv
  simp only [V.names, V.list] at hlen
  by_cases hk : (k == 5) = true
  · obtain rfl : k = 5 := by simpa using hk
    by_cases hpl : (V.mk 5 t x l ns).place name < 0
    · have hg : (V.mk 5 t x l ns).get name = none := by rw [V.get, if_pos hpl]
      rw [show fieldA (V.mk 5 t x l ns) p name = .error (4, fieldPlace p name) by simp [fieldA, V.kind, hg]]
      exact field_doc_none t x A l ca B ns cb p 0 ⟨#[]⟩ name w S hS hlen.1 hlen.2 hp hn hpl
    · obtain ⟨j, hj, hpj, hg⟩ := place_of hpl
      rw [show fieldA (V.mk 5 t x l ns) p name = .ok l[j] by simp [fieldA, V.kind, hg]]
      exact field_doc_some t x A l ca B ns cb p 0 ⟨#[]⟩ name true w S hS hL hlen.1 hlen.2 hp hn j hj hpj (.inl rfl)
  · have hk' : (k == 5) = false := by simpa using hk
    rw [show fieldA (V.mk k t x l ns) p name = .error (11, p) by simp only [fieldA, V.kind, hk']; rfl]
    exact field_doc_kind k t x A l.length ca B ns.length cb p 0 ⟨#[]⟩ name true w hk'

theorem dmaybe_any (v : V) (cs : List Value) (p name : ByteArray) (w : World) (S : Nat → Prop) (hv : v.Rep w S cs) (hb : v.bulk ≤ 4194304) (hk5 : v.kind = 5) (hp : p.size ≤ 1073741824) (hn : name.size ≤ 1073741824) :
    Calls Tryz.prog 62 #[docCells cs p 0 ⟨#[]⟩, .string name, .bool false] w (DocM (fieldPlace p name) S w (v.maybe name)) := by
  have hlen := rep_parts hv hb
  obtain ⟨k, t, x, l, ns⟩ := v
  obtain ⟨A, ca, B, cb, rfl, hca, hcb, hS, hL⟩ := hv
  simp only [V.names, V.list] at hlen
  obtain rfl : k = 5 := hk5
  by_cases hpl : (V.mk 5 t x l ns).place name < 0
  · have hg : (V.mk 5 t x l ns).get name = none := by rw [V.get, if_pos hpl]
    rw [show (V.mk 5 t x l ns).maybe name = none by simp [V.maybe, hg]]
    exact field_doc_not t x A l ca B ns cb p 0 ⟨#[]⟩ name w S hS hlen.1 hlen.2 hpl
  · obtain ⟨j, hj, hpj, hg⟩ := place_of hpl
    by_cases hz : ((l[j]).kind == 0) = true
    · rw [show (V.mk 5 t x l ns).maybe name = none by simp only [V.maybe, hg, hz, if_true]]
      exact field_doc_null t x A l ca B ns cb p 0 ⟨#[]⟩ name w S hS hL hlen.1 hlen.2 j hj hpj hz
    · have hz' : ((l[j]).kind == 0) = false := by simpa using hz
      rw [show (V.mk 5 t x l ns).maybe name = some l[j] by simp only [V.maybe, hg, hz']; rfl]
      exact field_doc_some t x A l ca B ns cb p 0 ⟨#[]⟩ name false w S hS hL hlen.1 hlen.2 hp hn j hj hpj (.inr hz')

theorem dtext_any (u : V) (A : Option Addr) (n ca : Nat) (B : Option Addr) (m cb : Nat) (p : ByteArray) (most : Int) (w : World) (hb : u.bulk ≤ 4194304) :
    Calls Tryz.prog 65 #[.agg #[.int .i64 u.kind, .bool u.tr, .string u.text, .slice A n ca, .slice B m cb, .string p, .int .i64 0, .string ⟨#[]⟩], .int .i64 most] w (DocS1 w (textA u p most)) := by
  have hl : u.text.size ≤ 1073741824 := by have := u.text_bulk; omega
  by_cases hk : (u.kind == 3) = true
  · have hk3 : u.kind = 3 := by simpa using hk
    rw [hk3]
    by_cases hm : (u.text.size : Int) ≤ most
    · rw [show textA u p most = .ok u.text by simp only [textA, hk, if_true, if_pos hm]]
      exact text_doc_some _ _ _ _ _ _ _ _ p 0 _ most w hl hm
    · rw [show textA u p most = .error (3, p) by simp only [textA, hk, if_true, if_neg hm]]
      exact text_doc_long _ _ _ _ _ _ _ _ p 0 _ most w hl (by omega)
  · have hk' : (u.kind == 3) = false := by simpa using hk
    rw [show textA u p most = .error (11, p) by simp [textA, hk']]
    exact text_doc_kind _ _ _ _ _ _ _ _ _ p 0 _ most w hk'

theorem dwhole_any (u : V) (A : Option Addr) (n ca : Nat) (B : Option Addr) (m cb : Nat) (p : ByteArray) (least most : Int) (w : World) (hb : u.bulk ≤ 4194304) :
    Calls Tryz.prog 67 #[.agg #[.int .i64 u.kind, .bool u.tr, .string u.text, .slice A n ca, .slice B m cb, .string p, .int .i64 0, .string ⟨#[]⟩], .int .i64 least, .int .i64 most] w (DocI1 w (wholeA u p least most)) := by
  have hl : u.text.size ≤ 1073741824 := by have := u.text_bulk; omega
  by_cases hk : (u.kind == 2) = true
  · have hk2 : u.kind = 2 := by simpa using hk
    rw [hk2]
    cases hw : wholeN u.text.data.toList with
    | ok q =>
      by_cases hm : least ≤ q ∧ q ≤ most
      · rw [show wholeA u p least most = .ok q by simp only [wholeA, hk, hw, if_true, if_pos hm]]
        exact whole_doc_in _ _ _ _ _ _ _ _ _ _ _ _ _ _ hl q hw hm.1 hm.2
      · rw [show wholeA u p least most = .error (1, p) by simp only [wholeA, hk, hw, if_true, if_neg hm]]
        exact whole_doc_out _ _ _ _ _ _ _ _ _ _ _ _ _ _ hl q hw (by omega)
    | error c =>
      rcases wholeN_codes _ _ hw with rfl | hc
      · rw [show wholeA u p least most = .error (1, p) by simp [wholeA, hk, hw]]
        exact whole_doc_range _ _ _ _ _ _ _ _ _ _ _ _ _ _ hl hw
      · rw [show wholeA u p least most = .error (11, p) by have : c ≠ 1 := (by omega); simp [wholeA, hk, hw, this]]
        exact whole_doc_form _ _ _ _ _ _ _ _ _ _ _ _ _ _ hl c hc hw
  · have hk' : (u.kind == 2) = false := by simpa using hk
    rw [show wholeA u p least most = .error (11, p) by simp [wholeA, hk']]
    exact whole_doc_kind _ _ _ _ _ _ _ _ _ p 0 _ least most w hk'

theorem fieldA_codes {v : V} {p name : ByteArray} {b : Int × ByteArray} (h : fieldA v p name = .error b) : b.1 = 4 ∨ b.1 = 11 := by
  unfold fieldA at h
  split at h
  · split at h
    · cases h
    · injection h with h; subst h; exact .inl rfl
  · injection h with h; subst h; exact .inr rfl
theorem textA_codes {v : V} {p : ByteArray} {most : Int} {b : Int × ByteArray} (h : textA v p most = .error b) : b.1 = 3 ∨ b.1 = 11 := by
  unfold textA at h
  split at h
  · split at h
    · cases h
    · injection h with h; subst h; exact .inl rfl
  · injection h with h; subst h; exact .inr rfl

set_option maxHeartbeats 1600000 in
theorem filled_doc (v : V) (cs : List Value) (p name : ByteArray) (most : Int) (w : World) (S : Nat → Prop) (hv : v.Rep w S cs) (hb : v.bulk ≤ 4194304) (hp : p.size ≤ 1000000) (hn : name.size ≤ 1000000) :
    Calls Tryz.prog 70 #[docCells cs p 0 ⟨#[]⟩, .string name, .int .i64 most] w (DocS2 w (filledA v p name most)) := by
  generalize hr : filledA v p name most = r
  have HR := Lib.hid hr
  have HV := Lib.hid hv
  obtain ⟨A, ca, B, cb, rfl, -⟩ := hv.open
  clear hr hv
  simp only [docCells, List.cons_append, List.nil_append]
  go_enter Tryz.func70, Tryz.ntmps70
  go_wp2_with fail
  refine (dfield_any v [.int .i64 v.kind, .bool v.tr, .string v.text, .slice A v.list.length ca, .slice B v.names.length cb] p name _ S (HV.out.agree fun b hb hlt => ⟨below_agree (((Below.refl _ _).alloc (Nat.le_refl _) _).alloc (by simp) _) b hlt, hb⟩) hb (by omega) (by omega)).mono ?_
  rintro e w1 h1
  cases hf : fieldA v p name with
  | error b =>
    rw [hf] at h1
    have hcode := fieldA_codes hf
    obtain ⟨c, q⟩ := b
    have HR2 := Lib.hid (show r = .error (c, q) by rw [← HR.out]; simp only [filledA, hf])
    obtain ⟨rfl, hb1⟩ := h1
    simp only [docBad] at hcode ⊢
    have HC := Lib.hid hcode
    have hc0 : (c != 0) = true := by simp; omega
    have hz1 : w.heap.size + 1 < w1.heap.size := by have := hb1.size; simp at this; omega
    have hz1' : w.heap.size < w1.heap.size := by omega
    obtain ⟨hc1, hf1⟩ := bcell hb1
    clear hf hcode
    go_wp2_with (go_at_call 71; refine (from_doc _ _ _ _ _ _ _ _ _ _ _ _ _).mono ?_; rintro e w2 ⟨rfl, hb2⟩; obtain ⟨hc2, hf2⟩ := bcell hb2; have hz2 : w.heap.size + 1 < w2.heap.size := (by have := hb2.size; simp at this; omega); have hz2' : w.heap.size < w2.heap.size := (by omega))
    refine bodyPost_ret (v := .tuple #[.string ⟨#[]⟩, .agg #[.int .i64 c, .string q]]) (by simp [results, Tryz.results70, go_sem, hc2, hc1, hz1, hz2, hz1', hz2']) rfl ?_
    refine ⟨by rw [HR2.out]; rfl, ?_⟩
    (repeat (first | with_reducible refine Below.setCell ?_ (by simp) _))
    exact ((((Below.refl _ _).alloc (Nat.le_refl _) _).alloc (by simp) _).trans (hb1.mono (by simp; omega))).trans (((Below.refl _ _).alloc (by omega) _).trans (hb2.mono (by simp; omega)))
  | ok u =>
    rw [hf] at h1
    obtain ⟨cs1, rfl, hrep1, hb1⟩ := h1
    have hub : u.bulk ≤ 4194304 := by have := V.get_bulk (fieldA_ok hf).2; omega
    obtain ⟨A1, ca1, B1, cb1, rfl, -⟩ := hrep1.open
    have HF := Lib.hid hf
    have hz1 : w.heap.size + 1 < w1.heap.size := by have := hb1.size; simp at this; omega
    have hz1' : w.heap.size < w1.heap.size := by omega
    obtain ⟨hc1, hf1⟩ := bcell hb1
    have HB1 := Lib.hid hb1
    simp only [docCells, List.cons_append, List.nil_append]
    clear hf hrep1 hb1
    go_wp2_with fail
    refine (dtext_any u A1 _ ca1 B1 _ cb1 (fieldPlace p name) most _ hub).mono ?_
    rintro e w2 h2
    cases ht : textA u (fieldPlace p name) most with
    | error b =>
      rw [ht] at h2
      have hcode := textA_codes ht
      obtain ⟨c, q⟩ := b
      have HR2 := Lib.hid (show r = .error (c, q) by rw [← HR.out]; simp only [filledA, HF.out, ht])
      have h2' : e = .returned (.tuple #[.string ⟨#[]⟩, docBad c q]) ∧ Below _ _ w2 := h2
      obtain ⟨rfl, hb2⟩ := h2'
      simp only [docBad] at hcode ⊢
      have hc0 : (c != 0) = true := by simp; omega
      obtain ⟨hc2, hf2⟩ := bcell hb2
      have hz2 : w1.heap.size < w2.heap.size := by have := hb2.size; simp at this; omega
      have hz4 : w.heap.size + 1 < w2.heap.size := by omega
      have hz4' : w.heap.size < w2.heap.size := by omega
      clear ht hcode h2
      go_wp2_with (go_at_call 71; refine (from_doc _ _ _ _ _ _ _ _ _ _ _ _ _).mono ?_; rintro e w3 ⟨rfl, hb3⟩; obtain ⟨hc3, hf3⟩ := bcell hb3; have hz3 : w2.heap.size < w3.heap.size := (by have := hb3.size; simp at this; omega); have hz5 : w.heap.size + 1 < w3.heap.size := (by omega); have hz5' : w.heap.size < w3.heap.size := (by omega))
      refine bodyPost_ret (v := .tuple #[.string ⟨#[]⟩, .agg #[.int .i64 c, .string q]]) (by simp [results, Tryz.results70, go_sem, hc3, hc2, hc1, hz1, hz2, hz4, hz5, hz1', hz4', hz5']) rfl ?_
      refine ⟨by rw [HR2.out]; rfl, ?_⟩
      (repeat (first | with_reducible refine Below.setCell ?_ (by simp) _))
      exact (((((Below.refl _ _).alloc (Nat.le_refl _) _).alloc (by simp) _).trans (HB1.out.mono (by simp; omega))).trans (((Below.refl _ _).alloc (by omega) _).trans (hb2.mono (by simp; omega)))).trans (((Below.refl _ _).alloc (by omega) _).trans (hb3.mono (by simp; omega)))
    | ok s =>
      rw [ht] at h2
      have h2' : e = .returned (.tuple #[.string s, docBad 0 ⟨#[]⟩]) ∧ Below _ _ w2 := h2
      obtain ⟨rfl, hb2⟩ := h2'
      simp only [docBad]
      obtain ⟨hc2, hf2⟩ := bcell hb2
      have hz2 : w1.heap.size < w2.heap.size := by have := hb2.size; simp at this; omega
      have hz4 : w.heap.size + 1 < w2.heap.size := by omega
      have hz4' : w.heap.size < w2.heap.size := by omega
      clear h2
      by_cases hs : s.toList = []
      · have HR2 := Lib.hid (show r = .error (9, fieldPlace p name) by rw [← HR.out]; simp only [filledA, HF.out, ht, if_pos hs])
        clear ht
        go_wp2_with fail
        go_region
        all_goals
          go_wp2
          refine bodyPost_ret (v := .tuple #[.string ⟨#[]⟩, .agg #[.int .i64 9, .string (fieldPlace p name)]]) (by simp [results, Tryz.results70, go_sem, hc2, hc1, hz1, hz2, hz4, hz1', hz4']) rfl ?_
          refine ⟨by rw [HR2.out]; rfl, ?_⟩
          (repeat (first | with_reducible refine Below.setCell ?_ (by first | omega | (simp; done) | (simp; omega)) _ | with_reducible refine Below.drew ?_ | with_reducible refine Below.alloc ?_ (by first | omega | (simp; done) | (simp; omega)) _))
          exact ((((Below.refl _ _).alloc (Nat.le_refl _) _).alloc (by simp) _).trans (HB1.out.mono (by simp; omega))).trans (((Below.refl _ _).alloc (by omega) _).trans (hb2.mono (by simp; omega)))
      · have HR2 := Lib.hid (show r = .ok s by rw [← HR.out]; simp only [filledA, HF.out, ht, if_neg hs])
        have hs2 : s.toList.isEmpty = false := by cases h : s.toList <;> simp_all
        clear ht
        go_wp2
        refine bodyPost_ret (v := .tuple #[.string s, .agg #[.int .i64 0, .string ⟨#[]⟩]]) (by simp [results, Tryz.results70, go_sem, hc2, hc1, hz1, hz2, hz4, hz1', hz4']) rfl ?_
        refine ⟨by rw [HR2.out]; rfl, ?_⟩
        (repeat (first | with_reducible refine Below.setCell ?_ (by first | omega | (simp; done) | (simp; omega)) _ | with_reducible refine Below.drew ?_ | with_reducible refine Below.alloc ?_ (by first | omega | (simp; done) | (simp; omega)) _))
        exact ((((Below.refl _ _).alloc (Nat.le_refl _) _).alloc (by simp) _).trans (HB1.out.mono (by simp; omega))).trans (((Below.refl _ _).alloc (by omega) _).trans (hb2.mono (by simp; omega)))

end Go.Proofs.YtoimjnmhinfbkaaGreatDoor
