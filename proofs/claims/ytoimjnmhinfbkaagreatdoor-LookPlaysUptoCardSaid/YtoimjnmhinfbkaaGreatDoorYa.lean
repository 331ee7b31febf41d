import Derived.Test.YtoimjnmhinfbkaaGreatDoorVy
import Derived.Test.YtoimjnmhinfbkaaGreatDoorVz
namespace Go.Proofs.YtoimjnmhinfbkaaGreatDoor
open Go.RowKit
set_option maxRecDepth 100000

mutual
/-- as uptoBulk counts. -/
def V.mass : V → Nat
  | .mk _ _ x l n => 6 + x.size + V.masses l + (n.map fun s => s.size + 1).sum
def V.masses : List V → Nat
  | [] => 0
  | v :: vs => v.mass + V.masses vs
end

mutual
theorem V.bulk_le : ∀ v : V, v.bulk + 5 ≤ v.mass
  | .mk _ _ _ l _ => by have := V.bulks_le l; simp only [V.bulk, V.mass]; omega
theorem V.bulks_le : ∀ l : List V, V.bulks l ≤ V.masses l
  | [] => by simp [V.bulks, V.masses]
  | v :: vs => by have := v.bulk_le; have := V.bulks_le vs; simp only [V.bulks, V.masses]; omega
end

theorem V.masses_mem {l : List V} {v : V} (h : v ∈ l) : v.mass ≤ V.masses l := by
  induction l with
  | nil => cases h
  | cons x xs ih =>
    simp only [V.masses]
    rcases List.mem_cons.1 h with rfl | h
    · omega
    · have := ih h; omega

theorem V.masses_length (l : List V) : 6 * l.length ≤ V.masses l := by
  induction l with
  | nil => simp
  | cons x xs ih => have := x.bulk_le; have := x.bulk_pos; simp only [V.masses, List.length_cons]; omega

/-- the look's step answers so, wherever the value lies. -/
def StepC (v : V) (p : ByteArray) (kd n most : Int) (name : ByteArray) (ts : List ByteArray) (v' : V) (p' tx : ByteArray) (tn : Int) (ti : Bool) (c : Int) (wh : ByteArray) : Prop :=
  ∀ (cs : List Value) (w : World) (S ST : Nat → Prop) (T : Option Addr) (ct : Nat), v.Rep w S cs → Glob w → Strs w ST T ts →
    Calls Tryz.prog 18 #[.agg (cs ++ [Value.string p]).toArray, .agg #[.int .i64 kd, .int .i64 n, .int .i64 most, .string name, .slice T ts.length ct]] w (StepRes w S v' p' tx tn ti c wh)

/-- the document's step answers so. -/
def DocC (v : V) (p : ByteArray) (kd n most : Int) (name : ByteArray) (ts : List ByteArray) (v' : V) (p' tx : ByteArray) (tn : Int) (ti : Bool) (c : Int) (wh : ByteArray) : Prop :=
  ∀ (cs : List Value) (w : World) (S ST : Nat → Prop) (T : Option Addr) (ct : Nat), v.Rep w S cs → Strs w ST T ts →
    Calls Tryz.prog 19 #[docCells cs p 0 ⟨#[]⟩, .agg #[.int .i64 kd, .int .i64 n, .int .i64 most, .string name, .slice T ts.length ct]] w (DocStep w S v' p' tx tn ti c wh)

/-- both answer the same, and the look is no greater than before. -/
def ActC (v : V) (p : ByteArray) (kd n most : Int) (name : ByteArray) (ts : List ByteArray) : Prop :=
  ∃ (v' : V) (p' tx : ByteArray) (tn : Int) (ti : Bool) (c : Int) (wh : ByteArray), v'.mass ≤ v.mass ∧ p'.size ≤ p.size + 1100000 ∧ StepC v p kd n most name ts v' p' tx tn ti c wh ∧ DocC v p kd n most name ts v' p' tx tn ti c wh

section
variable {k : Int} {t : Bool} {x : ByteArray} {l : List V} {ns : List ByteArray} {p : ByteArray} {kd n most : Int} {name : ByteArray} {ts : List ByteArray}

theorem stepC_threw (c : Int) (wh : ByteArray)
    (h : ∀ (A : Option Addr) (ca : Nat) (B : Option Addr) (cb : Nat) (T : Option Addr) (ct : Nat) (w : World) (S ST : Nat → Prop) (bl ba bn bt : Nat), (V.mk k t x l ns).Rep w S [.int .i64 k, .bool t, .string x, .slice A l.length ca, .slice B ns.length cb] → Glob w → Strs w ST T ts →
      Boxes w bl ba bn bt [.int .i64 k, .bool t, .string x, .slice A l.length ca, .slice B ns.length cb, .string p] [.int .i64 kd, .int .i64 n, .int .i64 most, .string name, .slice T ts.length ct] →
      Calls Tryz.prog 56 #[.pointer (some ⟨ba, 0, none⟩), .pointer (some ⟨bl, 0, none⟩), .pointer (some ⟨bn, 0, none⟩), .pointer (some ⟨bt, 0, none⟩)] w (Threw w c wh)) :
    StepC (.mk k t x l ns) p kd n most name ts (.mk k t x l ns) p ⟨#[]⟩ 0 false c wh := by
  intro cs w S ST T ct hv hg hT
  have hv2 := hv
  obtain ⟨A, ca, B, cb, rfl, -⟩ := hv.open
  exact step_threw _ _ _ _ _ _ _ _ _ _ _ _ _ _ _ _ _ w S _ hv2 c wh fun w' bl ba bn bt hbx hbw _ =>
    h A ca B cb T ct w' S ST bl ba bn bt (hv2.agree fun b hb hlt => ⟨hbw.block b hlt, hb⟩) (hg.below hbw) (hT.agree fun b hb hlt => ⟨hbw.block b hlt, hb⟩) hbx

theorem stepC_ok (v' : V) (p' tx : ByteArray) (tn : Int) (ti : Bool)
    (h : ∀ (A : Option Addr) (ca : Nat) (B : Option Addr) (cb : Nat) (T : Option Addr) (ct : Nat) (w : World) (B0 : Nat) (S ST : Nat → Prop) (bl ba bn bt : Nat), (V.mk k t x l ns).Rep w S [.int .i64 k, .bool t, .string x, .slice A l.length ca, .slice B ns.length cb] → Glob w → Strs w ST T ts →
      (∀ b, S b → b < B0) → B0 ≤ bl → Boxes w bl ba bn bt [.int .i64 k, .bool t, .string x, .slice A l.length ca, .slice B ns.length cb, .string p] [.int .i64 kd, .int .i64 n, .int .i64 most, .string name, .slice T ts.length ct] →
      Calls Tryz.prog 56 #[.pointer (some ⟨ba, 0, none⟩), .pointer (some ⟨bl, 0, none⟩), .pointer (some ⟨bn, 0, none⟩), .pointer (some ⟨bt, 0, none⟩)] w (StepOK B0 w S bn bt v' p' tx tn ti)) :
    StepC (.mk k t x l ns) p kd n most name ts v' p' tx tn ti 0 ⟨#[]⟩ := by
  intro cs w S ST T ct hv hg hT
  have hv2 := hv
  obtain ⟨A, ca, B, cb, rfl, -⟩ := hv.open
  refine (step_ok _ _ _ _ _ _ _ _ _ _ _ _ _ _ _ _ _ w (fun b => S b ∧ b < w.heap.size) v' p' tx tn ti fun w' bl ba bn bt hbx hbw hbl =>
    h A ca B cb T ct w' w.heap.size _ ST bl ba bn bt (hv2.agree fun b hb hlt => ⟨hbw.block b hlt, hb, hlt⟩) (hg.below hbw) (hT.agree fun b hb hlt => ⟨hbw.block b hlt, hb⟩) (fun b hb => hb.2) hbl hbx).mono ?_
  rintro e w' ⟨cs', he, hr, hb⟩
  exact ⟨cs', he, hr.agree fun b hb _ => ⟨rfl, hb.imp (fun h => h.1) id⟩, hb⟩

theorem docC_of (v' : V) (p' tx : ByteArray) (tn : Int) (ti : Bool) (c : Int) (wh : ByteArray)
    (h : ∀ (A : Option Addr) (ca : Nat) (B : Option Addr) (cb : Nat) (T : Option Addr) (ct : Nat) (w : World) (S ST : Nat → Prop), (V.mk k t x l ns).Rep w S [.int .i64 k, .bool t, .string x, .slice A l.length ca, .slice B ns.length cb] → Strs w ST T ts →
      Calls Tryz.prog 19 #[.agg #[.int .i64 k, .bool t, .string x, .slice A l.length ca, .slice B ns.length cb, .string p, .int .i64 0, .string ⟨#[]⟩], .agg #[.int .i64 kd, .int .i64 n, .int .i64 most, .string name, .slice T ts.length ct]] w (DocStep w S v' p' tx tn ti c wh)) :
    DocC (.mk k t x l ns) p kd n most name ts v' p' tx tn ti c wh := by
  intro cs w S ST T ct hv hT
  have hv2 := hv
  obtain ⟨A, ca, B, cb, rfl, -⟩ := hv.open
  exact h A ca B cb T ct w S ST hv2 hT

theorem fieldPlace_size (p name : ByteArray) : (fieldPlace p name).size ≤ p.size + 1 + name.size := by
  unfold fieldPlace
  split
  · omega
  · have : (⟨#[46]⟩ : ByteArray).size = 1 := rfl
    simp [ByteArray.size_append] at *
    omega

theorem itemPlace_size (p : ByteArray) (j : Nat) (h : j ≤ 1000000) : (itemPlace p j).size ≤ p.size + 22 := by
  have h1 := itoa_length j h
  have e1 : (⟨#[91]⟩ : ByteArray).size = 1 := rfl
  have e2 : (⟨#[93]⟩ : ByteArray).size = 1 := rfl
  have e3 : (⟨(Lib.itoa (j : Int)).toArray⟩ : ByteArray).size = (Lib.itoa (j : Int)).length := by simp [ByteArray.size]
  unfold itemPlace
  simp only [ByteArray.size_append, e1, e2, e3]
  omega

theorem rep_strs {w : World} {S : Nat → Prop} {A : Option Addr} {ca : Nat} {B : Option Addr} {cb : Nat} (hv : (V.mk k t x l ns).Rep w S [.int .i64 k, .bool t, .string x, .slice A l.length ca, .slice B ns.length cb]) :
    Strs w S B ns ∧ (l = [] ∨ ∃ b o, A = some ⟨b, o, none⟩ ∧ S b ∧ V.Reps w S b o l) ∧ l.length ≤ ca ∧ ns.length ≤ cb := by
  obtain ⟨A', ca', B', cb', he, h1, h2, h3, h4⟩ := hv
  injection he with _ he
  injection he with _ he
  injection he with _ he
  injection he with e1 he
  injection he with e2 _
  injection e1 with e1 _ e3
  injection e2 with e2 _ e4
  subst e1 e2 e3 e4
  exact ⟨h3, h4, h1, h2⟩

theorem fit (hb : (V.mk k t x l ns).mass ≤ 1050000) : (V.mk k t x l ns).bulk ≤ 1050000 ∧ x.size ≤ 1050000 ∧ l.length ≤ 1000000 ∧ ns.length ≤ 1050000 ∧ (∀ v ∈ l, v.bulk ≤ 1050000) ∧ (∀ v ∈ l, v.mass ≤ (V.mk k t x l ns).mass) ∧ ∀ s ∈ ns, s.size ≤ 1050000 := by
  have hn := names_length ns
  have hl := V.masses_length l
  have h1 : ∀ v ∈ l, v.mass ≤ (V.mk k t x l ns).mass := fun v hv => by have := V.masses_mem hv; simp only [V.mass]; omega
  have h2 : ∀ s ∈ ns, s.size + 1 ≤ (V.mk k t x l ns).mass := fun s hs => by have := names_mem hs; simp only [V.mass]; omega
  refine ⟨?_, ?_, ?_, ?_, fun v hv => ?_, h1, fun s hs => ?_⟩
  · have := V.bulk_le (V.mk k t x l ns); omega
  · simp only [V.mass] at hb; omega
  · simp only [V.mass] at hb; omega
  · simp only [V.mass] at hb; omega
  · have := h1 v hv; have := v.bulk_le; omega
  · have := h2 s hs; omega

theorem wrap64_nonneg (n : Int) : 0 ≤ IntKind.u64.wrap n := by
  simp [IntKind.wrap, IntKind.signed, IntKind.bits]
  omega

theorem pick_idx (n : Int) (N : Nat) (h : N ≠ 0) : ∃ j, j < N ∧ (IntKind.u64.wrap n).tmod (N : Int) = (j : Int) := by
  have h0 := wrap64_nonneg n
  have h1 := Int.tmod_lt_of_pos (IntKind.u64.wrap n) (show (0 : Int) < N by omega)
  have h2 := Int.tmod_nonneg (N : Int) h0
  exact ⟨((IntKind.u64.wrap n).tmod N).toNat, by omega, by omega⟩

theorem get_cases (v : V) (name : ByteArray) : (v.place name < 0 ∧ v.get name = none) ∨ ∃ j, ∃ hj : j < v.list.length, v.place name = (j : Int) ∧ v.get name = some v.list[j] := by
  by_cases h : v.place name < 0
  · exact .inl ⟨h, by rw [V.get, if_pos h]⟩
  · obtain ⟨h1, h2⟩ := V.place_lt h
    exact .inr ⟨_, h2, by omega, by rw [V.get, if_neg h]; exact List.getElem?_eq_getElem h2⟩


theorem act0 (hb : (V.mk k t x l ns).mass ≤ 1050000) (hp : p.size ≤ 100000000) (hnm : name.size ≤ 1000) (hk : (IntKind.u64.wrap kd).tmod 9 = 0) : ActC (.mk k t x l ns) p kd n most name ts := by
  obtain ⟨hb', hx, hl, hn, hlb, hlm, hnb⟩ := fit hb
  have hfs := fieldPlace_size p name
  by_cases hkc : k = 5
  · subst hkc
    rcases get_cases (V.mk 5 t x l ns) name with ⟨hpl, hg⟩ | ⟨j, hj, hpl, hg⟩
    · refine ⟨_, p, ⟨#[]⟩, 0, false, 4, (fieldPlace p name), Nat.le_refl _, by omega, stepC_threw 4 (fieldPlace p name) ?_, docC_of _ p ⟨#[]⟩ 0 false 4 (fieldPlace p name) ?_⟩
      · intro A ca B cb T ct w S ST bl ba bn bt hv hgl hT hbx
        obtain ⟨h1, h2, -, -⟩ := rep_strs hv
        exact step0_threw _ _ _ _ _ _ _ _ _ _ _ _ _ _ _ _ _ _ _ _ _ _ hbx hk 4 _ (by have h := lfield_none (V.mk 5 t x l ns) [.int .i64 5, .bool t, .string x, .slice A l.length ca, .slice B ns.length cb] p name w S hv (by omega) rfl (by omega) (by omega) hg; exact h)
      · intro A ca B cb T ct w S ST hv hT
        exact d0_bad _ _ _ _ _ _ _ _ _ _ _ _ _ _ _ _ _ w hk S _ hv 4 _ fun w' hw => by
          obtain ⟨h1, h2, -, -⟩ := rep_strs (hv.agree (w' := w') (S' := S) fun b hb hlt => ⟨hw.block b hlt, hb⟩)
          exact field_doc_none t x A l ca B ns cb p 0 ⟨#[]⟩ name w' S h1 (by omega) (by omega) (by omega) (by omega) hpl
    · have hj' : j < l.length := hj
      refine ⟨l[j], fieldPlace p name, ⟨#[]⟩, 0, false, 0, ⟨#[]⟩, hlm _ (List.getElem_mem hj'), by omega, stepC_ok _ _ _ _ _ ?_, docC_of _ _ _ _ _ _ _ ?_⟩
      · intro A ca B cb T ct w B0 S ST bl ba bn bt hv hgl hT hSB hbl hbx
        obtain ⟨h1, h2, -, -⟩ := rep_strs hv
        exact step0_ok _ _ _ _ _ _ _ _ _ _ _ _ _ _ _ _ _ _ _ _ _ _ hbx hk B0 S hbl _ _ (by have h := lfield_some (V.mk 5 t x l ns) l[j] [.int .i64 5, .bool t, .string x, .slice A l.length ca, .slice B ns.length cb] p name w S hv (by omega) rfl (by omega) (by omega) hg; exact h.mono fun e w1 ⟨cs, he, hr, hbw⟩ => ⟨cs, he, hr.agree fun b hb _ => ⟨rfl, Or.inr hb⟩, hbw⟩)
      · intro A ca B cb T ct w S ST hv hT
        exact d0_some _ _ _ _ _ _ _ _ _ _ _ _ _ _ _ _ _ w hk S _ _ fun w' hw => by
          obtain ⟨h1, h2, -, -⟩ := rep_strs (hv.agree (w' := w') (S' := fun b => S b ∧ b < w.heap.size) fun b hb hlt => ⟨hw.block b hlt, hb, hlt⟩)
          have hT' := hT.agree (w' := w') (S' := ST) fun b hb hlt => ⟨hw.block b hlt, hb⟩
          exact field_doc_some t x A l ca B ns cb p 0 ⟨#[]⟩ name true w' _ h1 h2 (by omega) (by omega) (by omega) (by omega) j hj' hpl (.inl rfl)
  · have hkf : (k == 5) = false := by simpa using hkc
    refine ⟨_, p, ⟨#[]⟩, 0, false, 11, p, Nat.le_refl _, by omega, stepC_threw 11 p ?_, docC_of _ p ⟨#[]⟩ 0 false 11 p ?_⟩
    · intro A ca B cb T ct w S ST bl ba bn bt hv hgl hT hbx
      obtain ⟨h1, h2, -, -⟩ := rep_strs hv
      exact step0_threw _ _ _ _ _ _ _ _ _ _ _ _ _ _ _ _ _ _ _ _ _ _ hbx hk 11 _ (lfield_kind _ _ _ _ _ _ _ _ _ _ _ _ hkf)
    · intro A ca B cb T ct w S ST hv hT
      exact d0_bad _ _ _ _ _ _ _ _ _ _ _ _ _ _ _ _ _ w hk S _ hv 11 _ fun w' hw => by
        obtain ⟨h1, h2, -, -⟩ := rep_strs (hv.agree (w' := w') (S' := S) fun b hb hlt => ⟨hw.block b hlt, hb⟩)
        exact field_doc_kind _ _ _ _ _ _ _ _ _ _ _ _ _ _ _ hkf

theorem act1 (hb : (V.mk k t x l ns).mass ≤ 1050000) (hp : p.size ≤ 100000000) (hnm : name.size ≤ 1000) (hk : (IntKind.u64.wrap kd).tmod 9 = 1) : ActC (.mk k t x l ns) p kd n most name ts := by
  obtain ⟨hb', hx, hl, hn, hlb, hlm, hnb⟩ := fit hb
  have hfs := fieldPlace_size p name
  by_cases hkc : k = 5
  · subst hkc
    rcases get_cases (V.mk 5 t x l ns) name with ⟨hpl, hg⟩ | ⟨j, hj, hpl, hg⟩
    · refine ⟨_, p, ⟨#[]⟩, 0, false, 0, ⟨#[]⟩, Nat.le_refl _, by omega, stepC_ok _ _ _ _ _ ?_, docC_of _ _ _ _ _ _ _ ?_⟩
      · intro A ca B cb T ct w B0 S ST bl ba bn bt hv hgl hT hSB hbl hbx
        obtain ⟨h1, h2, -, -⟩ := rep_strs hv
        exact step1_none _ _ _ _ _ _ _ _ _ _ _ _ _ _ _ _ _ _ _ _ _ _ hbx hk B0 S hbl _ hv hSB (by have h := maybe_none (V.mk 5 t x l ns) [.int .i64 5, .bool t, .string x, .slice A l.length ca, .slice B ns.length cb] p name w S hv (by omega) rfl (by omega) (by omega) (by simp [V.maybe, hg]); exact h)
      · intro A ca B cb T ct w S ST hv hT
        exact d1_bad _ _ _ _ _ _ _ _ _ _ _ _ _ _ _ _ _ w hk S _ hv 0 ⟨#[]⟩ fun w' hw => by
          obtain ⟨h1, h2, -, -⟩ := rep_strs (hv.agree (w' := w') (S' := S) fun b hb hlt => ⟨hw.block b hlt, hb⟩)
          exact field_doc_not t x A l ca B ns cb p 0 ⟨#[]⟩ name w' S h1 (by omega) (by omega) hpl
    · have hj' : j < l.length := hj
      by_cases hz : (l[j].kind == 0) = true
      · refine ⟨_, p, ⟨#[]⟩, 0, false, 0, ⟨#[]⟩, Nat.le_refl _, by omega, stepC_ok _ _ _ _ _ ?_, docC_of _ _ _ _ _ _ _ ?_⟩
        · intro A ca B cb T ct w B0 S ST bl ba bn bt hv hgl hT hSB hbl hbx
          obtain ⟨h1, h2, -, -⟩ := rep_strs hv
          exact step1_none _ _ _ _ _ _ _ _ _ _ _ _ _ _ _ _ _ _ _ _ _ _ hbx hk B0 S hbl _ hv hSB (by have h := maybe_none (V.mk 5 t x l ns) [.int .i64 5, .bool t, .string x, .slice A l.length ca, .slice B ns.length cb] p name w S hv (by omega) rfl (by omega) (by omega) (by simp [V.maybe, hg, V.list, hz]); exact h)
        · intro A ca B cb T ct w S ST hv hT
          exact d1_bad _ _ _ _ _ _ _ _ _ _ _ _ _ _ _ _ _ w hk S _ hv 0 ⟨#[]⟩ fun w' hw => by
            obtain ⟨h1, h2, -, -⟩ := rep_strs (hv.agree (w' := w') (S' := S) fun b hb hlt => ⟨hw.block b hlt, hb⟩)
            exact field_doc_null t x A l ca B ns cb p 0 ⟨#[]⟩ name w' S h1 h2 (by omega) (by omega) j hj' hpl hz
      · have hz' : (l[j].kind == 0) = false := by simpa using hz
        refine ⟨l[j], fieldPlace p name, ⟨#[]⟩, 0, true, 0, ⟨#[]⟩, hlm _ (List.getElem_mem hj'), by omega, stepC_ok _ _ _ _ _ ?_, docC_of _ _ _ _ _ _ _ ?_⟩
        · intro A ca B cb T ct w B0 S ST bl ba bn bt hv hgl hT hSB hbl hbx
          obtain ⟨h1, h2, -, -⟩ := rep_strs hv
          exact step1_some _ _ _ _ _ _ _ _ _ _ _ _ _ _ _ _ _ _ _ _ _ _ hbx hk B0 S hbl _ _ (by have h := maybe_some (V.mk 5 t x l ns) l[j] [.int .i64 5, .bool t, .string x, .slice A l.length ca, .slice B ns.length cb] p name w S hv (by omega) rfl (by omega) (by omega) (by simp [V.maybe, hg, V.list, hz']); exact h.mono fun e w1 ⟨cs, he, hr, hbw⟩ => ⟨cs, he, hr.agree fun b hb _ => ⟨rfl, Or.inr hb⟩, hbw⟩)
        · intro A ca B cb T ct w S ST hv hT
          exact d1_some _ _ _ _ _ _ _ _ _ _ _ _ _ _ _ _ _ w hk S _ _ fun w' hw => by
            obtain ⟨h1, h2, -, -⟩ := rep_strs (hv.agree (w' := w') (S' := fun b => S b ∧ b < w.heap.size) fun b hb hlt => ⟨hw.block b hlt, hb, hlt⟩)
            have hT' := hT.agree (w' := w') (S' := ST) fun b hb hlt => ⟨hw.block b hlt, hb⟩
            exact field_doc_some t x A l ca B ns cb p 0 ⟨#[]⟩ name false w' _ h1 h2 (by omega) (by omega) (by omega) (by omega) j hj' hpl (.inr hz')
  · have hkf : (k == 5) = false := by simpa using hkc
    refine ⟨_, p, ⟨#[]⟩, 0, false, 11, p, Nat.le_refl _, by omega, stepC_threw 11 p ?_, docC_of _ p ⟨#[]⟩ 0 false 11 p ?_⟩
    · intro A ca B cb T ct w S ST bl ba bn bt hv hgl hT hbx
      obtain ⟨h1, h2, -, -⟩ := rep_strs hv
      exact step1_threw _ _ _ _ _ _ _ _ _ _ _ _ _ _ _ _ _ _ _ _ _ _ hbx hk 11 _ (maybe_kind _ _ _ _ _ _ _ _ _ _ _ _ hkf)
    · intro A ca B cb T ct w S ST hv hT
      exact d1_bad _ _ _ _ _ _ _ _ _ _ _ _ _ _ _ _ _ w hk S _ hv 11 _ fun w' hw => by
        obtain ⟨h1, h2, -, -⟩ := rep_strs (hv.agree (w' := w') (S' := S) fun b hb hlt => ⟨hw.block b hlt, hb⟩)
        exact field_doc_kind _ _ _ _ _ _ _ _ _ _ _ _ _ _ _ hkf

theorem act2 (hb : (V.mk k t x l ns).mass ≤ 1050000) (hp : p.size ≤ 100000000) (hnm : name.size ≤ 1000) (hk : (IntKind.u64.wrap kd).tmod 9 = 2) : ActC (.mk k t x l ns) p kd n most name ts := by
  obtain ⟨hb', hx, hl, hn, hlb, hlm, hnb⟩ := fit hb
  have hfs := fieldPlace_size p name
  by_cases hkc : k = 4
  · subst hkc
    by_cases hm : most < l.length
    · refine ⟨_, p, ⟨#[]⟩, 0, false, 14, p, Nat.le_refl _, by omega, stepC_threw 14 p ?_, docC_of _ p ⟨#[]⟩ 0 false 14 p ?_⟩
      · intro A ca B cb T ct w S ST bl ba bn bt hv hgl hT hbx
        obtain ⟨h1, h2, -, -⟩ := rep_strs hv
        exact step2_threw _ _ _ _ _ _ _ _ _ _ _ _ _ _ _ _ _ _ _ _ _ _ hbx hk 14 _ (items_many _ _ _ _ _ _ _ _ _ _ _ hm)
      · intro A ca B cb T ct w S ST hv hT
        exact d2_empty _ _ _ _ _ _ _ _ _ _ _ _ _ _ _ _ _ w hk S _ hv 14 _ fun w' hw => by
          obtain ⟨h1, h2, -, -⟩ := rep_strs (hv.agree (w' := w') (S' := S) fun b hb hlt => ⟨hw.block b hlt, hb⟩)
          exact (items_doc_many t x A l.length ca B ns.length cb p 0 ⟨#[]⟩ most w' (by omega) hm).mono fun e w1 ⟨he, hb⟩ => ⟨_, _, he, hb⟩
    · by_cases h0 : l.length = 0
      · refine ⟨_, p, ⟨#[]⟩, 0, false, 0, ⟨#[]⟩, Nat.le_refl _, by omega, stepC_ok _ _ _ _ _ ?_, docC_of _ _ _ _ _ _ _ ?_⟩
        · intro A ca B cb T ct w B0 S ST bl ba bn bt hv hgl hT hSB hbl hbx
          obtain ⟨h1, h2, -, -⟩ := rep_strs hv
          exact step2_empty _ _ _ _ _ _ _ _ _ _ _ _ _ _ _ _ _ _ _ _ _ _ hbx hk B0 S hbl _ hv hSB ((items_any t x A l ca B ns.length cb p most w S hgl h2 (by omega) (by omega) (by omega)).mono fun e w1 ⟨A', c', he, hb, _, _⟩ => ⟨A', c', by rw [he, h0], hb⟩)
        · intro A ca B cb T ct w S ST hv hT
          exact d2_empty _ _ _ _ _ _ _ _ _ _ _ _ _ _ _ _ _ w hk S _ hv 0 ⟨#[]⟩ fun w' hw => by
            obtain ⟨h1, h2, -, -⟩ := rep_strs (hv.agree (w' := w') (S' := S) fun b hb hlt => ⟨hw.block b hlt, hb⟩)
            exact (items_doc_some t x A l ca B ns.length cb p 0 ⟨#[]⟩ most w' S h2 (by omega) (by omega) (by omega)).mono fun e w1 ⟨A', c', he, hb, _, _⟩ => ⟨A', c', by rw [he, h0], hb⟩
      · obtain ⟨j, hj, hjn⟩ := pick_idx n l.length h0
        have hps := itemPlace_size p j (by omega)
        refine ⟨l[j], itemPlace p j, ⟨#[]⟩, l.length, false, 0, ⟨#[]⟩, hlm _ (List.getElem_mem hj), by omega, stepC_ok _ _ _ _ _ ?_, docC_of _ _ _ _ _ _ _ ?_⟩
        · intro A ca B cb T ct w B0 S ST bl ba bn bt hv hgl hT hSB hbl hbx
          obtain ⟨h1, h2, -, -⟩ := rep_strs hv
          exact step2_pick _ _ _ _ _ _ _ _ _ _ _ _ _ _ _ _ _ _ _ _ _ _ hbx hk B0 S hbl _ _ l.length j (by omega) hj hjn ((items_any t x A l ca B ns.length cb p most w S hgl h2 (by omega) (by omega) (by omega)).mono fun e w1 ⟨A', c', he, hb, _, hor⟩ => by
            rcases hor with h | ⟨g, rfl, hg1, hg2, hall⟩
            · exact absurd (by rw [h]; rfl) h0
            · obtain ⟨cs, hrow, hrep⟩ := hall j hj
              exact ⟨g, c', cs, he, hrow, hg1, hrep.agree fun b hb' hlt => ⟨hb.block b hlt, Or.inl ⟨hb', hSB b hb'⟩⟩, hb⟩)
        · intro A ca B cb T ct w S ST hv hT
          exact d2_pick _ _ _ _ _ _ _ _ _ _ _ _ _ _ _ _ _ w hk S _ _ l.length j (by omega) hj hjn fun w' hw => by
            obtain ⟨h1, h2, -, -⟩ := rep_strs (hv.agree (w' := w') (S' := fun b => S b ∧ b < w.heap.size) fun b hb hlt => ⟨hw.block b hlt, hb, hlt⟩)
            have hT' := hT.agree (w' := w') (S' := ST) fun b hb hlt => ⟨hw.block b hlt, hb⟩
            exact (items_doc_some t x A l ca B ns.length cb p 0 ⟨#[]⟩ most w' _ h2 (by omega) (by omega) (by omega)).mono fun e w1 ⟨A', c', he, hb, _, hor⟩ => by
              rcases hor with h | ⟨g, rfl, hg1, hg2, hall⟩
              · exact absurd (by rw [h]; rfl) h0
              · obtain ⟨cs, hrow, hrep⟩ := hall j hj
                exact ⟨g, c', cs, he, hrow, hg1, hrep, hb⟩
  · have hkf : (k == 4) = false := by simpa using hkc
    refine ⟨_, p, ⟨#[]⟩, 0, false, 11, p, Nat.le_refl _, by omega, stepC_threw 11 p ?_, docC_of _ p ⟨#[]⟩ 0 false 11 p ?_⟩
    · intro A ca B cb T ct w S ST bl ba bn bt hv hgl hT hbx
      obtain ⟨h1, h2, -, -⟩ := rep_strs hv
      exact step2_threw _ _ _ _ _ _ _ _ _ _ _ _ _ _ _ _ _ _ _ _ _ _ hbx hk 11 _ (items_kind _ _ _ _ _ _ _ _ _ _ _ _ hkf)
    · intro A ca B cb T ct w S ST hv hT
      exact d2_empty _ _ _ _ _ _ _ _ _ _ _ _ _ _ _ _ _ w hk S _ hv 11 _ fun w' hw => by
        obtain ⟨h1, h2, -, -⟩ := rep_strs (hv.agree (w' := w') (S' := S) fun b hb hlt => ⟨hw.block b hlt, hb⟩)
        exact (items_doc_kind _ _ _ _ _ _ _ _ _ _ _ _ _ _ hkf).mono fun e w1 ⟨he, hb⟩ => ⟨_, _, he, hb⟩

theorem act3 (hb : (V.mk k t x l ns).mass ≤ 1050000) (hp : p.size ≤ 100000000) (hnm : name.size ≤ 1000) (hk : (IntKind.u64.wrap kd).tmod 9 = 3) : ActC (.mk k t x l ns) p kd n most name ts := by
  obtain ⟨hb', hx, hl, hn, hlb, hlm, hnb⟩ := fit hb
  have hfs := fieldPlace_size p name
  by_cases hkc : k = 5
  · subst hkc
    have hpl : ∀ j, ∀ hj : j < ns.length, (fun j => fieldPlace p (ns.getD j ⟨#[]⟩)) j = fieldPlace p ns[j] := fun j hj => by simp [hj]
    generalize hPL : (fun j => fieldPlace p (ns.getD j ⟨#[]⟩)) = PL at hpl
    obtain ⟨N, hN⟩ : ∃ N, N = min ns.length l.length := ⟨_, rfl⟩
    have hNl : N ≤ l.length := by omega
    have hNn : N ≤ ns.length := by omega
    have hnb2 : ∀ s ∈ ns, s.size ≤ 1073741824 := fun s hs => by have := hnb s hs; omega
    have hlb2 : ∀ v ∈ l, v.bulk ≤ 4194304 := fun v hv => by have := hlb v hv; omega
    by_cases h0 : N = 0
    · refine ⟨_, p, ⟨#[]⟩, 0, false, 0, ⟨#[]⟩, Nat.le_refl _, by omega, stepC_ok _ _ _ _ _ ?_, docC_of _ _ _ _ _ _ _ ?_⟩
      · intro A ca B cb T ct w B0 S ST bl ba bn bt hv hgl hT hSB hbl hbx
        obtain ⟨h1, h2, -, -⟩ := rep_strs hv
        exact step3_empty _ _ _ _ _ _ _ _ _ _ _ _ _ _ _ _ _ _ _ _ _ _ hbx hk B0 S hbl _ hv hSB ((fields_some t x A l ca B ns cb p w S N PL h1 h2 hlb2 (by omega) hnb2 (by omega) hN hpl).mono fun e w1 ⟨A', c', he, hb, _, _⟩ => ⟨A', c', by rw [he, h0], hb⟩)
      · intro A ca B cb T ct w S ST hv hT
        exact d3_empty _ _ _ _ _ _ _ _ _ _ _ _ _ _ _ _ _ w hk S _ hv 0 ⟨#[]⟩ fun w' hw => by
          obtain ⟨h1, h2, -, -⟩ := rep_strs (hv.agree (w' := w') (S' := S) fun b hb hlt => ⟨hw.block b hlt, hb⟩)
          exact (fields_doc_some t x A l ca B ns cb p 0 ⟨#[]⟩ w' S N PL h1 h2 (by omega) (by omega) hnb2 (by omega) hN hpl).mono fun e w1 ⟨A', c', he, hb, _, _⟩ => ⟨A', c', by rw [he, h0], hb⟩
    · obtain ⟨j, hj, hjn⟩ := pick_idx n N h0
      have hjl : j < l.length := by omega
      have hjm : j < ns.length := by omega
      have hjt : j < (l.take N).length := by simp; omega
      have hgt : (l.take N)[j] = l[j] := by simp
      have hps := fieldPlace_size p ns[j]
      have hns := hnb ns[j] (List.getElem_mem hjm)
      refine ⟨l[j], PL j, ⟨#[]⟩, N, false, 0, ⟨#[]⟩, hlm _ (List.getElem_mem hjl), by rw [hpl j hjm]; omega, stepC_ok _ _ _ _ _ ?_, docC_of _ _ _ _ _ _ _ ?_⟩
      · intro A ca B cb T ct w B0 S ST bl ba bn bt hv hgl hT hSB hbl hbx
        obtain ⟨h1, h2, -, -⟩ := rep_strs hv
        exact step3_pick _ _ _ _ _ _ _ _ _ _ _ _ _ _ _ _ _ _ _ _ _ _ hbx hk B0 S hbl _ _ N j (by omega) hj hjn ((fields_some t x A l ca B ns cb p w S N PL h1 h2 hlb2 (by omega) hnb2 (by omega) hN hpl).mono fun e w1 ⟨A', c', he, hb, _, hor⟩ => by
          rcases hor with h | ⟨g, rfl, hg1, hg2, hall⟩
          · exact absurd hjt (by rw [h]; simp)
          · obtain ⟨cs, hrow, hrep⟩ := hall j hjt
            rw [hgt] at hrep
            exact ⟨g, c', cs, he, hrow, hg1, hrep.agree fun b hb' hlt => ⟨rfl, Or.inr hb'⟩, hb⟩)
      · intro A ca B cb T ct w S ST hv hT
        exact d3_pick _ _ _ _ _ _ _ _ _ _ _ _ _ _ _ _ _ w hk S _ _ N j (by omega) hj hjn fun w' hw => by
          obtain ⟨h1, h2, -, -⟩ := rep_strs (hv.agree (w' := w') (S' := fun b => S b ∧ b < w.heap.size) fun b hb hlt => ⟨hw.block b hlt, hb, hlt⟩)
          have hT' := hT.agree (w' := w') (S' := ST) fun b hb hlt => ⟨hw.block b hlt, hb⟩
          exact (fields_doc_some t x A l ca B ns cb p 0 ⟨#[]⟩ w' _ N PL h1 h2 (by omega) (by omega) hnb2 (by omega) hN hpl).mono fun e w1 ⟨A', c', he, hb, _, hor⟩ => by
            rcases hor with h | ⟨g, rfl, hg1, hg2, hall⟩
            · exact absurd hjt (by rw [h]; simp)
            · obtain ⟨cs, hrow, hrep⟩ := hall j hjt
              rw [hgt] at hrep
              exact ⟨g, c', cs, he, hrow, hg1, hrep, hb⟩
  · have hkf : (k == 5) = false := by simpa using hkc
    refine ⟨_, p, ⟨#[]⟩, 0, false, 11, p, Nat.le_refl _, by omega, stepC_threw 11 p ?_, docC_of _ p ⟨#[]⟩ 0 false 11 p ?_⟩
    · intro A ca B cb T ct w S ST bl ba bn bt hv hgl hT hbx
      obtain ⟨h1, h2, -, -⟩ := rep_strs hv
      exact step3_threw _ _ _ _ _ _ _ _ _ _ _ _ _ _ _ _ _ _ _ _ _ _ hbx hk 11 _ (fields_kind _ _ _ _ _ _ _ _ _ _ _ hkf)
    · intro A ca B cb T ct w S ST hv hT
      exact d3_empty _ _ _ _ _ _ _ _ _ _ _ _ _ _ _ _ _ w hk S _ hv 11 _ fun w' hw => by
        obtain ⟨h1, h2, -, -⟩ := rep_strs (hv.agree (w' := w') (S' := S) fun b hb hlt => ⟨hw.block b hlt, hb⟩)
        exact (fields_doc_kind _ _ _ _ _ _ _ _ _ _ _ _ _ hkf).mono fun e w1 ⟨he, hb⟩ => ⟨_, _, he, hb⟩

theorem act4 (hb : (V.mk k t x l ns).mass ≤ 1050000) (hp : p.size ≤ 100000000) (hnm : name.size ≤ 1000) (hk : (IntKind.u64.wrap kd).tmod 9 = 4) : ActC (.mk k t x l ns) p kd n most name ts := by
  obtain ⟨hb', hx, hl, hn, hlb, hlm, hnb⟩ := fit hb
  have hfs := fieldPlace_size p name
  by_cases hkc : k = 3
  · subst hkc
    by_cases hm : most < x.size
    · refine ⟨_, p, ⟨#[]⟩, 0, false, 3, p, Nat.le_refl _, by omega, stepC_threw 3 p ?_, docC_of _ p ⟨#[]⟩ 0 false 3 p ?_⟩
      · intro A ca B cb T ct w S ST bl ba bn bt hv hgl hT hbx
        obtain ⟨h1, h2, -, -⟩ := rep_strs hv
        exact step4_threw _ _ _ _ _ _ _ _ _ _ _ _ _ _ _ _ _ _ _ _ _ _ hbx hk 3 _ (text_long _ _ _ _ _ _ _ _ _ _ _ (by omega) hm)
      · intro A ca B cb T ct w S ST hv hT
        exact d4_any _ _ _ _ _ _ _ _ _ _ _ _ _ _ _ _ _ w hk S _ hv 3 _ ⟨#[]⟩ fun w' hw => by
          have hT' := hT.agree (w' := w') (S' := ST) fun b hb hlt => ⟨hw.block b hlt, hb⟩
          exact text_doc_long _ _ _ _ _ _ _ _ _ _ _ _ _ (by omega) hm
    · refine ⟨_, p, x, 0, false, 0, ⟨#[]⟩, Nat.le_refl _, by omega, stepC_ok _ _ _ _ _ ?_, docC_of _ _ _ _ _ _ _ ?_⟩
      · intro A ca B cb T ct w B0 S ST bl ba bn bt hv hgl hT hSB hbl hbx
        obtain ⟨h1, h2, -, -⟩ := rep_strs hv
        exact step4_ok _ _ _ _ _ _ _ _ _ _ _ _ _ _ _ _ _ _ _ _ _ _ hbx hk B0 S hbl _ hv hSB x (text_some _ _ _ _ _ _ _ _ _ _ _ (by omega) (by omega))
      · intro A ca B cb T ct w S ST hv hT
        exact d4_any _ _ _ _ _ _ _ _ _ _ _ _ _ _ _ _ _ w hk S _ hv 0 ⟨#[]⟩ x fun w' hw => by
          have hT' := hT.agree (w' := w') (S' := ST) fun b hb hlt => ⟨hw.block b hlt, hb⟩
          exact text_doc_some _ _ _ _ _ _ _ _ _ _ _ _ _ (by omega) (by omega)
  · have hkf : (k == 3) = false := by simpa using hkc
    refine ⟨_, p, ⟨#[]⟩, 0, false, 11, p, Nat.le_refl _, by omega, stepC_threw 11 p ?_, docC_of _ p ⟨#[]⟩ 0 false 11 p ?_⟩
    · intro A ca B cb T ct w S ST bl ba bn bt hv hgl hT hbx
      obtain ⟨h1, h2, -, -⟩ := rep_strs hv
      exact step4_threw _ _ _ _ _ _ _ _ _ _ _ _ _ _ _ _ _ _ _ _ _ _ hbx hk 11 _ (text_kind _ _ _ _ _ _ _ _ _ _ _ _ hkf)
    · intro A ca B cb T ct w S ST hv hT
      exact d4_any _ _ _ _ _ _ _ _ _ _ _ _ _ _ _ _ _ w hk S _ hv 11 _ ⟨#[]⟩ fun w' hw => by
        have hT' := hT.agree (w' := w') (S' := ST) fun b hb hlt => ⟨hw.block b hlt, hb⟩
        exact text_doc_kind _ _ _ _ _ _ _ _ _ _ _ _ _ _ hkf

theorem act5 (hb : (V.mk k t x l ns).mass ≤ 1050000) (hp : p.size ≤ 100000000) (hnm : name.size ≤ 1000) (hts : ts.length ≤ 8388608) (hk : (IntKind.u64.wrap kd).tmod 9 = 5) : ActC (.mk k t x l ns) p kd n most name ts := by
  obtain ⟨hb', hx, hl, hn, hlb, hlm, hnb⟩ := fit hb
  have hfs := fieldPlace_size p name
  by_cases hkc : k = 3
  · subst hkc
    by_cases hm : Lib.containsS ts x = true
    · refine ⟨_, p, x, 0, false, 0, ⟨#[]⟩, Nat.le_refl _, by omega, stepC_ok _ _ _ _ _ ?_, docC_of _ _ _ _ _ _ _ ?_⟩
      · intro A ca B cb T ct w B0 S ST bl ba bn bt hv hgl hT hSB hbl hbx
        obtain ⟨h1, h2, -, -⟩ := rep_strs hv
        exact step5_ok _ _ _ _ _ _ _ _ _ _ _ _ _ _ _ _ _ _ _ _ _ _ hbx hk B0 S hbl _ hv hSB x (one_yes _ _ _ _ _ _ _ _ _ _ _ _ _ ST hT hts hm)
      · intro A ca B cb T ct w S ST hv hT
        exact d5_any _ _ _ _ _ _ _ _ _ _ _ _ _ _ _ _ _ w hk S _ hv 0 ⟨#[]⟩ x fun w' hw => by
          have hT' := hT.agree (w' := w') (S' := ST) fun b hb hlt => ⟨hw.block b hlt, hb⟩
          exact (one_doc_yes t x A l.length ca B ns.length cb p 0 ⟨#[]⟩ T ts ct w' ST hT' hts (by omega)).mono fun e w1 ⟨he, hb⟩ => ⟨by rw [he, if_pos hm], hb⟩
    · have hm' : Lib.containsS ts x = false := by simpa using hm
      refine ⟨_, p, ⟨#[]⟩, 0, false, 2, p, Nat.le_refl _, by omega, stepC_threw 2 p ?_, docC_of _ p ⟨#[]⟩ 0 false 2 p ?_⟩
      · intro A ca B cb T ct w S ST bl ba bn bt hv hgl hT hbx
        obtain ⟨h1, h2, -, -⟩ := rep_strs hv
        exact step5_threw _ _ _ _ _ _ _ _ _ _ _ _ _ _ _ _ _ _ _ _ _ _ hbx hk 2 _ (one_no _ _ _ _ _ _ _ _ _ _ _ _ _ ST hT hts hm')
      · intro A ca B cb T ct w S ST hv hT
        exact d5_any _ _ _ _ _ _ _ _ _ _ _ _ _ _ _ _ _ w hk S _ hv 2 _ ⟨#[]⟩ fun w' hw => by
          have hT' := hT.agree (w' := w') (S' := ST) fun b hb hlt => ⟨hw.block b hlt, hb⟩
          exact (one_doc_yes t x A l.length ca B ns.length cb p 0 ⟨#[]⟩ T ts ct w' ST hT' hts (by omega)).mono fun e w1 ⟨he, hb⟩ => ⟨by rw [he, if_neg hm], hb⟩
  · have hkf : (k == 3) = false := by simpa using hkc
    refine ⟨_, p, ⟨#[]⟩, 0, false, 11, p, Nat.le_refl _, by omega, stepC_threw 11 p ?_, docC_of _ p ⟨#[]⟩ 0 false 11 p ?_⟩
    · intro A ca B cb T ct w S ST bl ba bn bt hv hgl hT hbx
      obtain ⟨h1, h2, -, -⟩ := rep_strs hv
      exact step5_threw _ _ _ _ _ _ _ _ _ _ _ _ _ _ _ _ _ _ _ _ _ _ hbx hk 11 _ (one_kind _ _ _ _ _ _ _ _ _ _ _ _ hkf)
    · intro A ca B cb T ct w S ST hv hT
      exact d5_any _ _ _ _ _ _ _ _ _ _ _ _ _ _ _ _ _ w hk S _ hv 11 _ ⟨#[]⟩ fun w' hw => by
        have hT' := hT.agree (w' := w') (S' := ST) fun b hb hlt => ⟨hw.block b hlt, hb⟩
        exact one_doc_kind _ _ _ _ _ _ _ _ _ _ _ _ _ _ hkf

theorem act6 (hb : (V.mk k t x l ns).mass ≤ 1050000) (hp : p.size ≤ 100000000) (hnm : name.size ≤ 1000) (hk : (IntKind.u64.wrap kd).tmod 9 = 6) : ActC (.mk k t x l ns) p kd n most name ts := by
  obtain ⟨hb', hx, hl, hn, hlb, hlm, hnb⟩ := fit hb
  have hfs := fieldPlace_size p name
  by_cases hkc : k = 1
  · subst hkc
    refine ⟨_, p, ⟨#[]⟩, 0, t, 0, ⟨#[]⟩, Nat.le_refl _, by omega, stepC_ok _ _ _ _ _ ?_, docC_of _ _ _ _ _ _ _ ?_⟩
    · intro A ca B cb T ct w B0 S ST bl ba bn bt hv hgl hT hSB hbl hbx
      obtain ⟨h1, h2, -, -⟩ := rep_strs hv
      exact step6_ok _ _ _ _ _ _ _ _ _ _ _ _ _ _ _ _ _ _ _ _ _ _ hbx hk B0 S hbl _ hv hSB t (bool_some _ _ _ _ _ _ _ _ _ _)
    · intro A ca B cb T ct w S ST hv hT
      cases t
      · exact d6_yes_false _ _ _ _ _ _ _ _ _ _ _ _ _ _ _ _ _ w hk S _ hv rfl rfl
      · exact d6_yes_true _ _ _ _ _ _ _ _ _ _ _ _ _ _ _ _ _ w hk S _ hv rfl rfl
  · have hkf : (k == 1) = false := by simpa using hkc
    refine ⟨_, p, ⟨#[]⟩, 0, false, 11, p, Nat.le_refl _, by omega, stepC_threw 11 p ?_, docC_of _ p ⟨#[]⟩ 0 false 11 p ?_⟩
    · intro A ca B cb T ct w S ST bl ba bn bt hv hgl hT hbx
      obtain ⟨h1, h2, -, -⟩ := rep_strs hv
      exact step6_threw _ _ _ _ _ _ _ _ _ _ _ _ _ _ _ _ _ _ _ _ _ _ hbx hk 11 _ (bool_kind _ _ _ _ _ _ _ _ _ _ _ hkf)
    · intro A ca B cb T ct w S ST hv hT
      cases t
      · exact d6_no_false _ _ _ _ _ _ _ _ _ _ _ _ _ _ _ _ _ w hk S _ hv rfl hkf
      · exact d6_no_true _ _ _ _ _ _ _ _ _ _ _ _ _ _ _ _ _ w hk S _ hv rfl hkf

theorem act7 (hb : (V.mk k t x l ns).mass ≤ 1050000) (hp : p.size ≤ 100000000) (hnm : name.size ≤ 1000) (hk : (IntKind.u64.wrap kd).tmod 9 = 7) : ActC (.mk k t x l ns) p kd n most name ts := by
  obtain ⟨hb', hx, hl, hn, hlb, hlm, hnb⟩ := fit hb
  have hfs := fieldPlace_size p name
  by_cases hkc : k = 2
  · subst hkc
    cases hwn : wholeN x.data.toList with
    | error c =>
      by_cases hc : c = 1
      · subst hc
        refine ⟨_, p, ⟨#[]⟩, 0, false, 1, p, Nat.le_refl _, by omega, stepC_threw 1 p ?_, docC_of _ p ⟨#[]⟩ 0 false 1 p ?_⟩
        · intro A ca B cb T ct w S ST bl ba bn bt hv hgl hT hbx
          obtain ⟨h1, h2, -, -⟩ := rep_strs hv
          exact step7_threw _ _ _ _ _ _ _ _ _ _ _ _ _ _ _ _ _ _ _ _ _ _ hbx hk 1 _ (lwhole_range _ _ _ _ _ _ _ _ _ _ _ _ hgl (by omega) hwn)
        · intro A ca B cb T ct w S ST hv hT
          exact d7_any _ _ _ _ _ _ _ _ _ _ _ _ _ _ _ _ _ w hk S _ hv 1 _ 0 fun w' hw => by
            have hT' := hT.agree (w' := w') (S' := ST) fun b hb hlt => ⟨hw.block b hlt, hb⟩
            exact whole_doc_range t x A l.length ca B ns.length cb p 0 ⟨#[]⟩ n most w' (by omega) hwn
      · have hcc : c = 2 ∨ c = 3 ∨ c = 11 := by rcases wholeN_codes _ _ hwn with h | h | h | h <;> omega
        refine ⟨_, p, ⟨#[]⟩, 0, false, 11, p, Nat.le_refl _, by omega, stepC_threw 11 p ?_, docC_of _ p ⟨#[]⟩ 0 false 11 p ?_⟩
        · intro A ca B cb T ct w S ST bl ba bn bt hv hgl hT hbx
          obtain ⟨h1, h2, -, -⟩ := rep_strs hv
          exact step7_threw _ _ _ _ _ _ _ _ _ _ _ _ _ _ _ _ _ _ _ _ _ _ hbx hk 11 _ (lwhole_form _ _ _ _ _ _ _ _ _ _ _ _ hgl (by omega) c hcc hwn)
        · intro A ca B cb T ct w S ST hv hT
          exact d7_any _ _ _ _ _ _ _ _ _ _ _ _ _ _ _ _ _ w hk S _ hv 11 _ 0 fun w' hw => by
            have hT' := hT.agree (w' := w') (S' := ST) fun b hb hlt => ⟨hw.block b hlt, hb⟩
            exact whole_doc_form t x A l.length ca B ns.length cb p 0 ⟨#[]⟩ n most w' (by omega) c hcc hwn
    | ok q =>
      by_cases ho : q < n ∨ most < q
      · refine ⟨_, p, ⟨#[]⟩, 0, false, 1, p, Nat.le_refl _, by omega, stepC_threw 1 p ?_, docC_of _ p ⟨#[]⟩ 0 false 1 p ?_⟩
        · intro A ca B cb T ct w S ST bl ba bn bt hv hgl hT hbx
          obtain ⟨h1, h2, -, -⟩ := rep_strs hv
          exact step7_threw _ _ _ _ _ _ _ _ _ _ _ _ _ _ _ _ _ _ _ _ _ _ hbx hk 1 _ (lwhole_out _ _ _ _ _ _ _ _ _ _ _ q _ hgl (by omega) hwn ho)
        · intro A ca B cb T ct w S ST hv hT
          exact d7_any _ _ _ _ _ _ _ _ _ _ _ _ _ _ _ _ _ w hk S _ hv 1 _ 0 fun w' hw => by
            have hT' := hT.agree (w' := w') (S' := ST) fun b hb hlt => ⟨hw.block b hlt, hb⟩
            exact whole_doc_out t x A l.length ca B ns.length cb p 0 ⟨#[]⟩ n most w' (by omega) q hwn ho
      · refine ⟨_, p, ⟨#[]⟩, q, false, 0, ⟨#[]⟩, Nat.le_refl _, by omega, stepC_ok _ _ _ _ _ ?_, docC_of _ _ _ _ _ _ _ ?_⟩
        · intro A ca B cb T ct w B0 S ST bl ba bn bt hv hgl hT hSB hbl hbx
          obtain ⟨h1, h2, -, -⟩ := rep_strs hv
          exact step7_ok _ _ _ _ _ _ _ _ _ _ _ _ _ _ _ _ _ _ _ _ _ _ hbx hk B0 S hbl _ hv hSB q (lwhole_in _ _ _ _ _ _ _ _ _ _ _ q _ hgl (by omega) hwn (by omega) (by omega))
        · intro A ca B cb T ct w S ST hv hT
          exact d7_any _ _ _ _ _ _ _ _ _ _ _ _ _ _ _ _ _ w hk S _ hv 0 ⟨#[]⟩ q fun w' hw => by
            have hT' := hT.agree (w' := w') (S' := ST) fun b hb hlt => ⟨hw.block b hlt, hb⟩
            exact whole_doc_in t x A l.length ca B ns.length cb p 0 ⟨#[]⟩ n most w' (by omega) q hwn (by omega) (by omega)
  · have hkf : (k == 2) = false := by simpa using hkc
    refine ⟨_, p, ⟨#[]⟩, 0, false, 11, p, Nat.le_refl _, by omega, stepC_threw 11 p ?_, docC_of _ p ⟨#[]⟩ 0 false 11 p ?_⟩
    · intro A ca B cb T ct w S ST bl ba bn bt hv hgl hT hbx
      obtain ⟨h1, h2, -, -⟩ := rep_strs hv
      exact step7_threw _ _ _ _ _ _ _ _ _ _ _ _ _ _ _ _ _ _ _ _ _ _ hbx hk 11 _ (lwhole_kind _ _ _ _ _ _ _ _ _ _ _ _ _ hkf)
    · intro A ca B cb T ct w S ST hv hT
      exact d7_any _ _ _ _ _ _ _ _ _ _ _ _ _ _ _ _ _ w hk S _ hv 11 _ 0 fun w' hw => by
        have hT' := hT.agree (w' := w') (S' := ST) fun b hb hlt => ⟨hw.block b hlt, hb⟩
        exact whole_doc_kind _ _ _ _ _ _ _ _ _ _ _ _ _ _ _ hkf

theorem act8 (hb : (V.mk k t x l ns).mass ≤ 1050000) (hp : p.size ≤ 100000000) (hnm : name.size ≤ 1000) (hk : (IntKind.u64.wrap kd).tmod 9 = 8) : ActC (.mk k t x l ns) p kd n most name ts := by
  refine ⟨_, p, ⟨#[]⟩, 0, false, 15, p, Nat.le_refl _, by omega, stepC_threw 15 p ?_, docC_of _ p ⟨#[]⟩ 0 false 15 p ?_⟩
  · intro A ca B cb T ct w S ST bl ba bn bt hv hgl hT hbx
    exact step8_threw _ _ _ _ _ _ _ _ _ _ _ _ _ _ _ _ _ _ _ _ _ _ hbx hk 15 _ (wrong_any _ _ _ _ _ _ _ _ _ _ _ _)
  · intro A ca B cb T ct w S ST hv hT
    exact d8_any _ _ _ _ _ _ _ _ _ _ _ _ _ _ _ _ _ w hk S _ hv

theorem act_any (hb : (V.mk k t x l ns).mass ≤ 1050000) (hp : p.size ≤ 100000000) (hnm : name.size ≤ 1000) (hts : ts.length ≤ 8388608) : ActC (.mk k t x l ns) p kd n most name ts := by
  have h0 := wrap64_nonneg kd
  have h1 := Int.tmod_lt_of_pos (IntKind.u64.wrap kd) (show (0 : Int) < 9 by decide)
  have h2 := Int.tmod_nonneg 9 h0
  obtain h | h | h | h | h | h | h | h | h : (IntKind.u64.wrap kd).tmod 9 = 0 ∨ (IntKind.u64.wrap kd).tmod 9 = 1 ∨ (IntKind.u64.wrap kd).tmod 9 = 2 ∨ (IntKind.u64.wrap kd).tmod 9 = 3 ∨ (IntKind.u64.wrap kd).tmod 9 = 4 ∨ (IntKind.u64.wrap kd).tmod 9 = 5 ∨ (IntKind.u64.wrap kd).tmod 9 = 6 ∨ (IntKind.u64.wrap kd).tmod 9 = 7 ∨ (IntKind.u64.wrap kd).tmod 9 = 8 := by omega
  · exact act0 hb hp hnm h
  · exact act1 hb hp hnm h
  · exact act2 hb hp hnm h
  · exact act3 hb hp hnm h
  · exact act4 hb hp hnm h
  · exact act5 hb hp hnm hts h
  · exact act6 hb hp hnm h
  · exact act7 hb hp hnm h
  · exact act8 hb hp hnm h
end

end Go.Proofs.YtoimjnmhinfbkaaGreatDoor
