import Derived.Test.YtoimjnmhinfbkaaGreatDoorMh
namespace Go.Proofs.YtoimjnmhinfbkaaGreatDoor
open Go.RowKit
set_option maxRecDepth 100000

/-! ### what looks answer, as plain functions: an answer, or a code at a place -/
def fieldA (v : V) (p name : ByteArray) : Except (Int × ByteArray) V :=
  if (v.kind == 5) = true then (match v.get name with | some u => .ok u | none => .error (4, fieldPlace p name)) else .error (11, p)
def textA (u : V) (p : ByteArray) (most : Int) : Except (Int × ByteArray) ByteArray :=
  if (u.kind == 3) = true then (if (u.text.size : Int) ≤ most then .ok u.text else .error (3, p)) else .error (11, p)
def wholeA (u : V) (p : ByteArray) (least most : Int) : Except (Int × ByteArray) Int :=
  if (u.kind == 2) = true then (match wholeN u.text.data.toList with | .ok q => if least ≤ q ∧ q ≤ most then .ok q else .error (1, p) | .error c => if c = 1 then .error (1, p) else .error (11, p)) else .error (11, p)
def maybeA (v : V) (p name : ByteArray) : Except (Int × ByteArray) (Option V) :=
  if (v.kind == 5) = true then .ok (v.maybe name) else .error (11, p)
def filledA (v : V) (p name : ByteArray) (most : Int) : Except (Int × ByteArray) ByteArray :=
  match fieldA v p name with
  | .error b => .error b
  | .ok u => match textA u (fieldPlace p name) most with
    | .error b => .error b
    | .ok s => if s.toList = [] then .error (9, fieldPlace p name) else .ok s

theorem V.get_bulk {v u : V} {name : ByteArray} (h : v.get name = some u) : u.bulk ≤ v.bulk := by
  unfold V.get at h
  split at h
  · cases h
  · have := V.bulks_mem (List.mem_of_getElem? h)
    cases v
    simp only [V.bulk, V.list] at this ⊢
    omega
theorem V.maybe_get {v u : V} {name : ByteArray} (h : v.maybe name = some u) : v.get name = some u := by
  unfold V.maybe at h
  split at h
  · split at h
    · cases h
    · rename_i h1 _
      rw [← h]; exact h1
  · cases h
theorem V.text_bulk (v : V) : v.text.size ≤ v.bulk := by
  cases v; simp only [V.bulk, V.text]; omega
theorem fieldA_ok {v u : V} {p name : ByteArray} (h : fieldA v p name = .ok u) : v.kind = 5 ∧ v.get name = some u := by
  unfold fieldA at h
  split at h
  · rename_i hk
    refine ⟨by simpa using hk, ?_⟩
    split at h
    · rename_i u' hu
      injection h with h
      rw [hu, h]
    · cases h
  · cases h
theorem fieldPlace_size (p name : ByteArray) : (fieldPlace p name).size ≤ p.size + 1 + name.size := by
  unfold fieldPlace
  split
  · omega
  · simp [ByteArray.size_append]; exact Nat.le_refl _

/-- what a look's function does: it returns something of x, or throws. -/
def AnsL {α : Type} (w : World) (f : α → World → Value → Prop) (r : Except (Int × ByteArray) α) (e : Ending) (w' : World) : Prop :=
  match r with
  | .ok x => ∃ val, e = .returned val ∧ f x w' val ∧ Below w.heap.size w w'
  | .error b => Threw w b.1 b.2 e w'

theorem AnsL.ok {α : Type} {w : World} {f : α → World → Value → Prop} {r : Except (Int × ByteArray) α} {w' : World} (x : α) (val : Value) (hr : r = .ok x) (hf : f x w' val) (hb : Below w.heap.size w w') : AnsL w f r (.returned val) w' := by
  subst hr; exact ⟨val, rfl, hf, hb⟩
theorem AnsL.bad {α : Type} {w : World} {f : α → World → Value → Prop} {r : Except (Int × ByteArray) α} {e : Ending} {w' : World} (c : Int) (p : ByteArray) (hr : r = .error (c, p)) (h : Threw w c p e w') : AnsL w f r e w' := by
  subst hr; exact h

def LookV (w : World) (p : ByteArray) (u : V) (w' : World) (val : Value) : Prop := ∃ cs, val = .agg (cs ++ [Value.string p]).toArray ∧ u.Rep w' (fun b => w.heap.size ≤ b ∧ b < w'.heap.size) cs
def IsStr (s : ByteArray) (_ : World) (val : Value) : Prop := val = .string s
def IsInt (q : Int) (_ : World) (val : Value) : Prop := val = .int .i64 q

theorem lfield_any (v : V) (cs : List Value) (p name : ByteArray) (w : World) (S : Nat → Prop) (hv : v.Rep w S cs) (hb : v.bulk ≤ 4194304) (hp : p.size ≤ 1073741824) (hn : name.size ≤ 1073741824) :
    Calls Tryz.prog 47 #[.agg (cs ++ [Value.string p]).toArray, .string name] w (AnsL w (LookV w (fieldPlace p name)) (fieldA v p name)) := by
  by_cases hk : (v.kind == 5) = true
  · have hk5 : v.kind = 5 := by simpa using hk
    cases hg : v.get name with
    | none =>
      exact (lfield_none v cs p name w S hv hb hk5 hp hn hg).mono fun e w' h => AnsL.bad 4 _ (by simp only [fieldA, hk, hg, if_true]) h
    | some u =>
      exact (lfield_some v u cs p name w S hv hb hk5 hp hn hg).mono fun e w' ⟨cs', he, hr, hbw⟩ => by
        subst he
        exact AnsL.ok u _ (by simp only [fieldA, hk, hg, if_true]) ⟨cs', rfl, hr⟩ hbw
  · have hk' : (v.kind == 5) = false := by simpa using hk
    obtain ⟨A, ca, B, cb, rfl, -⟩ := hv.open
    exact (lfield_kind _ _ _ _ _ _ _ _ _ p name w hk').mono fun e w' h => AnsL.bad 11 _ (by simp [fieldA, hk']) h

theorem ltext_any (u : V) (A : Option Addr) (n ca : Nat) (B : Option Addr) (m cb : Nat) (p : ByteArray) (most : Int) (w : World) (hb : u.bulk ≤ 4194304) :
    Calls Tryz.prog 59 #[.agg #[.int .i64 u.kind, .bool u.tr, .string u.text, .slice A n ca, .slice B m cb, .string p], .int .i64 most] w (AnsL w IsStr (textA u p most)) := by
  have hl : u.text.size ≤ 1073741824 := by have := u.text_bulk; omega
  by_cases hk : (u.kind == 3) = true
  · have hk3 : u.kind = 3 := by simpa using hk
    rw [hk3]
    by_cases hm : (u.text.size : Int) ≤ most
    · exact (text_some _ _ _ _ _ _ _ _ p most w hl hm).mono fun e w' ⟨he, hbw⟩ => by
        subst he
        exact AnsL.ok u.text _ (by simp only [textA, hk, if_true, if_pos hm]) rfl hbw
    · exact (text_long _ _ _ _ _ _ _ _ p most w hl (by omega)).mono fun e w' h => AnsL.bad 3 _ (by simp only [textA, hk, if_true, if_neg hm]) h
  · have hk' : (u.kind == 3) = false := by simpa using hk
    exact (text_kind _ _ _ _ _ _ _ _ _ p most w hk').mono fun e w' h => AnsL.bad 11 _ (by simp [textA, hk']) h

theorem lwhole_any (u : V) (A : Option Addr) (n ca : Nat) (B : Option Addr) (m cb : Nat) (p : ByteArray) (least most : Int) (w : World) (hg : Glob w) (hb : u.bulk ≤ 4194304) :
    Calls Tryz.prog 13 #[.agg #[.int .i64 u.kind, .bool u.tr, .string u.text, .slice A n ca, .slice B m cb, .string p], .int .i64 least, .int .i64 most] w (AnsL w IsInt (wholeA u p least most)) := by
  have hl : u.text.size ≤ 1073741824 := by have := u.text_bulk; omega
  by_cases hk : (u.kind == 2) = true
  · have hk2 : u.kind = 2 := by simpa using hk
    rw [hk2]
    cases hw : wholeN u.text.data.toList with
    | ok q =>
      by_cases hm : least ≤ q ∧ q ≤ most
      · exact (lwhole_in _ _ _ _ _ _ _ _ p least most q w hg hl hw hm.1 hm.2).mono fun e w' ⟨he, hbw⟩ => by
          subst he
          exact AnsL.ok q _ (by simp only [wholeA, hk, hw, if_true, if_pos hm]) rfl hbw
      · exact (lwhole_out _ _ _ _ _ _ _ _ p least most q w hg hl hw (by omega)).mono fun e w' h => AnsL.bad 1 _ (by simp only [wholeA, hk, hw, if_true, if_neg hm]) h
    | error c =>
      rcases wholeN_codes _ _ hw with rfl | hc
      · exact (lwhole_range _ _ _ _ _ _ _ _ p least most w hg hl hw).mono fun e w' h => AnsL.bad 1 _ (by simp [wholeA, hk, hw]) h
      · exact (lwhole_form _ _ _ _ _ _ _ _ p least most w hg hl c hc hw).mono fun e w' h => AnsL.bad 11 _ (by have : c ≠ 1 := (by omega); simp [wholeA, hk, hw, this]) h
  · have hk' : (u.kind == 2) = false := by simpa using hk
    exact (lwhole_kind _ _ _ _ _ _ _ _ _ p least most w hk').mono fun e w' h => AnsL.bad 11 _ (by simp [wholeA, hk']) h

set_option maxHeartbeats 800000 in
theorem filled_any (v : V) (cs : List Value) (p name : ByteArray) (most : Int) (w : World) (S : Nat → Prop) (hv : v.Rep w S cs) (hb : v.bulk ≤ 4194304) (hp : p.size ≤ 1000000) (hn : name.size ≤ 1000000) :
    Calls Tryz.prog 73 #[.agg (cs ++ [Value.string p]).toArray, .string name, .int .i64 most] w (AnsL w IsStr (filledA v p name most)) := by
  generalize hr : filledA v p name most = r
  have HR := Lib.hid hr
  have HV := Lib.hid hv
  obtain ⟨A, ca, B, cb, rfl, -⟩ := hv.open
  clear hr hv
  simp only [List.cons_append, List.nil_append]
  go_enter Tryz.func73, Tryz.ntmps73
  go_wp2_with fail
  refine (lfield_any v [.int .i64 v.kind, .bool v.tr, .string v.text, .slice A v.list.length ca, .slice B v.names.length cb] p name _ S (HV.out.agree fun b hb hlt => ⟨below_agree ((Below.refl _ _).alloc (Nat.le_refl _) _) b hlt, hb⟩) hb (by omega) (by omega)).mono ?_
  rintro e w1 h1
  cases hf : fieldA v p name with
  | error b =>
    rw [hf] at h1
    obtain ⟨c, q⟩ := b
    have HR2 := Lib.hid (show r = .error (c, q) by rw [← HR.out]; simp only [filledA, hf])
    obtain ⟨g, rfl, hth⟩ := h1
    clear hf
    go_wp2
    exact ⟨rfl, AnsL.bad c q HR2.out (Threw.of ⟨g, rfl, hth⟩ ((Below.refl _ _).alloc (Nat.le_refl _) _))⟩
  | ok u =>
    rw [hf] at h1
    obtain ⟨val, rfl, ⟨cs1, rfl, hrep1⟩, hb1⟩ := h1
    have hub : u.bulk ≤ 4194304 := by have := V.get_bulk (fieldA_ok hf).2; omega
    obtain ⟨A1, ca1, B1, cb1, rfl, -⟩ := hrep1.open
    have HF := Lib.hid hf
    have hz1 : w.heap.size < w1.heap.size := by have := hb1.size; simp at this; omega
    have HB1 := Lib.hid hb1
    clear hf hrep1 hb1
    go_wp2_with fail
    refine (ltext_any u A1 _ ca1 B1 _ cb1 (fieldPlace p name) most _ hub).mono ?_
    rintro e w2 h2
    cases ht : textA u (fieldPlace p name) most with
    | error b =>
      rw [ht] at h2
      obtain ⟨c, q⟩ := b
      have HR2 := Lib.hid (show r = .error (c, q) by rw [← HR.out]; simp only [filledA, HF.out, ht])
      obtain ⟨g, rfl, hth⟩ := h2
      clear ht
      go_wp2
      exact ⟨rfl, AnsL.bad c q HR2.out (Threw.of ⟨g, rfl, hth⟩ ((((Below.refl _ _).alloc (Nat.le_refl _) _).trans (HB1.out.mono (by simp))).alloc (by omega) _))⟩
    | ok s =>
      rw [ht] at h2
      obtain ⟨val, rfl, rfl, hb2⟩ := h2
      obtain ⟨hc2, hf2⟩ := bcell hb2
      have hz2 : w1.heap.size < w2.heap.size := by have := hb2.size; simp at this; omega
      by_cases hs : s.toList = []
      · have HR2 := Lib.hid (show r = .error (9, fieldPlace p name) by rw [← HR.out]; simp only [filledA, HF.out, ht, if_pos hs])
        clear ht
        go_wp2_with fail
        refine (wrong_any _ _ _ _ _ _ _ _ _ _ _ _).mono ?_
        rintro e w3 ⟨g, rfl, hth⟩
        go_wp2
        exact ⟨rfl, AnsL.bad _ _ HR2.out (Threw.of ⟨g, rfl, hth⟩ (((((Below.refl _ _).alloc (Nat.le_refl _) _).trans (HB1.out.mono (by simp))).alloc (by omega) _).trans (hb2.mono (by simp; omega))))⟩
      · have HR2 := Lib.hid (show r = .ok s by rw [← HR.out]; simp only [filledA, HF.out, ht, if_neg hs])
        have hs2 : s.toList.isEmpty = false := by cases h : s.toList <;> simp_all
        clear ht
        go_wp2
        go_ret
        exact AnsL.ok s _ HR2.out rfl (((((Below.refl _ _).alloc (Nat.le_refl _) _).trans (HB1.out.mono (by simp))).alloc (by omega) _).trans (hb2.mono (by simp; omega)))

end Go.Proofs.YtoimjnmhinfbkaaGreatDoor
