/- strconv's readFloat at a number's text: mantissa, exponent, sign. No conditions but that it is a number's. -/
import Derived.Test.YtlmogijkkhdogaaGreatDoorFc
import Derived.Lib.Hide
import Derived.WalkMore
import Derived.RegionTactic
import Derived.BigRegion
import Derived.Deep.QuietTactic
import Derived.BigQuiet
import Derived.Deep.DeepCutAuto
import Derived.Deep.CutBlock
namespace Go.Proofs.YtlmogijkkhdogaaGreatDoor
open Go.RowKit
set_option maxRecDepth 100000

theorem bool64_any (b : Bool) (w : World) : Calls Tryz.prog 239 #[.bool b] w fun e w' => e = .returned (.int .u64 (if b then 1 else 0)) ∧ w = w' := by
  cases b <;> go_enter Tryz.func239, Tryz.ntmps239 <;> go_wp2 <;> go_ret <;> exact ⟨rfl, rfl⟩
def lowN (c : UInt8) : Nat := (c ||| 32).toNat
theorem bits_or8 (c : UInt8) : bits .or .u8 (c.toNat : Int) 32 = ((lowN c : Nat) : Int) := by
  revert c
  have h : ∀ n : Fin 256, bits .or .u8 (n.val : Int) 32 = (((UInt8.ofNat n.val ||| 32).toNat : Nat) : Int) := by decide +kernel
  intro c
  have := h ⟨c.toNat, c.toNat_lt⟩
  simp only [UInt8.ofNat_toNat] at this
  exact this
theorem lower_any (c : UInt8) (w : World) : Calls Tryz.prog 190 #[.int .u8 (c.toNat : Int)] w fun e w' => e = .returned (.int .u8 (lowN c : Int)) ∧ w = w' := by
  go_enter Tryz.func190, Tryz.ntmps190
  go_wp2
  go_ret
  rw [bits_or8]
  exact ⟨rfl, rfl⟩

/-- the state of the reading of the figures -/
structure RS where
  dot : Bool
  dg : Bool
  nd : Nat
  nm : Nat
  dp : Int
  m : Nat
  tr : Bool
def RS.start : RS := ⟨false, false, 0, 0, 0, 0, false⟩
def rstep (s : RS) (c : UInt8) : RS :=
  if c = 46 then { s with dot := true, dp := s.nd }
  else if c = 48 ∧ s.nd = 0 then { s with dg := true, dp := s.dp - 1 }
  else if s.nm < 19 then { s with dg := true, nd := s.nd + 1, nm := s.nm + 1, m := s.m * 10 + (c.toNat - 48) }
  else { s with dg := true, nd := s.nd + 1, tr := s.tr || (c != 48) }
def rread (l : List UInt8) : RS := l.foldl rstep .start

def sgB (b : Bool) : List UInt8 := if b then [45] else []
def bodyOk (l : List UInt8) : Prop := (∀ c ∈ l, isDig c = true ∨ c = 46) ∧ l.count 46 ≤ 1 ∧ (∃ c t, l = c :: t ∧ isDig c = true) ∧ l.length ≤ 1000

/-- the exponent's part: its letter, its sign, its figures -/
inductive Ex where
  | none
  | some (c : UInt8) (s : Option Bool) (d : UInt8) (ds : List UInt8)
def Ex.list : Ex → List UInt8
  | .none => []
  | .some c .none d ds => c :: d :: ds
  | .some c (.some b) d ds => c :: (if b then 45 else 43) :: d :: ds
def Ex.ok : Ex → Prop
  | .none => True
  | .some c _ d ds => (c = 101 ∨ c = 69) ∧ isDig d = true ∧ (∀ x ∈ ds, isDig x = true) ∧ ds.length ≤ 1000

theorem lowN_ne : ∀ c : UInt8, (isDig c = true ∨ c = 46 ∨ c = 101 ∨ c = 69) → lowN c ≠ 120 := by
  have h : ∀ n : Fin 256, (isDig (UInt8.ofNat n.val) = true ∨ UInt8.ofNat n.val = 46 ∨ UInt8.ofNat n.val = 101 ∨ UInt8.ofNat n.val = 69) → lowN (UInt8.ofNat n.val) ≠ 120 := by decide +kernel
  intro c hc
  have := h ⟨c.toNat, c.toNat_lt⟩
  simp only [UInt8.ofNat_toNat] at this
  exact this hc

/-- the text, the place where its figures begin -/
def txt (b : Bool) (body : List UInt8) (x : Ex) : List UInt8 := sgB b ++ (body ++ x.list)
theorem sgB_le (b : Bool) : (sgB b).length ≤ 1 := by cases b <;> simp [sgB]
theorem Ex.len {x : Ex} (h : x.ok) : x.list.length ≤ 1003 := by
  cases x with
  | none => simp [Ex.list]
  | some c s d ds =>
    obtain ⟨_, _, _, h⟩ := h
    cases s <;> simp [Ex.list] <;> omega
theorem txt_at {b : Bool} {body : List UInt8} {x : Ex} {k : Nat} (h : k < body.length) (h' : (sgB b).length + k < (txt b body x).length) : (txt b body x)[(sgB b).length + k] = body[k] := by
  have e : (txt b body x)[(sgB b).length + k]? = some body[k] := by
    unfold txt
    rw [List.getElem?_append_right (by omega), Nat.add_sub_cancel_left, List.getElem?_append_left h, List.getElem?_eq_getElem h]
  rw [List.getElem?_eq_getElem h'] at e
  exact Option.some.inj e
theorem txt_len (b : Bool) (body : List UInt8) (x : Ex) : (txt b body x).length = (sgB b).length + body.length + x.list.length := by
  unfold txt; simp; omega

theorem txt_next {b : Bool} {body : List UInt8} {x : Ex} (hb : ∀ c ∈ body, isDig c = true ∨ c = 46) (hl : 1 ≤ body.length) (hx : x.ok) (h' : (sgB b).length + 1 < (txt b body x).length) : lowN ((txt b body x)[(sgB b).length + 1]) ≠ 120 := by
  by_cases h : 1 < body.length
  · rw [txt_at h]
    refine lowN_ne _ ?_
    rcases hb _ (List.getElem_mem h) with h | h
    · exact Or.inl h
    · exact Or.inr (Or.inl h)
  · have hl1 : body.length = 1 := by omega
    cases x with
    | none => exfalso; rw [txt_len] at h'; simp [Ex.list] at h'; omega
    | some ec es d ds =>
      obtain ⟨he, _⟩ := hx
      have e : (txt b body (.some ec es d ds))[(sgB b).length + 1]? = some ec := by
        unfold txt
        rw [List.getElem?_append_right (by omega), Nat.add_sub_cancel_left, List.getElem?_append_right (by omega), hl1]
        cases es <;> rfl
      rw [List.getElem?_eq_getElem h'] at e
      rw [Option.some.inj e]
      exact lowN_ne _ (Or.inr (Or.inr he))

/-- what holds of a reading's state behind k figures -/
structure RS.Ok (s : RS) (l : List UInt8) : Prop where
  nm : s.nm ≤ 19
  m : s.m < 10 ^ s.nm
  nd : s.nd ≤ l.length
  nmd : s.nm ≤ s.nd
  dp1 : s.dp ≤ l.length
  dp2 : -(l.length : Int) ≤ s.dp
  dot : s.dot = true → 46 ∈ l
theorem rread_snoc (l : List UInt8) (c : UInt8) : rread (l ++ [c]) = rstep (rread l) c := by
  unfold rread; rw [List.foldl_append]; rfl
theorem rstep_ok {s : RS} {l : List UInt8} {c : UInt8} (h : s.Ok l) (hc : isDig c = true ∨ c = 46) : (rstep s c).Ok (l ++ [c]) := by
  have hn : (l ++ [c]).length = l.length + 1 := by simp
  obtain ⟨a1, a2, a3, a4, a5, a6, a7⟩ := h
  have hm : ∀ q, q ∈ l → q ∈ l ++ [c] := fun q hq => List.mem_append_left _ hq
  unfold rstep
  by_cases h1 : c = 46
  · rw [if_pos h1]
    refine ⟨a1, a2, by simp; omega, a4, by simp; omega, by simp; omega, fun _ => by simp [h1]⟩
  · rw [if_neg h1]
    by_cases h2 : c = 48 ∧ s.nd = 0
    · rw [if_pos h2]
      refine ⟨a1, a2, by simp; omega, a4, by simp; omega, by simp; omega, fun h => hm _ (a7 h)⟩
    · rw [if_neg h2]
      have hd := (isDig_iff c).1 (hc.resolve_right h1)
      by_cases h3 : s.nm < 19
      · rw [if_pos h3]
        refine ⟨h3, ?_, by simp; omega, by simp; omega, by simp; omega, by simp; omega, fun h => hm _ (a7 h)⟩
        show s.m * 10 + (c.toNat - 48) < 10 ^ (s.nm + 1)
        rw [Nat.pow_succ]; omega
      · rw [if_neg h3]
        refine ⟨a1, a2, by simp; omega, by simp; omega, by simp; omega, by simp; omega, fun h => hm _ (a7 h)⟩
theorem fold_ok : ∀ (l pre : List UInt8) (s : RS), s.Ok pre → (∀ c ∈ l, isDig c = true ∨ c = 46) → (l.foldl rstep s).Ok (pre ++ l)
  | [], pre, s, h, _ => by simpa using h
  | c :: l, pre, s, h, hc => by
    have := fold_ok l (pre ++ [c]) (rstep s c) (rstep_ok h (hc c (by simp))) fun q hq => hc q (List.mem_cons_of_mem _ hq)
    simpa using this
theorem rread_ok (l : List UInt8) (h : ∀ c ∈ l, isDig c = true ∨ c = 46) : (rread l).Ok l := by
  have := fold_ok l [] .start ⟨by decide, by decide, by decide, by decide, by decide, by decide, by decide⟩ h
  rw [List.nil_append] at this
  exact this
theorem rstep_dot (s : RS) : rstep s 46 = { s with dot := true, dp := s.nd } := by unfold rstep; rw [if_pos rfl]
theorem rstep_lead {s : RS} (h : s.nd = 0) : rstep s 48 = { s with dg := true, dp := s.dp - 1 } := by unfold rstep; rw [if_neg (by decide), if_pos ⟨rfl, h⟩]
theorem rstep_in {s : RS} {c : UInt8} (h0 : c ≠ 46) (h1 : ¬ (c = 48 ∧ s.nd = 0)) (h2 : s.nm < 19) : rstep s c = { s with dg := true, nd := s.nd + 1, nm := s.nm + 1, m := s.m * 10 + (c.toNat - 48) } := by unfold rstep; rw [if_neg h0, if_neg h1, if_pos h2]
theorem rstep_out {s : RS} {c : UInt8} (h0 : c ≠ 46) (h1 : ¬ (c = 48 ∧ s.nd = 0)) (h2 : ¬ s.nm < 19) : rstep s c = { s with dg := true, nd := s.nd + 1, tr := s.tr || (c != 48) } := by unfold rstep; rw [if_neg h0, if_neg h1, if_neg h2]
theorem rstep_dg (s : RS) (c : UInt8) (h : c ≠ 46 ∨ s.dg = true) : (rstep s c).dg = true := by
  by_cases hc : c = 46
  · rw [hc, rstep_dot]; exact h.resolve_left (fun h => h hc)
  · unfold rstep
    rw [if_neg hc]
    split
    · rfl
    · split <;> rfl
theorem fold_dg : ∀ (l : List UInt8) (s : RS), s.dg = true → (l.foldl rstep s).dg = true
  | [], _, h => h
  | c :: l, s, h => fold_dg l _ (rstep_dg s c (Or.inr h))
theorem rread_dg (c : UInt8) (l : List UInt8) (h : c ≠ 46) : (rread (c :: l)).dg = true := fold_dg l _ (rstep_dg _ c (Or.inl h))

def estep (e : Nat) (c : UInt8) : Nat := if e < 10000 then e * 10 + (c.toNat - 48) else e
def efold (l : List UInt8) : Nat := l.foldl estep 0
def Ex.val : Ex → Int
  | .none => 0
  | .some _ s d ds => (if s = Option.some true then -1 else 1) * (efold (d :: ds) : Int)
def Ex.has : Ex → Bool
  | .none => false
  | .some .. => true
def RS.dpt (s : RS) : Int := if s.dot then s.dp else s.nd
def readExp (body : List UInt8) (x : Ex) : Int := if (rread body).m = 0 then 0 else (rread body).dpt + x.val - (rread body).nm
theorem estep_le {e : Nat} {c : UInt8} (h : e ≤ 100000) (hc : isDig c = true) : estep e c ≤ 100000 := by
  unfold estep
  have := (isDig_iff c).1 hc
  split <;> omega
theorem efold_le : ∀ (l : List UInt8), (∀ c ∈ l, isDig c = true) → efold l ≤ 100000 := by
  have h : ∀ (l : List UInt8) (e : Nat), e ≤ 100000 → (∀ c ∈ l, isDig c = true) → l.foldl estep e ≤ 100000 := by
    intro l
    induction l with
    | nil => intro e he _; exact he
    | cons c l ih => intro e he hc; exact ih _ (estep_le he (hc c (by simp))) fun q hq => hc q (List.mem_cons_of_mem _ hq)
  intro l hc
  exact h l 0 (by omega) hc
theorem Ex.val_le {x : Ex} (h : x.ok) : -100000 ≤ x.val ∧ x.val ≤ 100000 := by
  cases x with
  | none => exact ⟨by decide, by decide⟩
  | some c s d ds =>
    obtain ⟨_, h1, h2, _⟩ := h
    have := efold_le (d :: ds) fun q hq => by
      rcases List.mem_cons.1 hq with h | h
      · rw [h]; exact h1
      · exact h2 q h
    show -100000 ≤ (if s = Option.some true then (-1 : Int) else 1) * (efold (d :: ds) : Int) ∧ (if s = Option.some true then (-1 : Int) else 1) * (efold (d :: ds) : Int) ≤ 100000
    split <;> omega
theorem efold_snoc (l : List UInt8) (c : UInt8) : efold (l ++ [c]) = estep (efold l) c := by unfold efold; rw [List.foldl_append]; rfl
theorem txt_ex (b : Bool) (body : List UInt8) (x : Ex) (j : Nat) : (txt b body x)[(sgB b).length + body.length + j]? = x.list[j]? := by
  unfold txt
  rw [Nat.add_assoc, List.getElem?_append_right (by omega), Nat.add_sub_cancel_left, List.getElem?_append_right (by omega), Nat.add_sub_cancel_left]

set_option maxHeartbeats 3200000 in
theorem read_any (b : Bool) (body : List UInt8) (x : Ex) (hb : bodyOk body) (hx : x.ok) (w : World) :
    Calls Tryz.prog 231 #[.string ⟨(txt b body x).toArray⟩] w fun e w' => e = .returned (.tuple #[.int .u64 (rread body).m, .int .i64 (readExp body x), .bool b, .bool (rread body).tr, .bool false, .int .i64 ((txt b body x).length : Nat), .bool true]) ∧ w = w' := by
  obtain ⟨h1, h2, ⟨c, t, hct, hc⟩, h4⟩ := hb
  have hc' := (isDig_iff c).1 hc
  have hbl : 1 ≤ body.length := by rw [hct]; simp
  have hL := txt_len b body x
  have hp := sgB_le b
  have hxl := Ex.len hx
  have hlow := fun h' => txt_next (b := b) h1 hbl hx h'
  have hat := fun k (h : k < body.length) => txt_at (b := b) (x := x) h
  have H0 := Lib.hid hct
  have H1 := Lib.hid h1
  have H2 := Lib.hid h2
  have HX := Lib.hid hx
  have hsg : b = true → (txt b body x)[0]? = some 45 := by rintro rfl; rfl
  have hsg' : b = false → (txt b body x)[0]? = some c := by rintro rfl; rw [hct]; rfl
  have hpp : (sgB b).length = if b then 1 else 0 := by cases b <;> rfl
  clear h1 h2 hx hct
  generalize hT : txt b body x = T at hL hlow hat hsg hsg' ⊢
  have HT := Lib.hid hT
  clear hT
  generalize hP : (sgB b).length = p at hL hp hlow hat hpp
  have HP := Lib.hid hP
  clear hP
  have hat0 := hat 0 hbl
  have h3 : (0 : Nat) < (⟨T.toArray⟩ : ByteArray).size := by show 0 < T.length; omega
  have hsz : p < (⟨T.toArray⟩ : ByteArray).size := by show p < T.length; omega
  have gc : (⟨T.toArray⟩ : ByteArray)[p]'hsz = c := by
    have e1 : T[p + 0]'hsz = body[0] := hat0 hsz
    have e2 : body[0] = c := by simp only [H0.out, List.getElem_cons_zero]
    exact e1.trans e2
  have glow : ∀ h : p + 1 < (⟨T.toArray⟩ : ByteArray).size, ((lowN ((⟨T.toArray⟩ : ByteArray)[p + 1]'h) : Int) == 120) = false := by
    intro h
    have := hlow h
    rw [byte_get _ _ h]
    simp; omega
  have HAT := Lib.hid hat
  have HS := Lib.hid hsg
  have HS' := Lib.hid hsg'
  have HPP := Lib.hid hpp
  obtain ⟨n, hn⟩ : ∃ n, n = T.length := ⟨_, rfl⟩
  have HL := Lib.hid hL
  have hT1 : (0 : Int) < (n : Int) := by omega
  have hT2 : (n : Int) ≤ 3000 := by omega
  have hT3 : (p : Int) < (n : Int) := by omega
  replace hL : T.length = n := hn.symm
  clear hat hsg hsg' hpp hat0 hlow hn
  go_enter Tryz.func231, Tryz.ntmps231
  go_wp2_with fail
  go_step3
  go_upto_block 0 with fail
  go_cut [4, 7] from 28 to 35 (fun n i wx => n = .bool b ∧ i = .int .i64 p ∧ w = wx)
  case first =>
    cases b
    · have g0 : (⟨T.toArray⟩ : ByteArray)[0]'h3 = c := by
        have := HS'.out rfl
        rw [List.getElem?_eq_getElem (show 0 < T.length from h3)] at this
        exact Option.some.inj this
      have n1 : ((c.toNat : Int) == 43) = false := by simp; omega
      have n2 : ((c.toNat : Int) == 45) = false := by simp; omega
      have hpp : p = 0 := HPP.out
      clear HPP HS HS' HAT glow gc
      subst hpp
      go_wp2_with fail
      all_goals (go_meet; exact ⟨rfl, rfl, rfl⟩)
    · have g0 : (⟨T.toArray⟩ : ByteArray)[0]'h3 = 45 := by
        have := HS.out rfl
        rw [List.getElem?_eq_getElem (show 0 < T.length from h3)] at this
        exact Option.some.inj this
      have hpp : p = 1 := HPP.out
      clear HPP HS HS' HAT glow gc
      subst hpp
      go_wp2_with fail
      all_goals (go_meet; exact ⟨rfl, rfl, rfl⟩)
  case rest =>
    obtain ⟨rfl, rfl, rfl⟩ := hcut
    go_upto_region 12 with fail
    go_cut [54] from 36 to 53 (fun v wx => v = .bool false ∧ w = wx)
    case first =>
      clear HAT HS HS' HPP
      go_wp2_with (go_at_call 190; refine (lower_any _ _).mono ?_; rintro e w' ⟨rfl, rfl⟩)
      all_goals (go_meet; exact ⟨rfl, rfl⟩)
    case rest =>
      obtain ⟨rfl, rfl⟩ := hcut
      go_wp2_with fail
      go_step3
      go_upto_block 1 with fail
      go_cut [2, 5, 7, 9, 13, 14, 15, 16, 17, 18] from 57 to 138 (fun m tr i us dot dg nd nm dp _c wx => us = .bool false ∧ m = .int .u64 (rread body).m ∧ tr = .bool (rread body).tr ∧ i = .int .i64 (p + body.length : Nat) ∧ dot = .bool (rread body).dot ∧ dg = .bool true ∧ nd = .int .i64 (rread body).nd ∧ nm = .int .i64 (rread body).nm ∧ dp = .int .i64 (rread body).dp ∧ w = wx)
      case first =>
        clear glow gc
        go_wp2_with fail
        go_loop [2, 5, 7, 9, 13, 14, 15, 16, 17, 18] (fun m tr i us dot dg nd nm dp _c => ∃ k : Nat, k ≤ body.length ∧ us = .bool false ∧ m = .int .u64 (rread (body.take k)).m ∧ tr = .bool (rread (body.take k)).tr ∧ i = .int .i64 (p + k : Nat) ∧ dot = .bool (rread (body.take k)).dot ∧ dg = .bool (rread (body.take k)).dg ∧ nd = .int .i64 (rread (body.take k)).nd ∧ nm = .int .i64 (rread (body.take k)).nm ∧ dp = .int .i64 (rread (body.take k)).dp) (fun _ _ i _ _ _ _ _ _ _ => p + body.length - (intOf i).toNat)
        case atStart => exact ⟨0, Nat.zero_le _, rfl, rfl, rfl, by simp, rfl, rfl, rfl, rfl, rfl⟩
        case round =>
          obtain ⟨k, hk, rfl, rfl, rfl, rfl, rfl, rfl, rfl, rfl, rfl⟩ := hrel
          have hok := rread_ok (body.take k) fun q hq => H1.out q (List.mem_of_mem_take hq)
          by_cases hlt : k < body.length
          · have hnext : rread (body.take (k + 1)) = rstep (rread (body.take k)) body[k] := by
              rw [List.take_succ_eq_append_getElem hlt, rread_snoc]
            have HN := Lib.hid hnext
            clear hnext
            generalize hs : rread (body.take k) = s at *
            obtain ⟨a1, a2, a3, a4, a5, a6, a7⟩ := hok
            have hC := H1.out _ (List.getElem_mem hlt)
            obtain ⟨q, hq⟩ : ∃ q, q = p + k := ⟨_, rfl⟩
            have hqs : q < (⟨T.toArray⟩ : ByteArray).size := by show q < T.length; have := HL.out; omega
            have hidx : (⟨T.toArray⟩ : ByteArray)[q]'hqs = body[k] := by
              have e := HAT.out k hlt (by rw [← hq]; exact hqs)
              subst hq
              exact e
            have hdot : body[k] = 46 → s.dot = false := by
              intro h46
              cases hsd : s.dot
              · rfl
              · exfalso
                have m1 := List.count_pos_iff.2 (a7 hsd)
                have m2 : 1 ≤ (body.drop k).count 46 := List.count_pos_iff.2 (by rw [← h46]; exact List.mem_drop_iff_getElem.2 ⟨0, by omega, by simp⟩)
                have m3 := H2.out
                rw [← List.take_append_drop k body, List.count_append] at m3
                omega
            generalize body[k] = C at *
            have hqn : (p : Int) + k < n := by have := HL.out; omega
            have hmes : p + body.length - (q + 1) < p + body.length - q := by omega
            rw [← hq]
            have hq1 : (q : Int) < n := by omega
            have hq0 : (0 : Int) ≤ q := by omega
            have HQ := Lib.hid hq
            have HLT := Lib.hid hlt
            have HDOT := Lib.hid hdot
            have HHS := Lib.hid hs
            have A4 := Lib.hid a2
            have hk3 : (k : Int) ≤ 1000 := by omega
            have hnd : (s.nd : Int) ≤ 1000 := by have := List.length_take_le k body; omega
            have hdp1 : s.dp ≤ 1000 := by have := List.length_take_le k body; omega
            have hdp2 : -1000 ≤ s.dp := by have := List.length_take_le k body; omega
            have hm18 : s.nm < 19 → (s.m : Int) * 10 + 9 < 10000000000000000000 := by
              intro h
              have h2 := Nat.pow_le_pow_right (n := 10) (by omega) (show s.nm ≤ 18 by omega)
              have h3 : (10 : Nat) ^ 18 = 1000000000000000000 := rfl
              omega
            have HM := Lib.hid hm18
            clear hq hlt hdot hs a2 a3 a5 a6 a7 hm18 hqn
            by_cases h46 : C = 46
            · have hr := HN.out
              rw [h46, rstep_dot] at hr
              have HR := Lib.hid hr
              have hsd := HDOT.out h46
              have e1 : ((C.toNat : Int) == 95) = false := by rw [h46]; rfl
              have e2 : (C.toNat : Int) = 46 := by rw [h46]; rfl
              clear h46 hr hC
              go_wp2_with fail
              · exact Bool.noConfusion (hsd.symm.trans (by assumption))
              go_round
              case rel => exact ⟨k + 1, HLT.out, rfl, by rw [HR.out], by rw [HR.out], by rw [← Nat.add_assoc, ← HQ.out]; go_num, by rw [HR.out], by rw [HR.out], by rw [HR.out], by rw [HR.out], by rw [HR.out]⟩
              case measure => simp [intOf]; omega
            · have hdg := (isDig_iff C).1 (hC.resolve_right h46)
              have e1 : ((C.toNat : Int) == 95) = false := by simp; omega
              have e2 : ((C.toNat : Int) == 46) = false := by
                simp; intro h; exact h46 (UInt8.toNat_inj.1 (by rw [show (46 : UInt8).toNat = 46 from rfl]; omega))
              have e3 : (48 : Int) ≤ (C.toNat : Int) := by omega
              have e4 : (C.toNat : Int) ≤ 57 := by omega
              by_cases hlead : C = 48 ∧ s.nd = 0
              · have hr := HN.out
                rw [hlead.1, rstep_lead hlead.2] at hr
                have HR := Lib.hid hr
                have e5 : (C.toNat : Int) = 48 := by rw [hlead.1]; rfl
                have e6 : (s.nd : Int) = 0 := by omega
                clear hlead hr hC h46 hdg
                go_wp2_with fail
                go_round
                case rel => exact ⟨k + 1, HLT.out, rfl, by rw [HR.out], by rw [HR.out], by rw [← Nat.add_assoc, ← HQ.out]; go_num, by rw [HR.out], by rw [HR.out], by rw [HR.out], by rw [HR.out], by rw [HR.out]⟩
                case measure => simp [intOf]; omega
              · by_cases hin : s.nm < 19
                · have hr := HN.out
                  rw [rstep_in h46 hlead hin] at hr
                  have HR := Lib.hid hr
                  have e7 : (s.nm : Int) < 19 := by omega
                  have e8 := HM.out hin
                  have e9 : (0 : Int) ≤ (s.m : Int) := by omega
                  by_cases h48 : C = 48
                  · have e5 : (C.toNat : Int) = 48 := by rw [h48]; rfl
                    have e6 : ((s.nd : Int) == 0) = false := by simp; intro h; exact hlead ⟨h48, h⟩
                    have H48 := Lib.hid h48
                    clear hlead hr hC h46 hdg h48
                    go_wp2_with fail
                    go_round
                    case rel => exact ⟨k + 1, HLT.out, rfl, by rw [HR.out] <;> (show Value.int .u64 _ = .int .u64 ((s.m * 10 + (C.toNat - 48) : Nat) : Int); congr 1; omega), by rw [HR.out], by rw [← Nat.add_assoc, ← HQ.out]; go_num, by rw [HR.out], by rw [HR.out], by rw [HR.out]; go_num, by rw [HR.out]; go_num, by rw [HR.out]⟩
                    case measure => simp [intOf]; omega
                  · have e5 : ((C.toNat : Int) == 48) = false := by
                      simp; intro h; exact h48 (UInt8.toNat_inj.1 (by rw [show (48 : UInt8).toNat = 48 from rfl]; omega))
                    have H48 := Lib.hid h48
                    clear hlead hr hC h46 hdg h48
                    go_wp2_with fail
                    go_round
                    case rel => exact ⟨k + 1, HLT.out, rfl, by rw [HR.out] <;> (show Value.int .u64 _ = .int .u64 ((s.m * 10 + (C.toNat - 48) : Nat) : Int); congr 1; omega), by rw [HR.out], by rw [← Nat.add_assoc, ← HQ.out]; go_num, by rw [HR.out], by rw [HR.out], by rw [HR.out]; go_num, by rw [HR.out]; go_num, by rw [HR.out]⟩
                    case measure => simp [intOf]; omega
                · have hr := HN.out
                  rw [rstep_out h46 hlead hin] at hr
                  have HR := Lib.hid hr
                  have e7 : (19 : Int) ≤ (s.nm : Int) := by omega
                  by_cases h48 : C = 48
                  · have e5 : (C.toNat : Int) = 48 := by rw [h48]; rfl
                    have e6 : ((s.nd : Int) == 0) = false := by simp; intro h; exact hlead ⟨h48, h⟩
                    have H48 := Lib.hid h48
                    clear hlead hr hC h46 hdg h48
                    go_wp2_with fail
                    go_round
                    case rel => exact ⟨k + 1, HLT.out, rfl, by rw [HR.out], by rw [HR.out]; simp [H48.out], by rw [← Nat.add_assoc, ← HQ.out]; go_num, by rw [HR.out], by rw [HR.out], by rw [HR.out]; go_num, by rw [HR.out], by rw [HR.out]⟩
                    case measure => simp [intOf]; omega
                  · have e5 : ((C.toNat : Int) == 48) = false := by
                      simp; intro h; exact h48 (UInt8.toNat_inj.1 (by rw [show (48 : UInt8).toNat = 48 from rfl]; omega))
                    have H48 := Lib.hid h48
                    clear hlead hr hC h46 hdg h48
                    go_wp2_with fail
                    go_round
                    case rel => exact ⟨k + 1, HLT.out, rfl, by rw [HR.out], by rw [HR.out]; simp [H48.out], by rw [← Nat.add_assoc, ← HQ.out]; go_num, by rw [HR.out], by rw [HR.out], by rw [HR.out]; go_num, by rw [HR.out], by rw [HR.out]⟩
                    case measure => simp [intOf]; omega
          · have hkb : k = body.length := by omega
            have htk : body.take k = body := by rw [hkb, List.take_length]
            have hdg : (rread body).dg = true := by
              rw [H0.out]; exact rread_dg c t (by intro h; rw [h] at hc'; exact absurd hc'.1 (by decide))
            rw [htk] at hok ⊢
            have HDG := Lib.hid hdg
            clear hlt htk hdg hk
            subst hkb
            obtain ⟨q, hq⟩ : ∃ q, q = p + body.length := ⟨_, rfl⟩
            rw [← hq]
            generalize rread body = s at *
            cases x with
            | none =>
              have e1 : q = n := by have := HL.out; simp [Ex.list] at this; omega
              subst e1
              have HQ := Lib.hid hq
              clear hq
              go_wp2_with fail
              go_meet
              exact ⟨rfl, rfl, rfl, by rw [← HQ.out], rfl, by rw [HDG.out], rfl, rfl, rfl, rfl⟩
            | some ec es d ds =>
              have hqs : q < (⟨T.toArray⟩ : ByteArray).size := by show q < T.length; have := HL.out; cases es <;> simp [Ex.list] at this <;> omega
              have hidx : (⟨T.toArray⟩ : ByteArray)[q]'hqs = ec := by
                have e : (txt b body (.some ec es d ds))[(sgB b).length + body.length]? = some ec := by
                  unfold txt
                  rw [List.getElem?_append_right (by omega), Nat.add_sub_cancel_left, List.getElem?_append_right (by omega), Nat.sub_self]
                  cases es <;> rfl
                rw [HT.out, HP.out, ← hq, List.getElem?_eq_getElem (show q < T.length from hqs)] at e
                exact Option.some.inj e
              have hq1 : (q : Int) < n := by have : q < T.length := hqs; omega
              have hq0 : (0 : Int) ≤ q := by omega
              have hec := HX.out.1
              have e1 : ((ec.toNat : Int) == 95) = false := by rcases hec with rfl | rfl <;> rfl
              have e2 : ((ec.toNat : Int) == 46) = false := by rcases hec with rfl | rfl <;> rfl
              have e3 : (48 : Int) ≤ (ec.toNat : Int) := by rcases hec with rfl | rfl <;> decide
              have e4 : (57 : Int) < (ec.toNat : Int) := by rcases hec with rfl | rfl <;> decide
              have HQ := Lib.hid hq
              clear hec hq
              go_wp2_with fail
              go_meet
              exact ⟨rfl, rfl, rfl, by rw [← HQ.out], rfl, by rw [HDG.out], rfl, rfl, rfl, rfl⟩
      case rest =>
        obtain ⟨rfl, rfl, rfl, rfl, rfl, rfl, rfl, rfl, rfl, rfl⟩ := hcut
        have hok := rread_ok body H1.out
        obtain ⟨a1, a2, a3, a4, a5, a6, a7⟩ := hok
        have hE : readExp body x = if (rread body).m = 0 then 0 else (rread body).dpt + x.val - (rread body).nm := rfl
        have HE := Lib.hid hE
        clear hE a2 a7 glow gc
        generalize hrb : rread body = s at *
        have HRB := Lib.hid hrb
        clear hrb
        go_upto_if 142 with fail
        go_cut [13, 17] from 141 to 143 (fun _d dp wx => dp = .int .i64 s.dpt ∧ w = wx)
        case first =>
          cases hd : s.dot
          · have e : s.dpt = s.nd := by unfold RS.dpt; rw [hd]; rfl
            have E := Lib.hid e
            clear e
            go_wp2_with fail
            go_meet
            exact ⟨by rw [E.out], rfl⟩
          · have e : s.dpt = s.dp := by unfold RS.dpt; rw [hd]; rfl
            have E := Lib.hid e
            clear e
            go_wp2_with fail
            go_meet
            exact ⟨by rw [E.out], rfl⟩
        case rest =>
          obtain ⟨rfl, rfl⟩ := hcut
          have hd1 : s.dpt ≤ 1000 := by unfold RS.dpt; split <;> omega
          have hd2 : -1000 ≤ s.dpt := by unfold RS.dpt; split <;> omega
          generalize s.dpt = dq at *
          have hlen := HL.out
          have hex := txt_ex b body x
          rw [HT.out, HP.out] at hex
          have HEX := Lib.hid hex
          have hq0 : (0 : Int) ≤ ((p + body.length : Nat) : Int) := by omega
          go_upto_region 57 with fail
          go_cut [161] from 150 to 160 (fun v wx => v = .bool x.has ∧ w = wx)
          case first =>
            cases x with
            | none =>
              have e1 : (n : Int) ≤ ((p + body.length : Nat) : Int) := by simp [Ex.list] at hlen; omega
              clear hex hlen
              go_wp2_with fail
              go_meet
              exact ⟨rfl, rfl⟩
            | some ec es d ds =>
              have e1 : ((p + body.length : Nat) : Int) < n := by cases es <;> simp [Ex.list] at hlen <;> omega
              have hqs : p + body.length < (⟨T.toArray⟩ : ByteArray).size := by show p + body.length < T.length; omega
              have hidx : (⟨T.toArray⟩ : ByteArray)[p + body.length]'hqs = ec := by
                have e := hex 0
                rw [Nat.add_zero, List.getElem?_eq_getElem (show p + body.length < T.length from hqs)] at e
                cases es <;> exact Option.some.inj e
              have hlw : ((lowN ec : Nat) : Int) = 101 := by rcases HX.out.1 with rfl | rfl <;> rfl
              clear hex hlen
              go_wp2_with (go_at_call 190; refine (lower_any _ _).mono ?_; rintro e w' ⟨rfl, rfl⟩)
              go_meet
              exact ⟨rfl, rfl⟩
          case rest =>
            obtain ⟨rfl, rfl⟩ := hcut
            clear hex hlen
            go_upto_if 161 with fail
            go_cut [7, 9, 17, 19, 20] from 162 to 239 (fun i us dp _a _b wx => i = .int .i64 n ∧ us = .bool false ∧ dp = .int .i64 (dq + x.val) ∧ w = wx)
            case first =>
              cases x with
              | none =>
                have e1 : ((p + body.length : Nat) : Int) = n := by have := HL.out; simp [Ex.list] at this; omega
                go_wp2_with fail
                go_meet
                exact ⟨by rw [← e1], rfl, by simp [Ex.val], rfl⟩
              | some ec es d ds =>
                have hok := HX.out
                have e1 : ((p + body.length : Nat) : Int) + 1 < n := by have := HL.out; cases es <;> simp [Ex.list] at this <;> omega
                obtain ⟨f, hf⟩ : ∃ f : Nat, f = p + body.length + 1 + (if es.isSome then 1 else 0) := ⟨_, rfl⟩
                have hfd : ∀ j, T[f + j]? = (d :: ds)[j]? := by
                  intro j
                  have e := HEX.out (1 + (if es.isSome then 1 else 0) + j)
                  rw [show p + body.length + (1 + (if es.isSome then 1 else 0) + j) = f + j by omega] at e
                  rw [e]
                  cases es with
                  | none => simp [Ex.list, Nat.add_comm 1 j]
                  | some y => simp only [Ex.list, Option.isSome_some, if_true]; rw [show 1 + 1 + j = j + 1 + 1 by omega]; rfl
                have hfl : f + (ds.length + 1) = n := by have := HL.out; cases es <;> simp [Ex.list] at this hf <;> omega
                have HF := Lib.hid hf
                have HFD := Lib.hid hfd
                clear hfd
                go_upto_block 4 with fail
                go_cut [7, 19] from 170 to 178 (fun i sg wx => i = .int .i64 f ∧ sg = .int .i64 (if es = Option.some true then -1 else 1) ∧ w = wx)
                case first =>
                  have hqs : p + body.length + 1 < (⟨T.toArray⟩ : ByteArray).size := by show p + body.length + 1 < T.length; omega
                  have hn1 : (0 : Int) ≤ (p : Int) + body.length + 1 := by omega
                  cases es with
                  | none =>
                    have hf' : (f : Int) = (p : Int) + body.length + 1 := by have := HF.out; simp at this; omega
                    have hidx : (⟨T.toArray⟩ : ByteArray)[p + body.length + 1]'hqs = d := by
                      have e := HFD.out 0
                      rw [Nat.add_zero, show f = p + body.length + 1 by omega, List.getElem?_eq_getElem (show p + body.length + 1 < T.length from hqs)] at e
                      exact Option.some.inj e
                    have hd' := (isDig_iff d).1 hok.2.1
                    have k1 : ((d.toNat : Int) == 43) = false := by simp; omega
                    have k2 : ((d.toNat : Int) == 45) = false := by simp; omega
                    clear hok
                    go_wp2_with fail
                    go_meet
                    exact ⟨by rw [hf'], rfl, rfl⟩
                  | some y =>
                    have hf' : (f : Int) = (p : Int) + body.length + 1 + 1 := by have := HF.out; simp at this; omega
                    have hidx : (⟨T.toArray⟩ : ByteArray)[p + body.length + 1]'hqs = if y then 45 else 43 := by
                      have e := HEX.out 1
                      rw [List.getElem?_eq_getElem (show p + body.length + 1 < T.length from hqs)] at e
                      exact Option.some.inj e
                    clear hok
                    cases y
                    · simp only [Bool.false_eq_true, if_false] at hidx
                      go_wp2_with fail
                      go_meet
                      exact ⟨by rw [hf'], rfl, rfl⟩
                    · simp only [if_true] at hidx
                      go_wp2_with fail
                      go_meet
                      exact ⟨by rw [hf'], rfl, rfl⟩
                case rest =>
                  obtain ⟨rfl, rfl, rfl⟩ := hcut
                  have hf0 : (0 : Int) ≤ (f : Int) := by omega
                  have hf1 : (f : Int) < n := by omega
                  have hqs : f < (⟨T.toArray⟩ : ByteArray).size := by show f < T.length; omega
                  have hidx : (⟨T.toArray⟩ : ByteArray)[f]'hqs = d := by
                    have e := HFD.out 0
                    rw [Nat.add_zero, List.getElem?_eq_getElem (show f < T.length from hqs)] at e
                    exact Option.some.inj e
                  have hd' := (isDig_iff d).1 hok.2.1
                  have k1 : (48 : Int) ≤ (d.toNat : Int) := by omega
                  have k2 : (d.toNat : Int) ≤ 57 := by omega
                  have hall : ∀ q ∈ d :: ds, isDig q = true := by
                    intro q hq
                    rcases List.mem_cons.1 hq with h | h
                    · rw [h]; exact hok.2.1
                    · exact hok.2.2.1 q h
                  have HALL := Lib.hid hall
                  have hval : (Ex.some ec es d ds).val = (if es = Option.some true then -1 else 1) * (efold (d :: ds) : Int) := rfl
                  have HVAL := Lib.hid hval
                  have hDl : (d :: ds).length = ds.length + 1 := rfl
                  generalize hsg : (if es = Option.some true then (-1 : Int) else 1) = sg at *
                  have hsg1 : sg = 1 ∨ sg = -1 := by rw [← hsg]; split <;> simp
                  clear hok hall hval hsg hf
                  generalize d :: ds = D at *
                  go_upto_block 5 with fail
                  clear k1 k2 hidx hqs hd'
                  go_wp2_with fail
                  go_loop [7, 9, 20] (fun i us e => ∃ k : Nat, k ≤ D.length ∧ i = .int .i64 (f + k : Nat) ∧ us = .bool false ∧ e = .int .i64 (efold (D.take k) : Nat)) (fun i _ _ => n - (intOf i).toNat)
                  case atStart => exact ⟨0, Nat.zero_le _, by simp, rfl, rfl⟩
                  case round =>
                    obtain ⟨k, hk, rfl, rfl, rfl⟩ := hrel
                    have hle := efold_le (D.take k) fun q hq => HALL.out q (List.mem_of_mem_take hq)
                    by_cases hlt : k < D.length
                    · have hnx : efold (D.take (k + 1)) = estep (efold (D.take k)) D[k] := by
                        rw [List.take_succ_eq_append_getElem hlt, efold_snoc]
                      have hC := (isDig_iff _).1 (HALL.out _ (List.getElem_mem hlt))
                      obtain ⟨q, hq⟩ : ∃ q, q = f + k := ⟨_, rfl⟩
                      have hqs : q < (⟨T.toArray⟩ : ByteArray).size := by show q < T.length; omega
                      have hidx : (⟨T.toArray⟩ : ByteArray)[q]'hqs = D[k] := by
                        have e := HFD.out k
                        rw [← hq, List.getElem?_eq_getElem (show q < T.length from hqs), List.getElem?_eq_getElem hlt] at e
                        exact Option.some.inj e
                      rw [← hq]
                      have hmes : n - (q + 1) < n - q := by omega
                      have hq0 : (0 : Int) ≤ q := by omega
                      have hq1 : (q : Int) < n := by omega
                      generalize D[k] = C at *
                      generalize efold (D.take k) = e at *
                      have e1 : ((C.toNat : Int) == 95) = false := by simp; omega
                      have e3 : (48 : Int) ≤ (C.toNat : Int) := by omega
                      have e4 : (C.toNat : Int) ≤ 57 := by omega
                      have he0 : (0 : Int) ≤ (e : Int) := by omega
                      have he1 : (e : Int) ≤ 100000 := by omega
                      have HQ := Lib.hid hq
                      have HLT := Lib.hid hlt
                      by_cases he : e < 10000
                      · rw [estep, if_pos he] at hnx
                        have HNX := Lib.hid hnx
                        have he2 : (e : Int) < 10000 := by omega
                        clear hq hlt hC he hnx
                        go_wp2_with fail
                        go_round
                        case rel => exact ⟨k + 1, HLT.out, by rw [← Nat.add_assoc, ← HQ.out]; go_num, rfl, by rw [HNX.out] <;> (congr 1; omega)⟩
                        case measure => simp [intOf]; omega
                      · rw [estep, if_neg he] at hnx
                        have HNX := Lib.hid hnx
                        have he2 : (10000 : Int) ≤ (e : Int) := by omega
                        clear hq hlt hC he hnx
                        go_wp2_with fail
                        go_round
                        case rel => exact ⟨k + 1, HLT.out, by rw [← Nat.add_assoc, ← HQ.out]; go_num, rfl, by rw [HNX.out]⟩
                        case measure => simp [intOf]; omega
                    · have hkb : f + k = n := by omega
                      have htk : D.take k = D := List.take_of_length_le (by omega)
                      have hle2 := efold_le D HALL.out
                      rw [htk, hkb] at *
                      generalize efold D = e at *
                      have he0 : (0 : Int) ≤ (e : Int) := by omega
                      have he1 : (e : Int) ≤ 100000 := by omega
                      clear htk hkb hlt hk
                      rcases hsg1 with rfl | rfl
                      · go_wp2_with fail
                        go_meet
                        exact ⟨rfl, rfl, by rw [HVAL.out]; go_num, rfl⟩
                      · go_wp2_with fail
                        go_meet
                        exact ⟨rfl, rfl, by rw [HVAL.out]; go_num, rfl⟩
            case rest =>
              obtain ⟨rfl, rfl, rfl, rfl⟩ := hcut
              have hxv := Ex.val_le HX.out
              have hx1 : (dq + x.val : Int) ≤ 200000 := by omega
              have hx2 : -200000 ≤ (dq + x.val : Int) := by omega
              generalize dq + x.val = dv at *
              by_cases hm : s.m = 0
              · rw [if_pos hm] at HE
                have hm' : (s.m : Int) = 0 := by omega
                go_wp2_with fail
                simp only [Exit.noGoto]
                refine bodyPost_ret (v := .tuple #[.int .u64 s.m, .int .i64 0, .bool b, .bool s.tr, .bool false, .int .i64 n, .bool true]) (by simp [results, Tryz.results231, go_sem]) rfl ?_
                exact ⟨by rw [HE.out, HRB.out, hm, hL], rfl⟩
              · rw [if_neg hm] at HE
                have hm' : ((s.m : Int) != 0) = true := by simp; omega
                have hm2 : ¬ (s.m : Int) = 0 := by omega
                go_wp2_with fail
                simp only [Exit.noGoto]
                refine bodyPost_ret (v := .tuple #[.int .u64 s.m, .int .i64 (dv - s.nm), .bool b, .bool s.tr, .bool false, .int .i64 n, .bool true]) (by simp [results, Tryz.results231, go_sem]) rfl ?_
                exact ⟨by rw [HE.out, HRB.out, hL], rfl⟩
end Go.Proofs.YtlmogijkkhdogaaGreatDoor
