import Derived.Test.YtlmogijkkhdogaaGreatDoorO
import Derived.Deep.RegionHeld3
import Derived.IntWalk
namespace Go.Proofs.YtlmogijkkhdogaaGreatDoor
open Go.RowKit
set_option maxRecDepth 100000

theorem cell_of_heap {w w' : World} {b o : Nat} (h : w'.heap[b]? = w.heap[b]?) : w'.cell? ⟨b, o, none⟩ = w.cell? ⟨b, o, none⟩ :=
  World.cell?_of_block (w := w) (a := ⟨b, o, none⟩) h

/-- what the library's own variables hold. -/
structure Glob (w : World) : Prop where
  bad : ∃ te pe, w.cell? ⟨3, 0, none⟩ = some (.iface te pe)
  range : ∃ te pe, w.cell? ⟨4, 0, none⟩ = some (.iface te pe)
  pow : Lib.TabIs Tryz.prog w "internal/strconv.uint64pow10" .u64 Lib.pow10Tab
  fast : w.cell? ⟨2, 0, none⟩ = some (.bool true)

theorem gPow : Tryz.prog.globalNamed "internal/strconv.uint64pow10" = some 1 := by kernel_rfl

theorem Glob.keep {w w' : World} (h : Glob w) (hk : ∀ b, b < w.heap.size → b < 17 → w'.heap[b]? = w.heap[b]?) : Glob w' := by
  obtain ⟨⟨t1, p1, h1⟩, ⟨t2, p2, h2⟩, h3, h4⟩ := h
  have key : ∀ b o v, b < 17 → w.cell? ⟨b, o, none⟩ = some v → w'.cell? ⟨b, o, none⟩ = some v := fun b o v hb hc =>
    (cell_of_heap (hk b (World.block_lt_of_cell? w _ hc) hb)).trans hc
  refine ⟨⟨t1, p1, key _ _ _ (by omega) h1⟩, ⟨t2, p2, key _ _ _ (by omega) h2⟩, ?_, key _ _ _ (by omega) h4⟩
  unfold Lib.TabIs World.var? at h3 ⊢
  rw [gPow] at h3 ⊢
  have hlt : 1 < w.heap.size := by
    apply Classical.byContradiction
    intro hn
    have : w.heap[1]? = none := Array.getElem?_eq_none (by omega)
    simp [this] at h3
  simp only [Option.bind_some] at h3 ⊢
  rw [hk 1 hlt (by omega)]
  exact h3

theorem Glob.below {w w' : World} (h : Glob w) (hb : Below w.heap.size w w') : Glob w' := h.keep fun b hb' _ => hb.block b hb'

theorem asks_long (l : List UInt8) (w : World) (h : 64 < l.length) (h2 : l.length ≤ 1073741824) : Calls Tryz.prog 60 #[.string ⟨l.toArray⟩] w fun e w' =>
    e = .returned (.tuple #[.agg #[.bool false, .string ⟨#[]⟩, .string ⟨#[]⟩, .string ⟨#[]⟩], .iface 85 (.int .i64 3)]) ∧ Below w.heap.size w w' := by
  have hp : parseL l = none := by rw [parseL, if_pos h]
  have HP := Lib.hid hp
  clear hp
  go_enter Tryz.func60, Tryz.ntmps60
  go_wp2_with (go_at_call 66; refine (parse_long l _ h h2).mono ?_; rw [HP.out]; rintro e w' ⟨hb, rfl⟩; obtain ⟨hc1, hf1⟩ := bcell hb; have hz1 : w.heap.size < w'.heap.size := (by have := hb.size; simp at this; omega))
  refine bodyPost_ret (v := .tuple #[.agg #[.bool false, .string ⟨#[]⟩, .string ⟨#[]⟩, .string ⟨#[]⟩], .iface 85 (.int .i64 3)]) (by simp [results, Tryz.results60, go_sem, hc1, hz1]) rfl ⟨rfl, ?_⟩
  (repeat (first | with_reducible refine Below.alloc ?_ (by simp; omega) _ | with_reducible refine Below.setCell ?_ (by simp) _))
  exact (((Below.refl _ _).alloc (Nat.le_refl _) _)).trans (hb.mono (by simp))

theorem asks_form (l : List UInt8) (w : World) (h : ¬ 64 < l.length) (hp : parseL l = none) : Calls Tryz.prog 60 #[.string ⟨l.toArray⟩] w fun e w' =>
    e = .returned (.tuple #[.agg #[.bool false, .string ⟨#[]⟩, .string ⟨#[]⟩, .string ⟨#[]⟩], .iface 85 (.int .i64 2)]) ∧ Below w.heap.size w w' := by
  have HP := Lib.hid hp
  have HL := Lib.hid h
  have hl : l.length ≤ 64 := by omega
  clear hp h
  go_enter Tryz.func60, Tryz.ntmps60
  go_wp2_with (go_at_call 66; refine (parse_any l _ HL.out).mono ?_; rw [HP.out]; rintro e w' ⟨hb, rfl⟩; obtain ⟨hc1, hf1⟩ := bcell hb; have hz1 : w.heap.size < w'.heap.size := (by have := hb.size; simp at this; omega))
  refine bodyPost_ret (v := .tuple #[.agg #[.bool false, .string ⟨#[]⟩, .string ⟨#[]⟩, .string ⟨#[]⟩], .iface 85 (.int .i64 2)]) (by simp [results, Tryz.results60, go_sem, hc1, hz1]) rfl ⟨rfl, ?_⟩
  (repeat (first | with_reducible refine Below.alloc ?_ (by simp; omega) _ | with_reducible refine Below.setCell ?_ (by simp) _))
  exact (((Below.refl _ _).alloc (Nat.le_refl _) _)).trans (hb.mono (by simp))

theorem asks_ok (l : List UInt8) (p : Parts) (w : World) (h : ¬ 64 < l.length) (hp : parseL l = some p) : Calls Tryz.prog 60 #[.string ⟨l.toArray⟩] w fun e w' =>
    e = .returned (.tuple #[.agg #[.bool p.below, .string ⟨p.ahead.toArray⟩, .string ⟨p.behind.toArray⟩, .string ⟨p.power.toArray⟩], .nilIface]) ∧ Below w.heap.size w w' := by
  have HP := Lib.hid hp
  have HL := Lib.hid h
  have hl : l.length ≤ 64 := by omega
  clear hp h
  go_enter Tryz.func60, Tryz.ntmps60
  go_wp2_with (go_at_call 66; refine (parse_any l _ HL.out).mono ?_; rw [HP.out]; rintro e w' ⟨hb, rfl⟩; obtain ⟨hc1, hf1⟩ := bcell hb; have hz1 : w.heap.size < w'.heap.size := (by have := hb.size; simp at this; omega))
  refine bodyPost_ret (v := .tuple #[.agg #[.bool p.below, .string ⟨p.ahead.toArray⟩, .string ⟨p.behind.toArray⟩, .string ⟨p.power.toArray⟩], .nilIface]) (by simp [results, Tryz.results60, go_sem, hc1, hz1]) rfl ⟨rfl, ?_⟩
  (repeat (first | with_reducible refine Below.alloc ?_ (by simp; omega) _ | with_reducible refine Below.setCell ?_ (by simp) _))
  exact (((Below.refl _ _).alloc (Nat.le_refl _) _)).trans (hb.mono (by simp))

theorem atoi_ok (l : List UInt8) (v : Int) (w : World) (hl : l.length ≤ 1073741824) (h : Lib.atoiAll l = .ok v) : Calls Tryz.prog 124 #[.string ⟨l.toArray⟩] w fun e w' =>
    e = .returned (.tuple #[.int .i64 v, .nilIface]) ∧ Below w.heap.size w w' :=
  (Tryz.strconv_Atoi_ok ⟨l.toArray⟩ (by show l.length ≤ _; omega) v h w).mono fun e w' ⟨h1, h2⟩ => ⟨h1, by
    rcases h2 with rfl | ⟨t, rfl⟩
    · exact Below.refl _ _
    · exact Lib.bytesWorld_below _ _ _⟩

theorem atoi_bad (l : List UInt8) (w : World) (hg : Glob w) (hl : l.length ≤ 1073741824) (h : ∀ v, Lib.atoiAll l ≠ .ok v) : Calls Tryz.prog 124 #[.string ⟨l.toArray⟩] w fun e w' =>
    ∃ n N, e = .returned (.tuple #[.int .i64 n, .iface 159 (.pointer (some ⟨N, 0, none⟩))]) ∧ Below w.heap.size w w' := by
  obtain ⟨ts, ps, hs⟩ := hg.bad
  obtain ⟨tr, pr, hr⟩ := hg.range
  cases ha : Lib.atoiAll l
  · exact absurd ha (h _)
  · refine (Tryz.strconv_Atoi_syntax ⟨l.toArray⟩ (by show l.length ≤ _; omega) ha _ w hs (.inr ⟨_, _, rfl⟩)).mono ?_
    rintro e w' ⟨N, h1, h2, h3, h4⟩
    exact ⟨_, N, h1, h4⟩
  · refine (Tryz.strconv_Atoi_range ⟨l.toArray⟩ (by show l.length ≤ _; omega) ha _ w hr (.inr ⟨_, _, rfl⟩)).mono ?_
    rintro e w' ⟨N, h1, h2, h3, h4⟩
    exact ⟨_, N, h1, h4⟩

/-- an exponent's number, or one that is as good. -/
def expo (pw : List UInt8) : Int :=
  if pw = [] then 0 else match Lib.atoiAll pw with
  | .ok n => if 128 < n ∨ n < -128 then (if (pw.head? == some 45) = true then -128 else 128) else n
  | _ => if (pw.head? == some 45) = true then -128 else 128

theorem expo_range (pw : List UInt8) : -128 ≤ expo pw ∧ expo pw ≤ 128 := by
  unfold expo
  split
  · omega
  · split
    · split
      · split <;> omega
      · omega
    · split <;> omega

theorem hasPrefix_one (l : List UInt8) (c : UInt8) : Lib.hasPrefix l [c] = (l.head? == some c) := by
  cases l with
  | nil => rfl
  | cons a t =>
    by_cases h : c = a
    · subst h; simp [Lib.hasPrefix, List.isPrefixOf]
    · have h2 : (c == a) = false := by simpa using h
      have h3 : (a == c) = false := by rw [BEq.comm]; exact h2
      simp only [Lib.hasPrefix, List.isPrefixOf, h2, List.head?_cons, Option.some_beq_some, h3, Bool.false_and]

theorem hasPrefix_any (l : List UInt8) (c : UInt8) (w : World) :
    Calls Tryz.prog 125 #[.string ⟨l.toArray⟩, .string ⟨#[c]⟩] w fun e w' => e = .returned (.bool (l.head? == some c)) ∧ w' = w :=
  (Tryz.strings_HasPrefix ⟨l.toArray⟩ ⟨#[c]⟩ w).mono fun e w' ⟨h1, h2⟩ => ⟨by rw [h1]; exact congrArg (fun b => Ending.returned (.bool b)) (hasPrefix_one l c), h2⟩

set_option maxHeartbeats 800000 in
theorem exponent_any (b : Bool) (x y pw : List UInt8) (w : World) (hg : Glob w) (hl : pw.length ≤ 1073741824) :
    Calls Tryz.prog 90 #[.agg #[.bool b, .string ⟨x.toArray⟩, .string ⟨y.toArray⟩, .string ⟨pw.toArray⟩]] w fun e w' => e = .returned (.int .i64 (expo pw)) ∧ Below w.heap.size w w' := by
  by_cases h0 : pw = []
  · subst h0
    go_enter Tryz.func90, Tryz.ntmps90
    go_wp2
    go_ret
    exact ⟨rfl, (Below.refl _ _).alloc (Nat.le_refl _) _⟩
  · have he : pw.isEmpty = false := by simpa using h0
    have HG := Lib.hid (show Glob (w.alloc (.cells #[.bool b, .string ⟨x.toArray⟩, .string ⟨y.toArray⟩, .string ⟨pw.toArray⟩] 92)) from hg.below ((Below.refl _ _).alloc (Nat.le_refl _) _))
    clear hg
    by_cases hok : ∃ v, Lib.atoiAll pw = .ok v
    · obtain ⟨v, hv⟩ := hok
      have HV := Lib.hid hv
      clear hv
      by_cases hbig : 128 < v ∨ v < -128
      · have hE := Lib.hid (show expo pw = if (pw.head? == some 45) = true then -128 else 128 by rw [expo, if_neg h0, HV.out]; simp only; rw [if_pos hbig])
        cases hh : (pw.head? == some 45)
        all_goals
          have hE2 := Lib.hid hE.out
          rw [hh] at hE2
          rcases hbig with hb1 | hb1
          all_goals
            go_enter Tryz.func90, Tryz.ntmps90
            go_wp2_with (first | (go_at_call 124; refine (atoi_ok pw v _ hl HV.out).mono ?_; rintro e w' ⟨rfl, hb⟩; obtain ⟨hc1, hf1⟩ := bcell hb) | (go_at_call 125; refine (hasPrefix_any _ _ _).mono ?_; rintro e w' ⟨rfl, rfl⟩))
            go_ret
            exact ⟨by rw [hE2.out]; rfl, ((Below.refl _ _).alloc (Nat.le_refl _) _).trans (hb.mono (by simp))⟩
      · have hE := Lib.hid (show expo pw = v by rw [expo, if_neg h0, HV.out]; simp only; rw [if_neg hbig])
        have hv1 : v ≤ 128 := by omega
        have hv2 : -128 ≤ v := by omega
        clear hbig
        go_enter Tryz.func90, Tryz.ntmps90
        go_wp2_with (go_at_call 124; refine (atoi_ok pw v _ hl HV.out).mono ?_; rintro e w' ⟨rfl, hb⟩)
        go_ret
        exact ⟨by rw [hE.out]; rfl, ((Below.refl _ _).alloc (Nat.le_refl _) _).trans (hb.mono (by simp))⟩
    · have hbad := Lib.hid (show ∀ v, Lib.atoiAll pw ≠ .ok v from fun v hv => hok ⟨v, hv⟩)
      have hE := Lib.hid (show expo pw = if (pw.head? == some 45) = true then -128 else 128 by
        rw [expo, if_neg h0]
        split
        · rename_i n hn; exact absurd hn (hbad.out n)
        · rfl)
      clear hok
      cases hh : (pw.head? == some 45)
      all_goals
        have hE2 := Lib.hid hE.out
        rw [hh] at hE2
        go_enter Tryz.func90, Tryz.ntmps90
        go_wp2_with (first | (go_at_call 124; refine (atoi_bad pw _ HG.out hl hbad.out).mono ?_; rintro e w' ⟨n, N, rfl, hb⟩; obtain ⟨hc1, hf1⟩ := bcell hb) | (go_at_call 125; refine (hasPrefix_any _ _ _).mono ?_; rintro e w' ⟨rfl, rfl⟩))
        go_ret
        exact ⟨by rw [hE2.out]; rfl, ((Below.refl _ _).alloc (Nat.le_refl _) _).trans (hb.mono (by simp))⟩

theorem trim_any (l : List UInt8) (w : World) (hl : l.length ≤ 1073741824) : Calls Tryz.prog 91 #[.string ⟨l.toArray⟩, .string ⟨#[48]⟩] w fun e w' =>
    e = .returned (.string ⟨(Lib.trimB l 48).toArray⟩) ∧ Below w.heap.size w w' :=
  (Tryz.strings_Trim_one ⟨l.toArray⟩ 48 (by decide) w (by show l.length ≤ _; omega)).mono fun e w' ⟨h1, h2⟩ => ⟨h1, by
    rcases h2 with rfl | rfl
    · exact Below.refl _ _
    · exact (Below.refl _ _).drew⟩

theorem trimLeft_any (l : List UInt8) (w : World) : Calls Tryz.prog 92 #[.string ⟨l.toArray⟩, .string ⟨#[48]⟩] w fun e w' =>
    e = .returned (.string ⟨(Lib.trimLeftB l 48).toArray⟩) ∧ w' = w :=
  Tryz.strings_TrimLeft_one ⟨l.toArray⟩ 48 (by decide) w

theorem repeat_any (c : Nat) (w : World) (hc : c ≤ 1073741824) : Calls Tryz.prog 93 #[.string ⟨#[48]⟩, .int .i64 c] w fun e w' =>
    e = .returned (.string ⟨(Lib.repeatL [48] c).toArray⟩) ∧ Below w.heap.size w w' :=
  Tryz.strings_Repeat ⟨#[48]⟩ c w (by omega) (by show 1 * c ≤ _; omega)

def Parts.all (p : Parts) : List UInt8 := p.ahead ++ p.behind
def Parts.point (p : Parts) : Int := p.ahead.length + expo p.power
def Parts.cut (p : Parts) : Nat := (min (max p.point 0) p.all.length).toNat

/-- the figures of a whole number. -/
def wholeL (p : Parts) : Option (List UInt8) :=
  if Lib.trimB (p.all.drop p.cut) 48 = [] then
    if Lib.trimLeftB (p.all.take p.cut) 48 = [] then some [48]
    else some (Lib.trimLeftB (p.all.take p.cut) 48 ++ Lib.repeatL [48] (p.point - p.cut).toNat)
  else none

def WRes (w : World) (r : Option (List UInt8)) (e : Ending) (w' : World) : Prop :=
  Below w.heap.size w w' ∧ match r with | some l => e = .returned (.tuple #[.string ⟨l.toArray⟩, .bool true]) | none => e = .returned (.tuple #[.string ⟨#[]⟩, .bool false])

theorem wres_none {w w' : World} {e : Ending} {r : Option (List UInt8)} (hr : r = none) (he : e = .returned (.tuple #[.string ⟨#[]⟩, .bool false])) (hb : Below w.heap.size w w') : WRes w r e w' := by
  subst hr; exact ⟨hb, he⟩
theorem wres_some {w w' : World} {e : Ending} {r : Option (List UInt8)} (l : List UInt8) (hr : r = some l) (he : e = .returned (.tuple #[.string ⟨l.toArray⟩, .bool true])) (hb : Below w.heap.size w w') : WRes w r e w' := by
  subst hr; exact ⟨hb, he⟩

theorem trimLeftB_length (l : List UInt8) (c : UInt8) : (Lib.trimLeftB l c).length ≤ l.length := by
  induction l with
  | nil => simp [Lib.trimLeftB]
  | cons a l ih =>
    simp only [Lib.trimLeftB, List.dropWhile_cons] at ih ⊢
    split
    · simp only [List.length_cons]; omega
    · simp

set_option maxHeartbeats 800000 in
theorem whole_any (p : Parts) (w : World) (hg : Glob w) (h1 : p.ahead.length ≤ 1000) (h2 : p.behind.length ≤ 1000) (h3 : p.power.length ≤ 1000) :
    Calls Tryz.prog 63 #[.agg #[.bool p.below, .string ⟨p.ahead.toArray⟩, .string ⟨p.behind.toArray⟩, .string ⟨p.power.toArray⟩]] w (WRes w (wholeL p)) := by
  obtain ⟨b, x, y, pw⟩ := p
  have HG := Lib.hid (show Glob (w.alloc (.cells #[.bool b, .string ⟨x.toArray⟩, .string ⟨y.toArray⟩, .string ⟨pw.toArray⟩] 92)) from hg.below ((Below.refl _ _).alloc (Nat.le_refl _) _))
  clear hg
  have hex := expo_range pw
  have hxe := exponent_any b x y pw
  generalize hev : expo pw = ev at hex hxe
  have HEX := Lib.hid hxe
  have HEV := Lib.hid hev
  clear hxe hev
  simp only at h1 h2 h3 ⊢
  have hx0 : (0 : Int) ≤ (x.length : Int) := Int.natCast_nonneg _
  have hx1 : (x.length : Int) ≤ 1000 := by omega
  obtain ⟨he0, he1⟩ := hex
  go_enter Tryz.func63, Tryz.ntmps63
  go_upto_region 2 with fail
  rw [ba_append]
  go_region_held3 (fun w' => w'.cell? ⟨w.heap.size, 0, none⟩ = some (.bool b) ∧ w'.cell? ⟨w.heap.size, 1, none⟩ = some (.string ⟨x.toArray⟩) ∧ w'.cell? ⟨w.heap.size, 2, none⟩ = some (.string ⟨y.toArray⟩) ∧ w'.cell? ⟨w.heap.size, 3, none⟩ = some (.string ⟨pw.toArray⟩))
    (first | go_keep | (refine ⟨?_, ?_, ?_, ?_⟩ <;> (rw [hc1 _ _ (by simp)]; simp [go_sem])))
    ((first | (go_at_call 90; refine (HEX.out _ (by exact HG.out.keep fun _ _ _ => rfl) (by omega)).mono ?_; rintro e w1 ⟨rfl, hb1⟩; obtain ⟨hc1, hf1⟩ := bcell hb1)))
  have hwr : IntKind.i64.wrap ((x.length : Int) + ev) = (x.length : Int) + ev := IntWalk.i64_in _ (by omega)
  rw [hwr]
  clear hwr
  obtain ⟨pt, hpt⟩ : ∃ pt : Int, (x.length : Int) + ev = pt := ⟨_, rfl⟩
  obtain ⟨ct, hct⟩ : ∃ ct : Nat, min (max pt 0) ((x.length : Int) + (y.length : Int)) = ct := ⟨(min (max pt 0) ((x.length : Int) + (y.length : Int))).toNat, by omega⟩
  have hc1 : ct ≤ x.length + y.length := by omega
  have hc2 : 0 ≤ pt → (ct : Int) ≤ pt := by omega
  have hc3 : pt < 0 → ct = 0 := by omega
  have hpr : -128 ≤ pt ∧ pt ≤ 1128 := by omega
  have hW : wholeL ⟨b, x, y, pw⟩ = if Lib.trimB ((x ++ y).drop ct) 48 = [] then
      if Lib.trimLeftB ((x ++ y).take ct) 48 = [] then some [48] else some (Lib.trimLeftB ((x ++ y).take ct) 48 ++ Lib.repeatL [48] (pt - ct).toNat) else none := by
    have e1 : (Parts.mk b x y pw).point = pt := by show (x.length : Int) + expo pw = pt; rw [HEV.out]; exact hpt
    have e2 : (Parts.mk b x y pw).cut = ct := by
      show (min (max (Parts.point _) 0) (Parts.all _).length).toNat = ct
      rw [e1]
      show (min (max pt 0) (((x ++ y).length : Nat) : Int)).toNat = ct
      rw [List.length_append]
      omega
    rw [wholeL, e2, e1]; rfl
  rw [hpt]
  have HW := Lib.hid hW
  have HCT := Lib.hid hct
  have HC3 := Lib.hid hc3
  have HC2 := Lib.hid hc2
  clear hW hct hpt hc3 hc2
  have b1 : Below w.heap.size w w1 := ((Below.refl _ _).alloc (Nat.le_refl _) _).trans (Below.mono ⟨hb1.os, hb1.tape, hb1.output, hb1.size, hb1.block⟩ (by simp))
  have HB1 := Lib.hid b1
  clear b1 hb1
  obtain ⟨hp0, hp1⟩ := hpr
  go_wp2_with fail
  rw [HCT.out, Int.toNat_natCast]
  rw [show (⟨(x ++ y).toArray⟩ : ByteArray).extract ct (x.length + y.length) = ⟨((x ++ y).drop ct).toArray⟩ from by
    rw [ba_extract, List.take_of_length_le]; simp]
  refine (trim_any _ _ (by simp; omega)).mono ?_
  rintro e w2 ⟨rfl, hb2⟩
  have b2 := Lib.hid (HB1.out.trans (hb2.mono (by have := HB1.out.size; omega)))
  clear hb2
  generalize htb : Lib.trimB ((x ++ y).drop ct) 48 = tb
  generalize htk : Lib.trimLeftB ((x ++ y).take ct) 48 = tk
  have HW2 := Lib.hid HW.out
  rw [htb, htk] at HW2
  have htl := trimLeft_any ((x ++ y).take ct)
  rw [htk] at htl
  have HTL := Lib.hid htl
  have hz : tk.length ≤ 2000 := by rw [← htk]; have := trimLeftB_length ((x ++ y).take ct) 48; simp at this; omega
  have hneg : pt < 0 → tk = [] := fun h => by rw [← htk, HC3.out h]; rfl
  have HNEG := Lib.hid hneg
  clear htb htk htl hneg HW
  have hct0 : (0 : Int) ≤ (ct : Int) := Int.natCast_nonneg _
  have hct1 : (ct : Int) ≤ ((x.length : Int) + (y.length : Int)) := by omega
  by_cases hb : tb = []
  · subst hb
    go_wp2_with fail
    rw [show (⟨(x ++ y).toArray⟩ : ByteArray).extract 0 ct = ⟨((x ++ y).take ct).toArray⟩ from by rw [ba_extract]; simp]
    refine (HTL.out _).mono ?_
    rintro e w3 ⟨rfl, rfl⟩
    by_cases hk : tk = []
    · subst hk
      have HR := Lib.hid (show wholeL ⟨b, x, y, pw⟩ = some [48] by rw [HW2.out]; simp)
      go_wp2
      go_ret2
      exact wres_some [48] HR.out rfl b2.out
    · have hk2 : tk.isEmpty = false := by simpa using hk
      obtain ⟨q, hq⟩ : ∃ q : Nat, pt - ct = q := ⟨(pt - ct).toNat, by have := HC2.out; have := HNEG.out; by_cases h : pt < 0 <;> simp_all; omega⟩
      have HR := Lib.hid (show wholeL ⟨b, x, y, pw⟩ = some (tk ++ Lib.repeatL [48] q) by rw [HW2.out, if_pos (by simp), if_neg hk, hq, Int.toNat_natCast])
      have hq2 : q ≤ 2000 := by omega
      have hrl : (Lib.repeatL [48] q).length = q := by rw [Lib.repeatL_length]; simp
      generalize hrp : Lib.repeatL [48] q = rp at *
      have hrep := repeat_any q
      rw [hrp] at hrep
      have HREP := Lib.hid hrep
      have HQ := Lib.hid hq
      have hrl2 : rp.length ≤ 2000 := by omega
      clear hrep hq hrp hrl
      go_wp2_with fail
      rw [HQ.out]
      refine (HREP.out _ (by omega)).mono ?_
      rintro e w4 ⟨rfl, hb4⟩
      go_wp2
      go_ret2
      refine wres_some _ HR.out ?_ (b2.out.trans (hb4.mono (by have := b2.out.size; omega)))
      show Ending.returned (.tuple #[.string (⟨tk.toArray⟩ ++ ⟨rp.toArray⟩), .bool true]) = _
      rw [ba_append]
  · have hb2 : tb.isEmpty = false := by simpa using hb
    have HR := Lib.hid (show wholeL ⟨b, x, y, pw⟩ = none by rw [HW2.out, if_neg hb])
    go_wp2
    go_ret2
    exact wres_none HR.out rfl b2.out

/-- a text's whole number, or an error's number. -/
def wholeN (l : List UInt8) : Except Int Int :=
  if 64 < l.length then .error 3 else match parseL l with
  | none => .error 2
  | some p => match wholeL p with
    | none => .error 11
    | some f => if 20 < f.length then .error 1 else match Lib.parseIntB 64 (if p.below then 45 :: f else f) with
      | .ok n => .ok n
      | _ => .error 1

def NRes (w : World) (r : Except Int Int) (e : Ending) (w' : World) : Prop :=
  Below w.heap.size w w' ∧ match r with | .ok n => e = .returned (.tuple #[.int .i64 n, .nilIface]) | .error c => e = .returned (.tuple #[.int .i64 0, .iface 85 (.int .i64 c)])

theorem nres_ok {w w' : World} {e : Ending} {r : Except Int Int} (n : Int) (hr : r = .ok n) (he : e = .returned (.tuple #[.int .i64 n, .nilIface])) (hb : Below w.heap.size w w') : NRes w r e w' := by
  subst hr; exact ⟨hb, he⟩
theorem nres_error {w w' : World} {e : Ending} {r : Except Int Int} (c : Int) (hr : r = .error c) (he : e = .returned (.tuple #[.int .i64 0, .iface 85 (.int .i64 c)])) (hb : Below w.heap.size w w') : NRes w r e w' := by
  subst hr; exact ⟨hb, he⟩

theorem parseInt_ok (l : List UInt8) (v : Int) (w : World) (hl : l.length ≤ 1073741824) (h : Lib.parseIntB 64 l = .ok v) : Calls Tryz.prog 64 #[.string ⟨l.toArray⟩, .int .i64 10, .int .i64 64] w fun e w' =>
    e = .returned (.tuple #[.int .i64 v, .nilIface]) ∧ Below w.heap.size w w' :=
  (Tryz.strconv_ParseInt_10_at64_ok ⟨l.toArray⟩ (by show l.length ≤ _; omega) v h w).mono fun e w' ⟨h1, h2⟩ => ⟨h1, by
    rcases h2 with rfl | ⟨t, rfl⟩
    · exact Below.refl _ _
    · exact Lib.bytesWorld_below _ _ _⟩

theorem parseInt_bad (l : List UInt8) (w : World) (hg : Glob w) (hl : l.length ≤ 1073741824) (h : ∀ v, Lib.parseIntB 64 l ≠ .ok v) : Calls Tryz.prog 64 #[.string ⟨l.toArray⟩, .int .i64 10, .int .i64 64] w fun e w' =>
    ∃ n N, e = .returned (.tuple #[.int .i64 n, .iface 159 (.pointer (some ⟨N, 0, none⟩))]) ∧ Below w.heap.size w w' := by
  obtain ⟨ts, ps, hs⟩ := hg.bad
  obtain ⟨tr, pr, hr⟩ := hg.range
  cases ha : Lib.parseIntB 64 l
  · exact absurd ha (h _)
  · refine (Tryz.strconv_ParseInt_10_at64_syntax ⟨l.toArray⟩ (by show l.length ≤ _; omega) ha _ w hs (.inr ⟨_, _, rfl⟩)).mono ?_
    rintro e w' ⟨N, h1, h2, h3, h4⟩
    exact ⟨_, N, h1, h4⟩
  · refine (Tryz.strconv_ParseInt_10_at64_range ⟨l.toArray⟩ (by show l.length ≤ _; omega) ha _ w hr (.inr ⟨_, _, rfl⟩)).mono ?_
    rintro e w' ⟨N, h1, h2, h3, h4⟩
    exact ⟨_, N, h1, h4⟩

theorem parseL_length {l : List UInt8} {p : Parts} (h : parseL l = some p) : p.ahead.length ≤ 1000 ∧ p.behind.length ≤ 1000 ∧ p.power.length ≤ 1000 := by
  unfold parseL at h
  split at h
  · cases h
  rename_i h64
  have h1 := unsign_length l
  generalize neg l = b at h
  generalize unsign l = s at h h1
  have h2 := digs_rest s
  have pow : ∀ {b x y sg t q}, parsePow b x y sg t = some q → q.ahead = x ∧ q.behind = y ∧ q.power.length ≤ sg.length + t.length := by
    intro b x y sg t q hq
    unfold parsePow at hq
    split at hq
    · cases hq
    · cases hq
      have := digs_rest t
      refine ⟨rfl, rfl, ?_⟩
      simp only [List.length_append]; omega
  have ex : ∀ {b x y s q}, parseExp b x y s = some q → q.ahead = x ∧ q.behind = y ∧ q.power.length ≤ s.length + 1 := by
    intro b x y s q hq
    cases s with
    | nil => cases hq; exact ⟨rfl, rfl, by simp⟩
    | cons c s =>
      simp only [parseExp] at hq
      split at hq
      · cases hq
      · obtain ⟨h1, h2, h3⟩ := pow hq
        have := signOf_length s
        have := behindSign_length s
        refine ⟨h1, h2, ?_⟩
        simp only [List.length_cons]; omega
  unfold parseTail at h
  split at h
  · cases h
  unfold parseDot at h
  split at h
  · split at h
    · cases h
    · obtain ⟨e1, e2, e3⟩ := ex h
      have h3 := digs_rest (undot (rest s))
      have h4 := undot_length (rest s)
      rw [e1, e2]
      exact ⟨by omega, by omega, by omega⟩
  · obtain ⟨e1, e2, e3⟩ := ex h
    rw [e1, e2]
    exact ⟨by omega, by simp, by omega⟩

set_option maxHeartbeats 1600000 in
theorem numWhole_last (l : List UInt8) (b : Bool) (x y pw f : List UInt8) (w : World) (hl : l.length ≤ 1073741824) (H64 : Hid (¬ 64 < l.length)) (HP : Hid (parseL l = some ⟨b, x, y, pw⟩)) (HG : Hid (Glob w))
    (HW : Hid (wholeL ⟨b, x, y, pw⟩ = some f)) (hp1 : x.length ≤ 1000) (hp2 : y.length ≤ 1000) (hp3 : pw.length ≤ 1000) (h20n : f.length ≤ 20) (h20' : (f.length : Int) ≤ 20)
    (hr2 : wholeN l = match Lib.parseIntB 64 (if b = true then 45 :: f else f) with | .ok n => .ok n | _ => .error 1) : Calls Tryz.prog 23 #[.string ⟨l.toArray⟩] w (NRes w (wholeN l)) := by
  by_cases hok : ∃ v, Lib.parseIntB 64 (if b = true then 45 :: f else f) = .ok v
  · obtain ⟨v, hv⟩ := hok
    have HR := Lib.hid (show wholeN l = .ok v by rw [hr2, hv])
    have HV := Lib.hid hv
    clear hr2 hv
    cases b
    · simp only [Bool.false_eq_true, if_false] at HV
      go_enter Tryz.func23, Tryz.ntmps23
      go_wp2_with (first | (go_at_call 60; refine (asks_ok l ⟨false, x, y, pw⟩ _ H64.out HP.out).mono ?_; rintro e w1 ⟨rfl, hb1⟩) | (go_at_call 63; refine (whole_any ⟨false, x, y, pw⟩ _ (by exact HG.out.below (hb1.alloc hb1.size _)) hp1 hp2 hp3).mono ?_; rw [HW.out]; rintro e w2 ⟨hb2, rfl⟩; obtain ⟨hc2, hf2⟩ := bcell hb2) | (go_at_call 64; refine (parseInt_ok _ v _ (by omega) HV.out).mono ?_; rintro e w3 ⟨rfl, hb3⟩))
      go_ret2
      have b2 := (hb1.alloc hb1.size (.cells #[.bool false, .string ⟨x.toArray⟩, .string ⟨y.toArray⟩, .string ⟨pw.toArray⟩] 92)).trans (hb2.mono (by have := hb1.size; simp; omega))
      exact nres_ok v HR.out rfl (b2.trans (hb3.mono b2.size))
    · simp only [if_true] at HV
      go_enter Tryz.func23, Tryz.ntmps23
      go_wp2_with (first | (go_at_call 60; refine (asks_ok l ⟨true, x, y, pw⟩ _ H64.out HP.out).mono ?_; rintro e w1 ⟨rfl, hb1⟩) | (go_at_call 63; refine (whole_any ⟨true, x, y, pw⟩ _ (by exact HG.out.below (hb1.alloc hb1.size _)) hp1 hp2 hp3).mono ?_; rw [HW.out]; rintro e w2 ⟨hb2, rfl⟩; obtain ⟨hc2, hf2⟩ := bcell hb2) | (go_at_call 64; rw [show (⟨#[45]⟩ : ByteArray) ++ ⟨f.toArray⟩ = ⟨(45 :: f).toArray⟩ from ba_append [45] f]; refine (parseInt_ok _ v _ (by simp only [List.length_cons]; omega) HV.out).mono ?_; rintro e w3 ⟨rfl, hb3⟩))
      go_ret2
      have b2 := (hb1.alloc hb1.size (.cells #[.bool true, .string ⟨x.toArray⟩, .string ⟨y.toArray⟩, .string ⟨pw.toArray⟩] 92)).trans (hb2.mono (by have := hb1.size; simp; omega))
      exact nres_ok v HR.out rfl (b2.trans (hb3.mono b2.size))
  · have HB := Lib.hid (show ∀ v, Lib.parseIntB 64 (if b = true then 45 :: f else f) ≠ .ok v from fun v hv => hok ⟨v, hv⟩)
    have HR := Lib.hid (show wholeN l = .error 1 by
      rw [hr2]
      split
      · rename_i n hn; exact absurd ⟨n, hn⟩ hok
      · rfl)
    clear hr2 hok
    cases b
    · simp only [Bool.false_eq_true, if_false] at HB
      go_enter Tryz.func23, Tryz.ntmps23
      go_wp2_with (first | (go_at_call 60; refine (asks_ok l ⟨false, x, y, pw⟩ _ H64.out HP.out).mono ?_; rintro e w1 ⟨rfl, hb1⟩) | (go_at_call 63; refine (whole_any ⟨false, x, y, pw⟩ _ (by exact HG.out.below (hb1.alloc hb1.size _)) hp1 hp2 hp3).mono ?_; rw [HW.out]; rintro e w2 ⟨hb2, rfl⟩; obtain ⟨hc2, hf2⟩ := bcell hb2) | (go_at_call 64; refine (parseInt_bad _ _ (by exact HG.out.below ((hb1.alloc hb1.size _).trans (hb2.mono (by have := hb1.size; simp; omega)))) (by omega) HB.out).mono ?_; rintro e w3 ⟨n, N, rfl, hb3⟩))
      go_ret2
      have b2 := (hb1.alloc hb1.size (.cells #[.bool false, .string ⟨x.toArray⟩, .string ⟨y.toArray⟩, .string ⟨pw.toArray⟩] 92)).trans (hb2.mono (by have := hb1.size; simp; omega))
      exact nres_error 1 HR.out rfl (b2.trans (hb3.mono b2.size))
    · simp only [if_true] at HB
      go_enter Tryz.func23, Tryz.ntmps23
      go_wp2_with (first | (go_at_call 60; refine (asks_ok l ⟨true, x, y, pw⟩ _ H64.out HP.out).mono ?_; rintro e w1 ⟨rfl, hb1⟩) | (go_at_call 63; refine (whole_any ⟨true, x, y, pw⟩ _ (by exact HG.out.below (hb1.alloc hb1.size _)) hp1 hp2 hp3).mono ?_; rw [HW.out]; rintro e w2 ⟨hb2, rfl⟩; obtain ⟨hc2, hf2⟩ := bcell hb2) | (go_at_call 64; rw [show (⟨#[45]⟩ : ByteArray) ++ ⟨f.toArray⟩ = ⟨(45 :: f).toArray⟩ from ba_append [45] f]; refine (parseInt_bad _ _ (by exact HG.out.below ((hb1.alloc hb1.size _).trans (hb2.mono (by have := hb1.size; simp; omega)))) (by simp only [List.length_cons]; omega) HB.out).mono ?_; rintro e w3 ⟨n, N, rfl, hb3⟩))
      go_ret2
      have b2 := (hb1.alloc hb1.size (.cells #[.bool true, .string ⟨x.toArray⟩, .string ⟨y.toArray⟩, .string ⟨pw.toArray⟩] 92)).trans (hb2.mono (by have := hb1.size; simp; omega))
      exact nres_error 1 HR.out rfl (b2.trans (hb3.mono b2.size))

set_option maxHeartbeats 800000 in
theorem numWhole_any (l : List UInt8) (w : World) (hg : Glob w) (hl : l.length ≤ 1073741824) : Calls Tryz.prog 23 #[.string ⟨l.toArray⟩] w (NRes w (wholeN l)) := by
  by_cases h64 : 64 < l.length
  · have HR := Lib.hid (show wholeN l = .error 3 by rw [wholeN, if_pos h64])
    have H64 := Lib.hid h64
    clear h64
    go_enter Tryz.func23, Tryz.ntmps23
    go_wp2_with (go_at_call 60; refine (asks_long l _ H64.out hl).mono ?_; rintro e w' ⟨rfl, hb⟩)
    go_ret2
    exact nres_error 3 HR.out rfl (hb.alloc hb.size _)
  cases hp : parseL l with
  | none =>
    have HR := Lib.hid (show wholeN l = .error 2 by rw [wholeN, if_neg h64, hp])
    have H64 := Lib.hid h64
    have HP := Lib.hid hp
    clear h64 hp
    go_enter Tryz.func23, Tryz.ntmps23
    go_wp2_with (go_at_call 60; refine (asks_form l _ H64.out HP.out).mono ?_; rintro e w' ⟨rfl, hb⟩)
    go_ret2
    exact nres_error 2 HR.out rfl (hb.alloc hb.size _)
  | some p =>
    have hpl := parseL_length hp
    have hr : wholeN l = match wholeL p with
      | none => .error 11
      | some f => if 20 < f.length then .error 1 else match Lib.parseIntB 64 (if p.below then 45 :: f else f) with
        | .ok n => .ok n
        | _ => .error 1 := by rw [wholeN, if_neg h64, hp]
    have HP := Lib.hid hp
    have H64 := Lib.hid h64
    have HG := Lib.hid hg
    obtain ⟨hp1, hp2, hp3⟩ := hpl
    clear hp h64 hg
    cases hw : wholeL p with
    | none =>
      rw [hw] at hr
      have HR := Lib.hid hr
      have HW := Lib.hid hw
      clear hr hw
      go_enter Tryz.func23, Tryz.ntmps23
      go_wp2_with (first | (go_at_call 60; refine (asks_ok l p _ H64.out HP.out).mono ?_; rintro e w1 ⟨rfl, hb1⟩) | (go_at_call 63; refine (whole_any p _ (by exact HG.out.below (hb1.alloc hb1.size _)) hp1 hp2 hp3).mono ?_; rw [HW.out]; rintro e w2 ⟨hb2, rfl⟩))
      go_ret2
      exact nres_error 11 HR.out rfl ((hb1.alloc hb1.size _).trans (hb2.mono (by have := hb1.size; simp; omega)))
    | some f =>
      rw [hw] at hr
      have HW := Lib.hid hw
      clear hw
      by_cases h20 : 20 < f.length
      · have HR := Lib.hid (show wholeN l = .error 1 by rw [hr]; simp only; rw [if_pos h20])
        have h20' : (20 : Int) < (f.length : Int) := by omega
        clear hr h20
        go_enter Tryz.func23, Tryz.ntmps23
        go_wp2_with (first | (go_at_call 60; refine (asks_ok l p _ H64.out HP.out).mono ?_; rintro e w1 ⟨rfl, hb1⟩) | (go_at_call 63; refine (whole_any p _ (by exact HG.out.below (hb1.alloc hb1.size _)) hp1 hp2 hp3).mono ?_; rw [HW.out]; rintro e w2 ⟨hb2, rfl⟩))
        go_ret2
        exact nres_error 1 HR.out rfl ((hb1.alloc hb1.size _).trans (hb2.mono (by have := hb1.size; simp; omega)))
      · have h20' : (f.length : Int) ≤ 20 := by omega
        have hr2 : wholeN l = match Lib.parseIntB 64 (if p.below then 45 :: f else f) with
          | .ok n => .ok n
          | _ => .error 1 := by rw [hr]; simp only; rw [if_neg h20]
        have h20n : f.length ≤ 20 := by omega
        clear hr h20
        obtain ⟨bl, x, y, pw⟩ := p
        simp only at hp1 hp2 hp3 hr2
        cases bl
        · exact numWhole_last l false x y pw f w hl H64 HP HG HW hp1 hp2 hp3 h20n h20' hr2
        · exact numWhole_last l true x y pw f w hl H64 HP HG HW hp1 hp2 hp3 h20n h20' hr2

end Go.Proofs.YtlmogijkkhdogaaGreatDoor
