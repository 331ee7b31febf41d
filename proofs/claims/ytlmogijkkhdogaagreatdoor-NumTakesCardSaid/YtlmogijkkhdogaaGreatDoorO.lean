import Derived.Test.YtlmogijkkhdogaaGreatDoorN
import Derived.Deep.DeepCutAuto
namespace Go.Proofs.YtlmogijkkhdogaaGreatDoor
open Go.RowKit
set_option maxRecDepth 100000

theorem cut_yes (c : UInt8) (t : List UInt8) (w : World) :
    Calls Tryz.prog 95 #[.string ⟨(c :: t).toArray⟩, .string ⟨#[c]⟩] w fun e w' => e = .returned (.tuple #[.string ⟨t.toArray⟩, .bool true]) ∧ w' = w :=
  (Tryz.strings_CutPrefix ⟨(c :: t).toArray⟩ ⟨#[c]⟩ w).mono fun e w' ⟨h1, h2⟩ => by
    refine ⟨h1.trans ?_, h2⟩
    simp [Lib.trimPrefix, Lib.hasPrefix]

theorem cut_no (l : List UInt8) (c : UInt8) (w : World) (h : l.head? ≠ some c) :
    Calls Tryz.prog 95 #[.string ⟨l.toArray⟩, .string ⟨#[c]⟩] w fun e w' => e = .returned (.tuple #[.string ⟨l.toArray⟩, .bool false]) ∧ w' = w :=
  (Tryz.strings_CutPrefix ⟨l.toArray⟩ ⟨#[c]⟩ w).mono fun e w' ⟨h1, h2⟩ => by
    refine ⟨h1.trans ?_, h2⟩
    cases l with
    | nil => simp [Lib.trimPrefix, Lib.hasPrefix]
    | cons a t =>
      have h3 : ¬ c = a := fun h4 => h (by rw [h4]; rfl)
      simp [Lib.trimPrefix, Lib.hasPrefix, List.isPrefixOf, h3]

theorem ba_append (a b : List UInt8) : (⟨a.toArray⟩ : ByteArray) ++ ⟨b.toArray⟩ = ⟨(a ++ b).toArray⟩ := by
  apply ByteArray.ext
  simp [ByteArray.data_append]

structure Parts where
  below : Bool
  ahead : List UInt8
  behind : List UInt8
  power : List UInt8

def parsePow (b : Bool) (x y sign t : List UInt8) : Option Parts := if digs t = [] ∨ rest t ≠ [] then none else some ⟨b, x, y, sign ++ digs t⟩

/-- the sign ahead of an exponent, and what is behind it. -/
def signOf : List UInt8 → List UInt8
  | [] => []
  | d :: _ => if d = 43 ∨ d = 45 then [d] else []
def behindSign : List UInt8 → List UInt8
  | [] => []
  | d :: t => if d = 43 ∨ d = 45 then t else d :: t
def badE (c : UInt8) : Bool := !(c == 101) && !(c == 69)

def parseExp (b : Bool) (x y : List UInt8) : List UInt8 → Option Parts
  | [] => some ⟨b, x, y, []⟩
  | c :: s => if badE c = true then none else parsePow b x y (signOf s) (behindSign s)

theorem u8_eq {c : UInt8} {n : Nat} (hn : n < 256) (h : (c.toNat : Int) = n) : c = UInt8.ofNat n := UInt8.toNat_inj.1 (by simp; omega)
def isSign : List UInt8 → Bool
  | [] => false
  | d :: _ => d == 43 || d == 45
theorem behindSign_length (t : List UInt8) : (behindSign t).length ≤ t.length := by
  cases t with
  | nil => simp [behindSign]
  | cons d t => simp only [behindSign]; split <;> simp
theorem signOf_length (t : List UInt8) : (signOf t).length ≤ 1 := by
  cases t with
  | nil => simp [signOf]
  | cons d t => simp only [signOf]; split <;> simp
theorem sign_no {d : UInt8} {t : List UInt8} (h : isSign (d :: t) = false) : behindSign (d :: t) = d :: t ∧ signOf (d :: t) = [] := by
  have : ¬ (d = 43 ∨ d = 45) := by simpa [isSign] using h
  simp only [behindSign, signOf, if_neg this, and_self]
theorem sign_yes {d : UInt8} {t : List UInt8} (h : isSign (d :: t) = true) : behindSign (d :: t) = t ∧ signOf (d :: t) = [d] := by
  have : d = 43 ∨ d = 45 := by simpa [isSign] using h
  simp only [behindSign, signOf, if_pos this, and_self]
theorem sign_val (d : UInt8) (t : List UInt8) : Value.bool ((d.toNat : Int) == 43 || (d.toNat : Int) == 45) = .bool (isSign (d :: t)) := by
  have h5 : ∀ n : Nat, n < 256 → ((d.toNat : Int) == n) = (d == UInt8.ofNat n) := by
    intro n hn
    by_cases h6 : (d.toNat : Int) = n
    · have := u8_eq hn h6
      rw [this]; simp; omega
    · have : ¬ d = UInt8.ofNat n := by rintro rfl; exact h6 (by simp; omega)
      have h7 : (d == UInt8.ofNat n) = false := by simpa using this
      rw [h7]; simpa using h6
  have h1 : ((d.toNat : Int) == 43) = (d == 43) := h5 43 (by omega)
  have h2 : ((d.toNat : Int) == 45) = (d == 45) := h5 45 (by omega)
  rw [h1, h2]; rfl
theorem isSign_43 {d : UInt8} {t : List UInt8} (h : (d.toNat : Int) = 43) : isSign (d :: t) = true := by rw [u8_eq (n := 43) (by omega) h]; rfl

theorem parseExp_bad {b : Bool} {x y s : List UInt8} {c : UInt8} (h : badE c = true) : parseExp b x y (c :: s) = none := by rw [parseExp, if_pos h]
theorem parseExp_ok {b : Bool} {x y s : List UInt8} {c : UInt8} (h : badE c = false) : parseExp b x y (c :: s) = parsePow b x y (signOf s) (behindSign s) := by rw [parseExp, if_neg (by simp [h])]
theorem badE_101 {c : UInt8} (h : (c.toNat : Int) = 101) : badE c = false := by rw [u8_eq (n := 101) (by omega) h]; rfl
theorem badE_69 {c : UInt8} (h : (c.toNat : Int) = 69) : badE c = false := by rw [u8_eq (n := 69) (by omega) h]; rfl
theorem badE_val (c : UInt8) (h : ¬ (c.toNat : Int) = 101) : Value.bool ((c.toNat : Int) != 101 && (c.toNat : Int) != 69) = .bool (badE c) := by
  have h3 : (c == 101) = false := by
    have : ¬ c = 101 := by rintro rfl; exact h rfl
    simpa using this
  have h4 : ((c.toNat : Int) != 101) = true := by simpa using h
  have h5 : ((c.toNat : Int) != 69) = !(c == 69) := by
    by_cases h6 : (c.toNat : Int) = 69
    · rw [u8_eq (n := 69) (by omega) h6]; rfl
    · have : ¬ c = 69 := by rintro rfl; exact h6 rfl
      have h7 : (c == 69) = false := by simpa using this
      rw [h7]; simpa using h6
  rw [badE, h3, h4, h5]; rfl
theorem badE_no {c : UInt8} (h : ¬ (c.toNat : Int) = 101) (h2 : ¬ (c.toNat : Int) = 69) : badE c = true := by
  have h3 : ¬ c = 101 := by rintro rfl; exact h rfl
  have h4 : ¬ c = 69 := by rintro rfl; exact h2 rfl
  simp [badE, h3, h4]

def badB (x : List UInt8) : Bool := x.isEmpty || (x.head? == some 48 && decide (1 < x.length))

def undot (y : List UInt8) : List UInt8 := if (y.head? == some 46) = true then y.tail else y

def parseDot (b : Bool) (x y : List UInt8) : Option Parts :=
  if (y.head? == some 46) = true then (if digs (undot y) = [] then none else parseExp b x (digs (undot y)) (rest (undot y))) else parseExp b x [] y

theorem parseDot_no {b : Bool} {x y : List UInt8} (h : (y.head? == some 46) = false) : parseDot b x y = parseExp b x [] y := by rw [parseDot, if_neg (by simp [h])]

def parseTail (b : Bool) (s : List UInt8) : Option Parts := if badB (digs s) = true then none else parseDot b (digs s) (rest s)

theorem cut_dot (l : List UInt8) (w : World) :
    Calls Tryz.prog 95 #[.string ⟨l.toArray⟩, .string ⟨#[46]⟩] w fun e w' => e = .returned (.tuple #[.string ⟨(undot l).toArray⟩, .bool (l.head? == some 46)]) ∧ w' = w := by
  by_cases h : l.head? = some 46
  · obtain ⟨t, rfl⟩ : ∃ t, l = 46 :: t := by
      cases l with
      | nil => cases h
      | cons a t => exact ⟨t, by simp at h; rw [h]⟩
    exact cut_yes 46 t w
  · refine (cut_no l 46 w h).mono fun e w' ⟨h1, h2⟩ => ⟨?_, h2⟩
    have : (l.head? == some 46) = false := by simpa using h
    rw [h1, undot, this]; rfl

theorem undot_length (l : List UInt8) : (undot l).length ≤ l.length := by unfold undot; split <;> simp

def neg (l : List UInt8) : Bool := l.head? == some 45
def unsign (l : List UInt8) : List UInt8 := if neg l then l.tail else l

def parseL (l : List UInt8) : Option Parts := if 64 < l.length then none else parseTail (neg l) (unsign l)

theorem cut_sign (l : List UInt8) (w : World) :
    Calls Tryz.prog 95 #[.string ⟨l.toArray⟩, .string ⟨#[45]⟩] w fun e w' => e = .returned (.tuple #[.string ⟨(unsign l).toArray⟩, .bool (neg l)]) ∧ w' = w := by
  by_cases h : l.head? = some 45
  · obtain ⟨t, rfl⟩ : ∃ t, l = 45 :: t := by
      cases l with
      | nil => cases h
      | cons a t => exact ⟨t, by simp at h; rw [h]⟩
    exact cut_yes 45 t w
  · refine (cut_no l 45 w h).mono fun e w' ⟨h1, h2⟩ => ⟨?_, h2⟩
    have : neg l = false := by simpa [neg] using h
    rw [h1, unsign, this]; rfl

theorem unsign_length (l : List UInt8) : (unsign l).length ≤ l.length := by unfold unsign; split <;> simp
theorem digs_rest (l : List UInt8) : (digs l).length + (rest l).length = l.length := by
  have := congrArg List.length (List.takeWhile_append_dropWhile (p := dig) (l := l))
  rw [List.length_append] at this; exact this

theorem below_drewN {B : Nat} {w W : World} (h : Below B w W) (n : Nat) : Below B w (W.drewN n) := ⟨h.os, h.tape, h.output, h.size, h.block⟩

def PRes (w : World) (r : Option Parts) (e : Ending) (w' : World) : Prop :=
  Below w.heap.size w w' ∧ match r with
  | none => e = .returned (.tuple #[.agg #[.bool false, .string ⟨#[]⟩, .string ⟨#[]⟩, .string ⟨#[]⟩], .bool false])
  | some p => e = .returned (.tuple #[.agg #[.bool p.below, .string ⟨p.ahead.toArray⟩, .string ⟨p.behind.toArray⟩, .string ⟨p.power.toArray⟩], .bool true])

theorem pres_none {w w' : World} {e : Ending} {r : Option Parts} (hb : Below w.heap.size w w') (hr : r = none) (he : e = .returned (.tuple #[.agg #[.bool false, .string ⟨#[]⟩, .string ⟨#[]⟩, .string ⟨#[]⟩], .bool false])) : PRes w r e w' := by
  subst hr; exact ⟨hb, he⟩

theorem pres_some {w w' : World} {e : Ending} {r : Option Parts} (p : Parts) (hb : Below w.heap.size w w') (hr : r = some p) (he : e = .returned (.tuple #[.agg #[.bool p.below, .string ⟨p.ahead.toArray⟩, .string ⟨p.behind.toArray⟩, .string ⟨p.power.toArray⟩], .bool true])) : PRes w r e w' := by
  subst hr; exact ⟨hb, he⟩

theorem badB_48 {c d : UInt8} {t : List UInt8} (h : (c.toNat : Int) = 48) : badB (c :: d :: t) = true := by
  have : c = 48 := UInt8.toNat_inj.1 (by simpa using (by omega : c.toNat = 48))
  simp [badB, this]
theorem badB_n48 {c : UInt8} {t : List UInt8} (h : ¬ (c.toNat : Int) = 48) : badB (c :: t) = false := by
  have : ¬ c = 48 := by rintro rfl; exact h rfl
  simp [badB, this]

set_option maxHeartbeats 1600000 in
theorem parse_long (l : List UInt8) (w : World) (hl : 64 < l.length) (h2 : l.length ≤ 1073741824) : Calls Tryz.prog 66 #[.string ⟨l.toArray⟩] w (PRes w (parseL l)) := by
  have hr := Lib.hid (show parseL l = none by rw [parseL, if_pos hl])
  go_enter Tryz.func66, Tryz.ntmps66
  go_wp2
  refine bodyPost_ret (v := .tuple #[.agg #[.bool false, .string ⟨#[]⟩, .string ⟨#[]⟩, .string ⟨#[]⟩], .bool false]) (by simp [results, Tryz.results66, go_sem]) rfl ?_
  exact pres_none ((Below.refl _ _).alloc (Nat.le_refl _) _) hr.out rfl

set_option maxHeartbeats 1600000 in
theorem parse_any (l : List UInt8) (w : World) (hl : ¬ 64 < l.length) : Calls Tryz.prog 66 #[.string ⟨l.toArray⟩] w (PRes w (parseL l)) := by
  have h0 : l.length ≤ 64 := by omega
  generalize hs : unsign l = s
  generalize hb : neg l = b
  have hcut := cut_sign l
  rw [hs, hb] at hcut
  have hsl := unsign_length l
  rw [hs] at hsl
  have hsd := digs_rest s
  have HC := Lib.hid hcut
  have hR : parseL l = parseTail b s := by rw [parseL, if_neg hl, hs, hb]
  have HR := Lib.hid hR
  clear hcut hs hb hR
  go_enter Tryz.func66, Tryz.ntmps66
  go_upto_region 5 with (first | (go_at_call 95; refine (HC.out _).mono ?_; rintro e w' ⟨rfl, rfl⟩) | (go_at_call 96; refine (figures_any s _ (by omega)).mono ?_; rintro e w' ⟨rfl, rfl⟩))
  generalize hx : digs s = x
  have HX := Lib.hid hx
  rw [hx] at hsd
  clear hx
  go_cut [0, 39] (fun u0 u39 wx => u0 = .string ⟨(rest s).toArray⟩ ∧ u39 = .bool (badB x) ∧ wx = (w.alloc (.cells #[.bool b, .string ⟨x.toArray⟩, .string ⟨#[]⟩, .string ⟨#[]⟩] 92)).drew)
  case first =>
    match x with
    | [] =>
      go_wp2
      go_meet
      case rel => exact ⟨rfl, rfl, rfl⟩
    | [c] =>
      have hc : badB [c] = false := by simp [badB]
      have HB := Lib.hid hc
      clear hc
      by_cases h : (c.toNat : Int) = 48
      all_goals
        go_wp2
        go_meet
        case rel => exact ⟨rfl, by rw [HB.out], rfl⟩
    | c :: d :: t =>
      have hl2 : (1 : Int) < ((c :: d :: t).length : Int) := by simp only [List.length_cons]; omega
      by_cases h : (c.toNat : Int) = 48
      · have HB := Lib.hid (badB_48 (d := d) (t := t) h)
        go_wp2
        go_meet
        case rel => exact ⟨rfl, by rw [HB.out]; simp; omega, rfl⟩
      · have HB := Lib.hid (badB_n48 (t := d :: t) h)
        go_wp2
        go_meet
        case rel => exact ⟨rfl, by rw [HB.out], rfl⟩
  case rest =>
    obtain ⟨rfl, rfl, rfl⟩ := hcut
    cases hbad : badB x
    · have hR : parseL l = parseDot b x (rest s) := by rw [HR.out, parseTail, HX.out, if_neg (by simp [hbad])]
      clear HR HX hbad HC
      have HR := Lib.hid hR
      clear hR
      generalize hy : rest s = y at *
      clear hy
      generalize hd : (y.head? == some 46) = q
      generalize hz : undot y = z
      have hcut := cut_dot y
      rw [hd, hz] at hcut
      have HC := Lib.hid hcut
      have HD := Lib.hid hd
      have HZ := Lib.hid hz
      have hzl : z.length ≤ y.length := by rw [← hz]; exact undot_length y
      clear hcut hd hz
      have hn1 : ∀ (w : World) (n : Nat) (a : Addr) (v : Value), (w.drewN n).setCell a v = (w.setCell a v).drewN n := fun _ _ _ _ => rfl
      have hn2 : ∀ (w : World) (n : Nat), (w.drewN n).drew = w.drewN (n + 1) := fun _ _ => rfl
      go_upto_if 46 with (go_at_call 95; refine (HC.out _).mono ?_; rintro e w' ⟨rfl, rfl⟩)
      go_cut [0] (fun u0 wx => ∃ bh y' n, u0 = .string ⟨List.toArray y'⟩ ∧ wx = (w.alloc (.cells #[.bool b, .string ⟨x.toArray⟩, .string ⟨List.toArray bh⟩, .string ⟨#[]⟩] 92)).drewN n ∧ y'.length ≤ y.length ∧ parseL l = parseExp b x bh y')
      case first =>
        cases q
        · go_wp2
          go_meet
          case rel => exact ⟨[], y, 1, rfl, rfl, Nat.le_refl _, by rw [HR.out]; exact parseDot_no HD.out⟩
        · have hzd := digs_rest z
          by_cases he : digs z = []
          · have hR := Lib.hid (show parseL l = none by rw [HR.out, parseDot, if_pos HD.out, HZ.out, if_pos he])
            go_wp2_with (go_at_call 96; refine (figures_any z _ (by omega)).mono ?_; rintro e w' ⟨rfl, rfl⟩)
            refine bodyPost_ret (v := .tuple #[.agg #[.bool false, .string ⟨#[]⟩, .string ⟨#[]⟩, .string ⟨#[]⟩], .bool false]) (by simp [results, Tryz.results66, go_sem]) rfl ?_
            exact pres_none ((((Below.refl _ _).alloc (Nat.le_refl _) _).drew).drew) hR.out rfl
          · have he2 : (digs z).isEmpty = false := by simpa using he
            have hR := Lib.hid (show parseL l = parseExp b x (digs z) (rest z) by rw [HR.out, parseDot, if_pos HD.out, HZ.out, if_neg he])
            have hzz : (rest z).length ≤ y.length := by omega
            go_wp2_with (go_at_call 96; refine (figures_any z _ (by omega)).mono ?_; rintro e w' ⟨rfl, rfl⟩)
            go_meet
            case rel => exact ⟨digs z, rest z, 2, rfl, rfl, hzz, hR.out⟩
      case rest =>
        obtain ⟨bh, y', n, rfl, rfl, hy', hR2⟩ := hcut
        clear HR HC HD HZ
        have HR := Lib.hid hR2
        clear hR2
        match y', hy', HR with
        | [], _, HR =>
          go_wp2
          refine bodyPost_ret (v := .tuple #[.agg #[.bool b, .string ⟨x.toArray⟩, .string ⟨bh.toArray⟩, .string ⟨#[]⟩], .bool true]) (by simp [results, Tryz.results66, go_sem]) rfl ?_
          exact pres_some ⟨b, x, bh, []⟩ (below_drewN ((Below.refl _ _).alloc (Nat.le_refl _) _) n) HR.out rfl
        | c :: t, hy', HR =>
          go_upto_region 14 with fail
          go_cut [67] (fun u67 wx => u67 = .bool (badE c) ∧ wx = (w.alloc (.cells #[.bool b, .string ⟨x.toArray⟩, .string ⟨List.toArray bh⟩, .string ⟨#[]⟩] 92)).drewN n)
          case first =>
            have hcl : (0 : Int) < ((c :: t).length : Int) := by simp only [List.length_cons]; omega
            by_cases h1 : (c.toNat : Int) = 101
            · have hE := Lib.hid (badE_101 h1)
              go_wp2
              go_meet
              case rel => exact ⟨by rw [hE.out], rfl⟩
            · by_cases h2 : (c.toNat : Int) = 69
              all_goals
                go_wp2
                go_meet
                case rel => exact ⟨badE_val c h1, rfl⟩
          case rest =>
            obtain ⟨rfl, rfl⟩ := hcut
            cases hbe : badE c
            · have hR := Lib.hid (show parseL l = parsePow b x bh (signOf t) (behindSign t) by rw [HR.out]; exact parseExp_ok hbe)
              clear HR hbe
              have hcl : (1 : Int) ≤ ((c :: t).length : Int) := by simp only [List.length_cons]; omega
              have htl : t.length ≤ 64 := by simp only [List.length_cons] at hy'; omega
              go_upto_region 18 with fail
              rw [show (⟨(c :: t).toArray⟩ : ByteArray).extract 1 (t.length + 1) = ⟨t.toArray⟩ from by rw [ba_extract]; simp]
              go_cut [82] (fun u82 wx => u82 = .bool (isSign t) ∧ wx = (w.alloc (.cells #[.bool b, .string ⟨x.toArray⟩, .string ⟨List.toArray bh⟩, .string ⟨#[]⟩] 92)).drewN n)
              case first =>
                match t with
                | [] =>
                  go_wp2
                  go_meet
                  case rel => exact ⟨rfl, rfl⟩
                | d :: t' =>
                  have hdl : (0 : Int) < ((d :: t').length : Int) := by simp only [List.length_cons]; omega
                  by_cases h1 : (d.toNat : Int) = 43
                  all_goals
                    go_wp2
                    go_meet
                    case rel => first | exact ⟨sign_val d t', rfl⟩ | exact ⟨by rw [isSign_43 h1], rfl⟩
              case rest =>
                obtain ⟨rfl, rfl⟩ := hcut
                go_upto_if 82 with fail
                go_cut [0, 6] (fun u0 u6 wx => ∃ m, u0 = .string ⟨(behindSign t).toArray⟩ ∧ u6 = .string ⟨(signOf t).toArray⟩ ∧ wx = (w.alloc (.cells #[.bool b, .string ⟨x.toArray⟩, .string ⟨List.toArray bh⟩, .string ⟨#[]⟩] 92)).drewN m)
                case first =>
                  match t with
                  | [] =>
                    go_wp2
                    go_meet
                    case rel => exact ⟨n, rfl, rfl, rfl⟩
                  | d :: t' =>
                    have hdl : (1 : Int) ≤ ((d :: t').length : Int) := by simp only [List.length_cons]; omega
                    cases hsg : isSign (d :: t')
                    · have hq := Lib.hid (sign_no hsg)
                      go_wp2
                      go_meet
                      case rel => exact ⟨n, by rw [hq.out.1], by rw [hq.out.2], rfl⟩
                    · have hq := Lib.hid (sign_yes hsg)
                      go_wp2
                      go_region
                      go_wp2
                      go_meet
                      case rel =>
                        rw [hq.out.1, hq.out.2]
                        exact ⟨n + 1, by rw [ba_extract]; simp, by rw [ba_extract]; simp, rfl⟩
                case rest =>
                  obtain ⟨m, rfl, rfl, rfl⟩ := hcut
                  generalize hbs : behindSign t = r
                  have hbl : (behindSign t).length ≤ t.length := behindSign_length t
                  rw [hbs] at hbl
                  have HBS := Lib.hid hbs
                  clear hbs
                  generalize hsg : signOf t = sg
                  have HSG := Lib.hid hsg
                  clear hsg
                  have hrd := digs_rest r
                  have hsl2 : sg.length ≤ 1 := by rw [← HSG.out]; exact signOf_length t
                  by_cases he : digs r = []
                  · have hN := Lib.hid (show parseL l = none by rw [hR.out, HBS.out, parsePow, if_pos (.inl he)])
                    go_wp2_with (go_at_call 96; refine (figures_any r _ (by omega)).mono ?_; rintro e w' ⟨rfl, rfl⟩)
                    refine bodyPost_ret (v := .tuple #[.agg #[.bool false, .string ⟨#[]⟩, .string ⟨#[]⟩, .string ⟨#[]⟩], .bool false]) (by simp [results, Tryz.results66, go_sem]) rfl ?_
                    exact pres_none (below_drewN ((Below.refl _ _).alloc (Nat.le_refl _) _) _) hN.out rfl
                  · have he2 : (digs r).isEmpty = false := by simpa using he
                    by_cases hr : rest r = []
                    · have hr2 : (rest r).isEmpty = true := by simpa using hr
                      have hN := Lib.hid (show parseL l = some ⟨b, x, bh, sg ++ digs r⟩ by rw [hR.out, HBS.out, HSG.out, parsePow, if_neg (by simp [he, hr])])
                      go_wp2_with (go_at_call 96; refine (figures_any r _ (by omega)).mono ?_; rintro e w' ⟨rfl, rfl⟩)
                      refine bodyPost_ret (v := .tuple #[.agg #[.bool b, .string ⟨x.toArray⟩, .string ⟨bh.toArray⟩, .string ⟨(sg ++ digs r).toArray⟩], .bool true]) (by simp [results, Tryz.results66, go_sem]; exact ba_append _ _) rfl ?_
                      exact pres_some ⟨b, x, bh, sg ++ digs r⟩ (below_drewN ((Below.refl _ _).alloc (Nat.le_refl _) _) _) hN.out rfl
                    · have hr2 : (rest r).isEmpty = false := by simpa using hr
                      have hN := Lib.hid (show parseL l = none by rw [hR.out, HBS.out, parsePow, if_pos (.inr hr)])
                      go_wp2_with (go_at_call 96; refine (figures_any r _ (by omega)).mono ?_; rintro e w' ⟨rfl, rfl⟩)
                      refine bodyPost_ret (v := .tuple #[.agg #[.bool false, .string ⟨#[]⟩, .string ⟨#[]⟩, .string ⟨#[]⟩], .bool false]) (by simp [results, Tryz.results66, go_sem]) rfl ?_
                      exact pres_none (below_drewN ((Below.refl _ _).alloc (Nat.le_refl _) _) _) hN.out rfl
            · have hR := Lib.hid (show parseL l = none by rw [HR.out]; exact parseExp_bad hbe)
              go_wp2
              refine bodyPost_ret (v := .tuple #[.agg #[.bool false, .string ⟨#[]⟩, .string ⟨#[]⟩, .string ⟨#[]⟩], .bool false]) (by simp [results, Tryz.results66, go_sem]) rfl ?_
              exact pres_none (below_drewN ((Below.refl _ _).alloc (Nat.le_refl _) _) n) hR.out rfl
    · have hR := Lib.hid (show parseL l = none by rw [HR.out, parseTail, HX.out, if_pos hbad])
      go_wp2
      refine bodyPost_ret (v := .tuple #[.agg #[.bool false, .string ⟨#[]⟩, .string ⟨#[]⟩, .string ⟨#[]⟩], .bool false]) (by simp [results, Tryz.results66, go_sem]) rfl ?_
      exact pres_none (((Below.refl _ _).alloc (Nat.le_refl _) _).drew) hR.out rfl

end Go.Proofs.YtlmogijkkhdogaaGreatDoor
