import Derived.Test.YtlmogijkkhdogaaGreatDoorId
namespace Go.Proofs.YtlmogijkkhdogaaGreatDoor
open Go.RowKit
set_option maxRecDepth 100000

/-- an exponent's text. -/
def PowText (pw : List UInt8) : Prop := pw = [] ∨ ∃ sg ds, pw = sg ++ ds ∧ (sg = [] ∨ sg = [43] ∨ sg = [45]) ∧ ds ≠ [] ∧ ∀ c ∈ ds, dig c = true

theorem sign_three' (y : List UInt8) : signOf y = [] ∨ signOf y = [43] ∨ signOf y = [45] := by
  cases y with
  | nil => exact .inl rfl
  | cons c t =>
    cases h : isSign (c :: t) with
    | false => exact .inl (sign_no h).2
    | true =>
      rw [(sign_yes h).2]
      have h2 := sign_val c t
      rw [h] at h2
      have h3 : ((c.toNat : Int) == 43 || (c.toNat : Int) == 45) = true := by simpa using h2
      rw [Bool.or_eq_true] at h3
      rcases h3 with h3 | h3
      · have : c = 43 := u8_eq (n := 43) (by omega) (by simpa using h3)
        exact .inr (.inl (by rw [this]))
      · have : c = 45 := u8_eq (n := 45) (by omega) (by simpa using h3)
        exact .inr (.inr (by rw [this]))

theorem parseExp_some {b : Bool} {x y s : List UInt8} {p : Parts} (h : parseExp b x y s = some p) : p.below = b ∧ p.ahead = x ∧ p.behind = y ∧ PowText p.power := by
  cases s with
  | nil =>
    have : some (⟨b, x, y, []⟩ : Parts) = some p := h
    cases this
    exact ⟨rfl, rfl, rfl, .inl rfl⟩
  | cons c s =>
    cases hb : badE c with
    | true => rw [parseExp_bad hb] at h; cases h
    | false =>
      rw [parseExp_ok hb, parsePow] at h
      split at h
      · cases h
      · rename_i hn
        cases h
        exact ⟨rfl, rfl, rfl, .inr ⟨_, _, rfl, sign_three' s, fun e => hn (.inl e), digs_dig _⟩⟩

theorem parts_of {l : List UInt8} {p : Parts} (h : parseL l = some p) : (∀ c ∈ p.all, dig c = true) ∧ p.all.length ≤ 64 ∧ PowText p.power ∧ ¬ 64 < l.length := by
  unfold parseL at h
  split at h
  · cases h
  · rename_i hl
    unfold parseTail at h
    split at h
    · cases h
    · unfold parseDot at h
      have hu := unsign_length l
      have hdr := digs_rest (unsign l)
      split at h
      · split at h
        · cases h
        · obtain ⟨h1, h2, h3, h4⟩ := parseExp_some h
          have hz := undot_length (rest (unsign l))
          have hz2 := digs_le (undot (rest (unsign l)))
          refine ⟨?_, ?_, h4, hl⟩
          · intro c hc
            unfold Parts.all at hc
            rw [h2, h3] at hc
            rcases List.mem_append.1 hc with h | h
            · exact digs_dig _ c h
            · exact digs_dig _ c h
          · unfold Parts.all
            rw [h2, h3, List.length_append]; omega
      · obtain ⟨h1, h2, h3, h4⟩ := parseExp_some h
        refine ⟨?_, ?_, h4, hl⟩
        · intro c hc
          unfold Parts.all at hc
          rw [h2, h3, List.append_nil] at hc
          exact digs_dig _ c hc
        · unfold Parts.all
          rw [h2, h3, List.append_nil]; omega

theorem refExp_pow (sg ds : List UInt8) (hs : sg = [] ∨ sg = [43] ∨ sg = [45]) (hd : ∀ c ∈ ds, dig c = true) : refExp (sg ++ ds) = powR sg ds := by
  rcases hs with rfl | rfl | rfl
  · rw [List.nil_append, refExp_plain ds hd, powR, if_neg (by decide)]
  · rw [show ([43] ++ ds : List UInt8) = 43 :: ds from rfl, refExp_plus, powR, if_neg (by decide)]
  · rw [show ([45] ++ ds : List UInt8) = 45 :: ds from rfl, refExp_minus, powR, if_pos rfl]

theorem refExp_bound (pw : List UInt8) : -1000 ≤ refExp pw ∧ refExp pw ≤ 1000 := by
  unfold refExp
  have h1 := capFrom_le pw.tail 0 (by omega)
  have h2 := capFrom_le pw 0 (by omega)
  split
  · omega
  · split <;> omega

/-- num.Whole's answer by the exponent as the reference reads it. -/
theorem wholeN_ref {l : List UInt8} {p : Parts} (h : parseL l = some p) : wholeN l = wholeAt p.below p.all ((p.ahead.length : Nat) + refExp p.power) := by
  obtain ⟨h1, h2, h3, h4⟩ := parts_of h
  rw [wholeN_at l p h4 h h1]
  have hn : p.ahead.length ≤ p.all.length := by unfold Parts.all; rw [List.length_append]; omega
  rcases h3 with h3 | ⟨sg, ds, h3, h5, h6, h7⟩
  · rw [h3]; rfl
  · rw [h3, refExp_pow sg ds h5 h7]
    exact wholeAt_clamp p.below p.all p.ahead.length _ _ h2 hn (expo_cap sg ds h5 h6 h7)

theorem wholeN_none {l : List UInt8} (h : parseL l = none) : wholeN l = .error (if 64 < l.length then 3 else 2) := by
  unfold wholeN
  split
  · rfl
  · rw [h]

end Go.Proofs.YtlmogijkkhdogaaGreatDoor

namespace Go.Proofs.YtlmogijkkhdogaaGreatDoor
open Go.RowKit
set_option maxRecDepth 100000

/-- what the reference's Whole answers. -/
def WRes12 (w : World) (r : Except Int Int) (e : Ending) (w' : World) : Prop :=
  Below w.heap.size w w' ∧ match r with | .ok n => e = .returned (.tuple #[.int .i64 n, .int .i64 0]) | .error c => e = .returned (.tuple #[.int .i64 0, .int .i64 c])

theorem wres12_ok {w w' : World} {e : Ending} {r : Except Int Int} (n : Int) (hr : r = .ok n) (he : e = .returned (.tuple #[.int .i64 n, .int .i64 0])) (hb : Below w.heap.size w w') : WRes12 w r e w' := by
  subst hr; exact ⟨hb, he⟩
theorem wres12_error {w w' : World} {e : Ending} {r : Except Int Int} (c : Int) (hr : r = .error c) (he : e = .returned (.tuple #[.int .i64 0, .int .i64 c])) (hb : Below w.heap.size w w') : WRes12 w r e w' := by
  subst hr; exact ⟨hb, he⟩

theorem parse_ref_any (l : List UInt8) (w : World) (h2 : l.length ≤ 1073741824) : Calls Tryz.prog 24 #[.string ⟨l.toArray⟩] w (RRes w l) := by
  by_cases hl : 64 < l.length
  · exact parse_ref_long l w hl h2
  · exact parse_ref l w hl

theorem parse_ref_none (l : List UInt8) (w : World) (h2 : l.length ≤ 1073741824) (hp : parseL l = none) : Calls Tryz.prog 24 #[.string ⟨l.toArray⟩] w fun e w' =>
    e = .returned (.tuple #[.agg #[.bool false, .slice none 0 0, .int .i64 0, .int .i64 0], .int .i64 (if 64 < l.length then 3 else 2)]) ∧ Below w.heap.size w w' :=
  (parse_ref_any l w h2).mono fun e w' h => by
    have h3 := h.2
    rw [hp] at h3
    exact ⟨h3, h.1⟩

/-- the figures' cells. -/
def Figs (w : World) (A : Option Addr) (all : List UInt8) : Prop := ∀ k, ∀ h : k < all.length, ∃ g, A = some ⟨g, 0, none⟩ ∧ w.cell? ⟨g, k, none⟩ = some (.int .i64 ((all[k].toNat - 48 : Nat) : Int)) ∧ g < w.heap.size

theorem parse_ref_some (l : List UInt8) (w : World) (p : Parts) (h2 : l.length ≤ 1073741824) (hp : parseL l = some p) : Calls Tryz.prog 24 #[.string ⟨l.toArray⟩] w fun e w' =>
    ∃ A c, e = .returned (.tuple #[.agg #[.bool p.below, .slice A p.all.length c, .int .i64 p.ahead.length, .int .i64 (refExp p.power)], .int .i64 0]) ∧ Below w.heap.size w w' ∧ Figs w' A p.all :=
  (parse_ref_any l w h2).mono fun e w' h => by
    obtain ⟨h1, h3⟩ := h
    rw [hp] at h3
    obtain ⟨A, c, he, hc, h4⟩ := h3
    refine ⟨A, c, he, h1, fun k hk => ?_⟩
    rcases h4 with h4 | ⟨g, hA, hg1, hg2, hr⟩
    · have hk2 : k < (p.ahead ++ p.behind).length := hk
      rw [h4] at hk2; simp at hk2
    · have hk2 : k < (p.ahead ++ p.behind).length := hk
      refine ⟨g, hA, ?_, hg2⟩
      have h5 := hr k (by rw [List.length_map]; exact hk2)
      have h6 : figV (p.ahead ++ p.behind)[k] = .int .i64 (((p.ahead ++ p.behind)[k].toNat - 48 : Nat) : Int) := figV_dig _ ((parts_of hp).1 _ (List.getElem_mem hk2))
      rw [List.getElem_map, h6, Nat.zero_add] at h5
      exact h5

theorem whole_ref_none (l : List UInt8) (w : World) (h2 : l.length ≤ 1073741824) (hp : parseL l = none) : Calls Tryz.prog 27 #[.string ⟨l.toArray⟩] w (WRes12 w (wholeN l)) := by
  have HP := Lib.hid hp
  have HW := Lib.hid (wholeN_none hp)
  clear hp
  by_cases hl : 64 < l.length
  · have HC := Lib.hid (show (if 64 < l.length then 3 else 2 : Int) = 3 by rw [if_pos hl])
    go_enter Tryz.func27, Tryz.ntmps27
    go_wp2_with fail
    refine (parse_ref_none l _ h2 HP.out).mono ?_
    rintro e w1 ⟨rfl, hb1⟩
    rw [HC.out]
    go_wp2
    go_ret2
    exact wres12_error 3 (by rw [HW.out, HC.out]) rfl (hb1.alloc hb1.size _)
  · have HC := Lib.hid (show (if 64 < l.length then 3 else 2 : Int) = 2 by rw [if_neg hl])
    go_enter Tryz.func27, Tryz.ntmps27
    go_wp2_with fail
    refine (parse_ref_none l _ h2 HP.out).mono ?_
    rintro e w1 ⟨rfl, hb1⟩
    rw [HC.out]
    go_wp2
    go_ret2
    exact wres12_error 2 (by rw [HW.out, HC.out]) rfl (hb1.alloc hb1.size _)

/-- what holds when k figures have been added. -/
def WSt (E : Int) (all : List UInt8) (k n : Nat) (o : Bool) : Prop :=
  n ≤ 18446744073709551615 ∧ (∀ i, ∀ hi : i < all.length, i < k → E ≤ (i : Int) → all[i] = 48) ∧ ((o = false ∧ n = wsum E all k) ∨ (o = true ∧ 18446744073709551615 < wsum E all k))

theorem WSt.start (E : Int) (all : List UInt8) : WSt E all 0 0 false := ⟨Nat.zero_le _, fun i hi h => absurd h (Nat.not_lt_zero _), .inl ⟨rfl, rfl⟩⟩

theorem WSt.zero {E : Int} {all : List UInt8} {k n : Nat} {o : Bool} (h : WSt E all k n o) (hk : k < all.length) (hz : all[k] = 48) : WSt E all (k + 1) n o := by
  obtain ⟨h1, h2, h3⟩ := h
  have hw : wsum E all (k + 1) = wsum E all k := by simp only [wsum]; rw [term_zero E all k hk hz, Nat.add_zero]
  refine ⟨h1, fun i hi hik hE => ?_, by rw [hw]; exact h3⟩
  by_cases he : i = k
  · subst he; exact hz
  · exact h2 i hi (by omega) hE

theorem WSt.add {E : Int} {all : List UInt8} {k n : Nat} {o o' : Bool} {ad : Nat} (h : WSt E all k n o) (hk : k < all.length) (hz : all[k] ≠ 48) (hE : (k : Int) < E) (had : ad ≤ 18446744073709551615)
    (ha : (o' = o ∧ ad = (all[k].toNat - 48) * 10 ^ (E - 1 - k).toNat) ∨ (o' = true ∧ 18446744073709551615 < (all[k].toNat - 48) * 10 ^ (E - 1 - k).toNat)) :
    (18446744073709551615 < n + ad → WSt E all (k + 1) ((n + ad) % 18446744073709551616) true) ∧ (n + ad ≤ 18446744073709551615 → WSt E all (k + 1) (n + ad) o') := by
  obtain ⟨h1, h2, h3⟩ := h
  have hw : wsum E all (k + 1) = wsum E all k + (all[k].toNat - 48) * 10 ^ (E - 1 - k).toNat := by simp only [wsum]; rw [term_fig E all k hk hz]
  have h4 : ∀ i, ∀ hi : i < all.length, i < k + 1 → E ≤ (i : Int) → all[i] = 48 := fun i hi hik hEi => h2 i hi (by omega) hEi
  generalize (all[k].toNat - 48) * 10 ^ (E - 1 - k).toNat = T at *
  constructor
  · intro hb
    refine ⟨by omega, h4, .inr ⟨rfl, ?_⟩⟩
    rw [hw]
    rcases h3 with ⟨-, h3⟩ | ⟨-, h3⟩
    · rcases ha with ⟨-, ha⟩ | ⟨-, ha⟩ <;> omega
    · omega
  · intro hb
    refine ⟨hb, h4, ?_⟩
    rw [hw]
    rcases h3 with ⟨h3, h5⟩ | ⟨h3, h5⟩
    · rcases ha with ⟨ha, h6⟩ | ⟨ha, h6⟩
      · exact .inl ⟨ha.trans h3, by omega⟩
      · exact .inr ⟨ha, by omega⟩
    · rcases ha with ⟨ha, h6⟩ | ⟨ha, h6⟩
      · exact .inr ⟨ha.trans h3, by omega⟩
      · exact .inr ⟨ha, by omega⟩

theorem WSt.end {E : Int} {all : List UInt8} {n : Nat} {o b : Bool} (h : WSt E all all.length n o) : wholeAt b all E = if o = true then .error 1 else signed b n := by
  obtain ⟨h1, h2, h3⟩ := h
  rw [wholeAt_yes b all E (fun i hi hE => h2 i hi hi hE)]
  rcases h3 with ⟨rfl, h3⟩ | ⟨rfl, h3⟩
  · rw [h3]; simp
  · rw [signed_big b _ (by omega)]; simp

theorem big_pow {d i pw : Nat} (h : 1844674407370955161 < d * 10 ^ i) (hi : i < pw) : 18446744073709551615 < d * 10 ^ pw := by
  have h1 : 10 ^ (i + 1) ≤ 10 ^ pw := Nat.pow_le_pow_right (by omega) hi
  have h2 : d * 10 ^ (i + 1) ≤ d * 10 ^ pw := Nat.mul_le_mul_left _ h1
  rw [Nat.pow_succ, ← Nat.mul_assoc] at h2
  omega

set_option maxHeartbeats 2000000 in
theorem whole_ref_some (l : List UInt8) (w : World) (p : Parts) (h2 : l.length ≤ 1073741824) (hp : parseL l = some p) : Calls Tryz.prog 27 #[.string ⟨l.toArray⟩] w (WRes12 w (wholeN l)) := by
  have HP := Lib.hid hp
  have hW := wholeN_ref hp
  obtain ⟨hdig, hlen, -, -⟩ := parts_of hp
  have hal : p.ahead.length ≤ p.all.length := by unfold Parts.all; rw [List.length_append]; omega
  obtain ⟨hr1, hr2⟩ := refExp_bound p.power
  have hps := parse_ref_some l w p h2 hp
  obtain ⟨b, x, y, pw⟩ := p
  simp only at hW hal hr1 hr2 hps
  generalize hall : (⟨b, x, y, pw⟩ : Parts).all = all at hW hdig hlen hal hps
  generalize hrx : refExp pw = rx at hW hr1 hr2 hps
  obtain ⟨a, ha⟩ : ∃ a, x.length = a := ⟨_, rfl⟩
  rw [ha] at hW hal hps
  have HW := Lib.hid hW
  have HPS := Lib.hid hps
  have HDIG := Lib.hid hdig
  clear hp HP hW hps hdig hall hrx ha
  go_enter Tryz.func27, Tryz.ntmps27
  go_wp2_with fail
  refine HPS.out.mono ?_
  rintro e w1 ⟨A, c, rfl, hb1, hF⟩
  have HF := Lib.hid hF
  have HB1 := Lib.hid hb1
  clear hF hb1
  go_wp2_with fail
  go_loop [6, 7, 24] (fun u6 u7 u24 => ∃ (k n : Nat) (o : Bool), k ≤ all.length ∧ u6 = .int .u64 n ∧ u7 = .bool o ∧ u24 = .int .i64 k ∧ WSt (a + rx) all k n o) (fun _ _ u24 => all.length - (intOf u24).toNat)
  case atStart => exact ⟨0, 0, false, Nat.zero_le _, rfl, rfl, rfl, WSt.start _ _⟩
  case round =>
    obtain ⟨k, n, o, hk, rfl, rfl, rfl, hst⟩ := hrel
    have HST := Lib.hid hst
    have hn0 : (0 : Int) ≤ (n : Int) := Int.natCast_nonneg _
    have hk0 : (0 : Int) ≤ (k : Int) := Int.natCast_nonneg _
    have hn1 : n ≤ 18446744073709551615 := hst.1
    clear hst
    by_cases hlt : k < all.length
    · have hk1 : (k : Int) < (all.length : Int) := by omega
      obtain ⟨g, rfl, hc, hg⟩ := HF.out k hlt
      have hdk := (dig_iff _).1 (HDIG.out _ (List.getElem_mem hlt))
      obtain ⟨dv, hdv⟩ : ∃ dv, all[k].toNat - 48 = dv := ⟨_, rfl⟩
      rw [hdv] at hc
      by_cases hz : all[k] = 48
      · obtain rfl : dv = 0 := by rw [← hdv, hz]; rfl
        have HN := Lib.hid (HST.out.zero hlt hz)
        clear hz hdv hdk
        go_wp2
        go_round
        case rel => exact ⟨k + 1, n, o, hlt, rfl, rfl, by go_num, HN.out⟩
        case measure => simp [intOf]; omega
      · have hd1 : 1 ≤ dv ∧ dv ≤ 9 := by
          have : all[k].toNat ≠ 48 := fun e => hz (UInt8.toNat_inj.1 (by rw [e]; rfl))
          omega
        have hdc0 : (0 : Int) ≤ (dv : Int) := Int.natCast_nonneg _
        have hdc1 : (1 : Int) ≤ (dv : Int) := by omega
        have hdc9 : (dv : Int) ≤ 9 := by omega
        have hdz : ((dv : Int) == 0) = false := by simp; omega
        have ha0 : (0 : Int) ≤ (a : Int) := Int.natCast_nonneg _
        have ha1 : (a : Int) ≤ 64 := by omega
        have hkb : (k : Int) ≤ 64 := by omega
        by_cases hp0 : (a : Int) + rx - 1 - k < 0
        · have HN := Lib.hid (wholeAt_no b all (a + rx) k hlt (by omega) hz)
          clear hz hdv hdk
          go_wp2
          go_ret2
          exact wres12_error 11 (by rw [HW.out, HN.out]) rfl (HB1.out.alloc HB1.out.size _)
        · obtain ⟨pw', hpw⟩ : ∃ pw' : Nat, (a : Int) + rx - 1 - k = pw' := ⟨((a : Int) + rx - 1 - k).toNat, by omega⟩
          have hE : (k : Int) < a + rx := by omega
          have hpn : ((a : Int) + rx - 1 - k).toNat = pw' := by omega
          have HADD := Lib.hid (fun (o' : Bool) (ad : Nat) h1 h2 => HST.out.add (o' := o') (ad := ad) hlt hz hE h1 h2)
          rw [hdv, hpn] at HADD
          have hp1 : ¬ ((pw' : Nat) : Int) < 0 := by omega
          have hpb : (pw' : Int) ≤ 2000 := by omega
          have hpb0 : (0 : Int) ≤ (pw' : Int) := Int.natCast_nonneg _
          have HPW := Lib.hid hpw
          clear hz hdv hdk hE hpn hp0
          go_upto_block 2 with fail
          go_cut [7, 11] (fun u7 u11 wx => ∃ (o' : Bool) (ad : Nat), u7 = .bool o' ∧ u11 = .int .u64 ad ∧ ad ≤ 18446744073709551615 ∧ ((o' = o ∧ ad = dv * 10 ^ pw') ∨ (o' = true ∧ 18446744073709551615 < dv * 10 ^ pw')) ∧ wx = w1.alloc (.cells #[.bool b, .slice (some ⟨g, 0, none⟩) all.length c, .int .i64 a, .int .i64 rx] 45))
          case first =>
            clear hpw
            go_wp2_with fail
            go_loop [7, 11, 12] (fun u7 u11 u12 => ∃ i : Nat, i ≤ pw' ∧ u7 = .bool o ∧ u12 = .int .i64 i ∧ u11 = .int .u64 (dv * 10 ^ i : Nat) ∧ dv * 10 ^ i ≤ 18446744073709551615) (fun _ _ u12 => pw' - (intOf u12).toNat)
            case atStart => exact ⟨0, Nat.zero_le _, rfl, rfl, by simp, by simp; omega⟩
            case round =>
              obtain ⟨i, hi, rfl, rfl, rfl, hmax⟩ := hrel
              obtain ⟨ad, had⟩ : ∃ ad, dv * 10 ^ i = ad := ⟨_, rfl⟩
              rw [had] at hmax ⊢
              have HAD := Lib.hid had
              have hi0 : (0 : Int) ≤ (i : Int) := Int.natCast_nonneg _
              have hib : (i : Int) ≤ 2000 := by omega
              have had0 : (0 : Int) ≤ (ad : Int) := Int.natCast_nonneg _
              clear had
              by_cases hip : i < pw'
              · have hip1 : (i : Int) < (pw' : Int) := by omega
                by_cases hbig : 1844674407370955161 < ad
                · have hbig1 : (1844674407370955161 : Int) < (ad : Int) := by omega
                  have HBG := Lib.hid (big_pow (d := dv) (i := i) (pw := pw') (by rw [HAD.out]; exact hbig) hip)
                  go_wp2
                  go_meet
                  case rel => exact ⟨true, ad, rfl, rfl, hmax, .inr ⟨rfl, HBG.out⟩, rfl⟩
                · have hbig1 : ¬ (1844674407370955161 : Int) < (ad : Int) := by omega
                  have hal1 : (ad : Int) ≤ 1844674407370955161 := by omega
                  have HNX := Lib.hid (show dv * 10 ^ (i + 1) = ad * 10 by rw [Nat.pow_succ, ← Nat.mul_assoc, HAD.out])
                  go_wp2
                  go_round
                  case rel => exact ⟨i + 1, hip, rfl, by go_num, by rw [HNX.out]; go_num, by rw [HNX.out]; omega⟩
                  case measure => simp [intOf]; omega
              · have hip1 : ¬ (i : Int) < (pw' : Int) := by omega
                obtain rfl : i = pw' := by omega
                go_wp2
                go_meet
                case rel => exact ⟨o, ad, rfl, rfl, hmax, .inl ⟨rfl, HAD.out.symm⟩, rfl⟩
          case rest =>
            obtain ⟨o', ad, rfl, rfl, hmax, hor, rfl⟩ := hcut
            obtain ⟨hA1, hA2⟩ := HADD.out o' ad hmax hor
            have HA1 := Lib.hid hA1
            have HA2 := Lib.hid hA2
            have had0 : (0 : Int) ≤ (ad : Int) := Int.natCast_nonneg _
            have hadm : (ad : Int) ≤ 18446744073709551615 := by omega
            have hnm : (n : Int) ≤ 18446744073709551615 := by omega
            clear hA1 hA2 hor hpw
            by_cases hov : 18446744073709551615 < n + ad
            · have hov1 : (18446744073709551615 : Int) - (ad : Int) < (n : Int) := by omega
              have hwr : IntKind.u64.wrap ((n : Int) + ad) = ((n + ad) % 18446744073709551616 : Nat) := by rw [IntKind.wrap_u64]; omega
              have HN := Lib.hid (HA1.out hov)
              go_wp2
              go_round
              case rel => exact ⟨k + 1, (n + ad) % 18446744073709551616, true, hlt, congrArg (Value.int .u64) (by omega), rfl, by go_num, HN.out⟩
              case measure => simp [intOf]; omega
            · have hov1 : ¬ (18446744073709551615 : Int) - (ad : Int) < (n : Int) := by omega
              have hsum : (n : Int) + ad ≤ 18446744073709551615 := by omega
              have HN := Lib.hid (HA2.out (by omega))
              go_wp2
              go_round
              case rel => exact ⟨k + 1, n + ad, o', hlt, by go_num, rfl, by go_num, HN.out⟩
              case measure => simp [intOf]; omega
    · obtain rfl : k = all.length := by omega
      have hk2 : ¬ ((all.length : Nat) : Int) < (all.length : Int) := by omega
      have HE := Lib.hid (HST.out.end (b := b))
      have hnm : (n : Int) ≤ 18446744073709551615 := by omega
      cases o with
      | true =>
        go_wp2
        go_ret2
        exact wres12_error 1 (by rw [HW.out, HE.out]; simp) rfl (HB1.out.alloc HB1.out.size _)
      | false =>
        have HE2 := Lib.hid (show wholeAt b all (a + rx) = signed b n by have h := HE.out; simpa using h)
        clear HE
        cases b with
        | true =>
          by_cases hs : 9223372036854775808 < n
          · have hs1 : (9223372036854775808 : Int) < (n : Int) := by omega
            go_wp2
            go_ret2
            exact wres12_error 1 (by rw [HW.out, HE2.out, signed, if_pos rfl, if_neg (by omega)]) rfl (HB1.out.alloc HB1.out.size _)
          · have hs1 : ¬ (9223372036854775808 : Int) < (n : Int) := by omega
            go_wp2
            go_ret2
            refine wres12_ok (-(n : Int)) (by rw [HW.out, HE2.out, signed, if_pos rfl, if_pos (by omega)]) ?_ (HB1.out.alloc HB1.out.size _)
            have hwr : wrap64 (IntKind.u64.wrap (-(n : Int))) = -(n : Int) := by rw [IntKind.wrap_u64]; unfold wrap64; omega
            exact congrArg (fun z => Ending.returned (.tuple #[.int .i64 z, .int .i64 0])) hwr
        | false =>
          by_cases hs : 9223372036854775807 < n
          · have hs1 : (9223372036854775807 : Int) < (n : Int) := by omega
            go_wp2
            go_ret2
            exact wres12_error 1 (by rw [HW.out, HE2.out, signed, if_neg (by decide), if_neg (by omega)]) rfl (HB1.out.alloc HB1.out.size _)
          · have hs1 : ¬ (9223372036854775807 : Int) < (n : Int) := by omega
            have hs2 : (n : Int) ≤ 9223372036854775807 := by omega
            go_wp2
            go_ret2
            refine wres12_ok (n : Int) (by rw [HW.out, HE2.out, signed, if_neg (by decide), if_pos (by omega)]) ?_ (HB1.out.alloc HB1.out.size _)
            rfl

theorem whole_ref (l : List UInt8) (w : World) (h2 : l.length ≤ 1073741824) : Calls Tryz.prog 27 #[.string ⟨l.toArray⟩] w (WRes12 w (wholeN l)) := by
  cases hp : parseL l with
  | none => exact whole_ref_none l w h2 hp
  | some p => exact whole_ref_some l w p h2 hp

end Go.Proofs.YtlmogijkkhdogaaGreatDoor

namespace Go.Proofs.YtlmogijkkhdogaaGreatDoor
open Go.RowKit
set_option maxRecDepth 100000

theorem wholeR_str (s : ByteArray) (w : World) (hl : s.size ≤ 1073741824) : Calls Tryz.prog 27 #[.string s] w (WRes12 w (wholeN s.data.toList)) := by
  have h := whole_ref s.data.toList w (by simpa using hl)
  rwa [ba_eta] at h

theorem wholeR_ok (s : ByteArray) (n : Int) (w : World) (hl : s.size ≤ 1073741824) (h : wholeN s.data.toList = .ok n) : Calls Tryz.prog 27 #[.string s] w fun e w' => e = .returned (.tuple #[.int .i64 n, .int .i64 0]) ∧ Below w.heap.size w w' :=
  (wholeR_str s w hl).mono fun e w' ⟨h1, h2⟩ => by rw [h] at h2; exact ⟨h2, h1⟩
theorem wholeR_bad (s : ByteArray) (c : Int) (w : World) (hl : s.size ≤ 1073741824) (h : wholeN s.data.toList = .error c) : Calls Tryz.prog 27 #[.string s] w fun e w' => e = .returned (.tuple #[.int .i64 0, .int .i64 c]) ∧ Below w.heap.size w w' :=
  (wholeR_str s w hl).mono fun e w' ⟨h1, h2⟩ => by rw [h] at h2; exact ⟨h2, h1⟩

theorem wholeN_codes (l : List UInt8) (c : Int) (h : wholeN l = .error c) : c = 1 ∨ c = 2 ∨ c = 3 ∨ c = 11 := by
  cases hp : parseL l with
  | none =>
    rw [wholeN_none hp] at h
    have := Except.error.inj h
    split at this <;> omega
  | some p =>
    rw [wholeN_ref hp, wholeAt] at h
    split at h
    · unfold signed at h
      split at h
      · split at h
        · cases h
        · cases h; exact .inl rfl
      · split at h
        · cases h
        · cases h; exact .inl rfl
    · cases h; exact .inr (.inr (.inr rfl))

end Go.Proofs.YtlmogijkkhdogaaGreatDoor
