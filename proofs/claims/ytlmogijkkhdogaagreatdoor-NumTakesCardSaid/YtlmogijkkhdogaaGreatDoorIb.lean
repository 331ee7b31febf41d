import Derived.Test.YtlmogijkkhdogaaGreatDoorIa
namespace Go.Proofs.YtlmogijkkhdogaaGreatDoor
open Go.RowKit
set_option maxRecDepth 100000

theorem info3 : (Tryz.prog.info? 3).map (fun i => (i.zero, i.size, i.bytes)) = some (some (.int .i64 0), 1, 8) := by kernel_rfl

/-- what Parse answers. -/
def RRes (w : World) (l : List UInt8) (e : Ending) (w' : World) : Prop :=
  Below w.heap.size w w' ∧ match parseL l with
    | none => e = .returned (.tuple #[.agg #[.bool false, .slice none 0 0, .int .i64 0, .int .i64 0], .int .i64 (if 64 < l.length then 3 else 2)])
    | some p => ∃ A c, e = .returned (.tuple #[.agg #[.bool p.below, .slice A (p.ahead ++ p.behind).length c, .int .i64 p.ahead.length, .int .i64 (refExp p.power)], .int .i64 0]) ∧ (p.ahead ++ p.behind).length ≤ c ∧
        ((p.ahead ++ p.behind) = [] ∨ ∃ g, A = some ⟨g, 0, none⟩ ∧ w.heap.size ≤ g ∧ g < w'.heap.size ∧ Row w' g 0 ((p.ahead ++ p.behind).map figV))

theorem parse_ref_long (l : List UInt8) (w : World) (hl : 64 < l.length) (h2 : l.length ≤ 1073741824) : Calls Tryz.prog 24 #[.string ⟨l.toArray⟩] w (RRes w l) := by
  have hp : parseL l = none := by rw [parseL, if_pos hl]
  have HP := Lib.hid hp
  clear hp
  go_enter Tryz.func24, Tryz.ntmps24
  go_wp2
  refine bodyPost_ret (v := .tuple #[.agg #[.bool false, .slice none 0 0, .int .i64 0, .int .i64 0], .int .i64 3]) (by simp [results, Tryz.results24, go_sem]) rfl ?_
  refine ⟨?_, ?_⟩
  · (repeat (first | with_reducible refine Below.setCell ?_ (by simp) _))
    exact (Below.refl _ _).alloc (Nat.le_refl _) _
  · rw [HP.out, if_pos hl]

theorem ref_result {w wx : World} {b : Bool} {ds : List UInt8} {pt pw : Int} (h : RefX w b ds pt pw wx) :
    (∀ o, wx.cell? ⟨w.heap.size, o, none⟩ = #[Value.bool false, .slice none 0 0, .int .i64 0, .int .i64 0][o]?) ∧ ∀ o, wx.frozen? ⟨w.heap.size, o, none⟩ = false :=
  ⟨fun o => cell_of_row wx w.heap.size o _ 45 (0, 0) h.2.1, fun o => by simp [World.frozen?, h.2.1]⟩

theorem dig_m (l : List UInt8) (i m : Nat) (d : List UInt8) (hd : digs (l.drop i) = d) (h1 : i ≤ m) (h2 : m ≤ i + d.length) (v : Bool) (hv : decide (m < i + d.length) = v) : digAt l m = v := by
  have := digAt_at l i (m - i) (by rw [hd]; omega)
  rw [hd, Nat.add_sub_cancel' h1] at this
  rw [this, ← hv]
  exact decide_eq_decide.2 (by omega)

theorem fig_m (l : List UInt8) (i m : Nat) (d : List UInt8) (hd : digs (l.drop i) = d) (h1 : i ≤ m) (h2 : m < i + d.length) :
    ∃ hl : m < l.length, d.take (m + 1 - i) = d.take (m - i) ++ [l[m]] ∧ 48 ≤ (l[m].toNat : Int) ∧ (l[m].toNat : Int) ≤ 57 := by
  obtain ⟨hl, he, hg⟩ := digs_at_get l i (m - i) (by rw [hd]; omega)
  have hm : i + (m - i) = m := by omega
  have hl2 : m < l.length := by omega
  have e2 : l[i + (m - i)]'hl = l[m] := by congr 1
  refine ⟨hl2, ?_, ?_⟩
  · subst hd
    rw [show m + 1 - i = (m - i) + 1 by omega, List.take_add_one, List.getElem?_eq_getElem (by omega), he, e2]; rfl
  · rw [e2] at hg; exact (dig_iff _).1 hg

theorem u8_beq' (c : UInt8) (n : Nat) (hn : n < 256) : ((c.toNat : Int) == (n : Int)) = (c == UInt8.ofNat n) := by
  rw [Bool.eq_iff_iff]
  simp only [beq_iff_eq]
  constructor
  · intro h; exact UInt8.toNat_inj.1 (by simp; omega)
  · rintro rfl; simp; omega

theorem drop_head (l : List UInt8) (m : Nat) (h : m < l.length) (n : Nat) (hn : n < 256) : (((l[m].toNat : Int) == (n : Int)) : Bool) = ((l.drop m).head? == some (UInt8.ofNat n)) := by
  have : ((l[m].toNat : Int) == (n : Int)) = (l[m] == UInt8.ofNat n) := by
    rw [Bool.eq_iff_iff]
    simp only [beq_iff_eq]
    constructor
    · intro h; exact UInt8.toNat_inj.1 (by simp; omega)
    · intro e; rw [e]; simp; omega
  rw [this, List.head?_drop, List.getElem?_eq_getElem h]; rfl

theorem undot_drop (l : List UInt8) (m : Nat) (h : ((l.drop m).head? == some 46) = true) : undot (l.drop m) = l.drop (m + 1) ∧ m < l.length := by
  refine ⟨by rw [undot, if_pos h, List.tail_drop], ?_⟩
  rw [List.head?_drop] at h
  by_cases hm : m < l.length
  · exact hm
  · rw [List.getElem?_eq_none (by omega)] at h; cases h

theorem rres_some {w wx W' : World} {l : List UInt8} {p : Parts} {A : Option Addr} {cA : Nat} (hp : parseL l = some p) (hb : Below w.heap.size w W') (hal : Also (fun b => b ≠ w.heap.size) wx W') (hca : (p.ahead ++ p.behind).length ≤ cA)
    (hrr : (A = none ∧ (p.ahead ++ p.behind).length = 0) ∨ ∃ g, A = some ⟨g, 0, none⟩ ∧ w.heap.size + 2 ≤ g ∧ g < wx.heap.size ∧ Row wx g 0 ((p.ahead ++ p.behind).map figV) ∧ ∀ o, wx.frozen? ⟨g, o, none⟩ = false) :
    RRes w l (.returned (.tuple #[.agg #[.bool p.below, .slice A (p.ahead ++ p.behind).length cA, .int .i64 p.ahead.length, .int .i64 (refExp p.power)], .int .i64 0])) W' := by
  refine ⟨hb, ?_⟩
  rw [hp]
  refine ⟨A, cA, rfl, hca, ?_⟩
  rcases hrr with ⟨rfl, h0⟩ | ⟨g, rfl, h1, h2, h3, -⟩
  · exact .inl (List.eq_nil_of_length_eq_zero h0)
  · exact .inr ⟨g, rfl, by omega, by have := hal.size; omega, h3.agree (hal.block g (by omega) h2)⟩

theorem RefX.drew {w wx : World} {b : Bool} {ds : List UInt8} {pt pw : Int} (h : RefX w b ds pt pw wx) : RefX w b ds pt pw wx.drew := ⟨h.1.drew, h.2⟩

theorem badE_v (c : UInt8) : (((c.toNat : Int) == 101 || (c.toNat : Int) == 69) : Bool) = !badE c := by
  have h1 : ((c.toNat : Int) == 101) = (c == 101) := u8_beq' c 101 (by omega)
  have h2 : ((c.toNat : Int) == 69) = (c == 69) := u8_beq' c 69 (by omega)
  rw [h1, h2, badE]; simp
theorem sign_45 (c : UInt8) : ((c.toNat : Int) == 45) = ([c] == [45]) := by
  have h1 : ((c.toNat : Int) == 45) = (c == 45) := u8_beq' c 45 (by omega)
  rw [h1]; cases h : (c == 45) <;> simp_all
theorem sign_none (y : List UInt8) (h : isSign y = false) : behindSign y = y ∧ signOf y = [] := by
  cases y with
  | nil => exact ⟨rfl, rfl⟩
  | cons c t => exact sign_no h
theorem sign_three (y : List UInt8) : signOf y = [] ∨ signOf y = [43] ∨ signOf y = [45] := by
  cases y with
  | nil => exact .inl rfl
  | cons c t =>
    cases h : isSign (c :: t) with
    | false => exact .inl (sign_no h).2
    | true =>
      rw [(sign_yes h).2]
      have h2 := sign_val c t
      rw [h] at h2
      have h3 : ((c.toNat : Int) == 43 || (c.toNat : Int) == 45) = true := by simpa using h2
      rw [Bool.or_eq_true] at h3
      rcases h3 with h3 | h3
      · have : c = 43 := u8_eq (n := 43) (by omega) (by simpa using h3)
        exact .inr (.inl (by rw [this]))
      · have : c = 45 := u8_eq (n := 45) (by omega) (by simpa using h3)
        exact .inr (.inr (by rw [this]))

/-- is there an e. -/
def isE : List UInt8 → Bool
  | [] => false
  | c :: _ => !badE c

theorem parseExp_no {b : Bool} {x y : List UInt8} (l : List UInt8) (q : Nat) (h : isE (l.drop q) = false) : parseExp b x y (l.drop q) = if q < l.length then none else some ⟨b, x, y, []⟩ := by
  by_cases hq : q < l.length
  · rw [if_pos hq]
    rw [List.drop_eq_getElem_cons hq] at h ⊢
    exact parseExp_bad (by simpa [isE] using h)
  · rw [if_neg hq, List.drop_eq_nil_of_le (by omega)]; rfl

theorem parseExp_yes {b : Bool} {x y : List UInt8} (l : List UInt8) (q : Nat) (h : isE (l.drop q) = true) :
    q < l.length ∧ parseExp b x y (l.drop q) = parsePow b x y (signOf (l.drop (q + 1))) (behindSign (l.drop (q + 1))) := by
  by_cases hq : q < l.length
  · refine ⟨hq, ?_⟩
    rw [List.drop_eq_getElem_cons hq] at h ⊢
    exact parseExp_ok (by simpa [isE] using h)
  · rw [List.drop_eq_nil_of_le (by omega)] at h; cases h

theorem rres_none {w w' : World} {l : List UInt8} {e : Ending} (hb : Below w.heap.size w w') (hp : parseL l = none) (hl : ¬ 64 < l.length)
    (he : e = .returned (.tuple #[.agg #[.bool false, .slice none 0 0, .int .i64 0, .int .i64 0], .int .i64 2])) : RRes w l e w' :=
  ⟨hb, by rw [hp]; simp only; rw [if_neg hl]; exact he⟩

theorem digit_is (l : List UInt8) (i : Nat) (v : Bool) (w : World) (hl : l.length ≤ 64) (hi : i ≤ 65) (h : digAt l i = v) :
    Calls Tryz.prog 65 #[.string ⟨l.toArray⟩, .int .i64 i] w fun e w' => e = .returned (.bool v) ∧ w = w' := by
  have := digit_any l i w (by omega) (by omega)
  rw [h] at this
  exact this.mono fun e w' h => ⟨h.1, h.2.symm⟩
theorem digit_next (l : List UInt8) (i : Nat) (v : Bool) (w : World) (hl : l.length ≤ 64) (hi : i ≤ 64) (h : digAt l (i + 1) = v) :
    Calls Tryz.prog 65 #[.string ⟨l.toArray⟩, .int .i64 ((i : Int) + 1)] w fun e w' => e = .returned (.bool v) ∧ w = w' :=
  digit_is l (i + 1) v w hl (by omega) h

theorem u8_beq (c : UInt8) (n : Nat) (hn : n < 256) : ((c.toNat : Int) == (n : Int)) = (c == UInt8.ofNat n) := by
  rw [Bool.eq_iff_iff]
  simp only [beq_iff_eq]
  constructor
  · intro h; exact UInt8.toNat_inj.1 (by simp; omega)
  · rintro rfl; simp; omega

theorem refX_start (w : World) (b : Bool) : RefX w b [] 0 0 ((w.alloc (.cells #[.bool false, .slice none 0 0, .int .i64 0, .int .i64 0] 45)).alloc (.cells #[.bool b, .slice none 0 0, .int .i64 0, .int .i64 0] 45)) :=
  ⟨((Below.refl _ _).alloc (Nat.le_refl _) _).alloc (by simp) _, by rw [alloc_before (by simp)]; exact alloc_at rfl, by simp, .slice none 0 0, alloc_at (by simp), World.ownsRow_nil _ _ _ _⟩

/-- another value in one of x's cells. -/
theorem RefX.put {w wx : World} {b b' : Bool} {ds : List UInt8} {pt pw pt' pw' : Int} (h : RefX w b ds pt pw wx) (j : Nat) (v : Value)
    (hv : ∀ u, #[Value.bool b, u, .int .i64 pt, .int .i64 pw].setIfInBounds j v = #[Value.bool b', u, .int .i64 pt', .int .i64 pw']) : RefX w b' ds pt' pw' (wx.setCell ⟨w.heap.size + 1, j, none⟩ v) := by
  obtain ⟨h1, h2, h3, u, h4, h5⟩ := h
  refine ⟨h1.setCell (by simp) _, ?_, by rw [setCell_size]; exact h3, u, ?_, ?_⟩
  · rw [Below.heap_setCell _ _ _ _ (by simp)]; exact h2
  · have := blk_set h4 j v
    rw [hv] at this; exact this
  · obtain ⟨h7, h8⟩ := h5
    refine ⟨h7, h8.imp id ?_⟩
    rintro ⟨g, cap, cur, e1, e2, e3, e4⟩
    exact ⟨g, cap, cur, e1, e2, (Below.heap_setCell _ _ _ g (by simp only; omega)).trans e3, e4⟩

/-- a figure has been appended. -/
theorem ref_round {w wr w4 : World} {b : Bool} {ds : List UInt8} {pt pw : Int} {u : Value} {c : UInt8} {g cap : Nat} {o2 : Obj}
    (h : RefX w b ds pt pw wr) (hu : wr.cell? ⟨w.heap.size + 1, 1, none⟩ = some u) (hg : (wr.drew.alloc o2).grownBy w4 u.ownBlock)
    (hown : w4.ownsRow (w.heap.size + 2) 3 1 (.slice (some ⟨g, 0, none⟩) (ds.length + 1) cap) (ds.length + 1) (ds.map figV ++ [figV c])) :
    RefX w b (ds ++ [c]) pt pw (w4.setCell ⟨w.heap.size + 1, 1, none⟩ (.slice (some ⟨g, 0, none⟩) (ds.length + 1) cap)) := by
  obtain ⟨h1, h2, h3, u', h4, h5⟩ := h
  have hc := cell_of_row wr (w.heap.size + 1) 1 _ 45 (0, 0) h4
  rw [hu] at hc
  obtain rfl : u = u' := by simpa using hc
  have hlt := World.ownsRow.lt h5
  have hno : ∀ b, b < w.heap.size + 2 → some b ≠ u.ownBlock := fun b hb e => by have := (hlt b e.symm).1; omega
  have hs : wr.heap.size + 1 ≤ w4.heap.size := by have := hg.size; simp at this; exact this
  have hd : ∀ b, b < wr.heap.size → (wr.drew.alloc o2).heap[b]? = wr.heap[b]? := fun b hb => Below.heap_alloc wr.drew o2 b hb
  have h44 : w4.heap[w.heap.size + 1]? = some (.cells #[.bool b, u, .int .i64 pt, .int .i64 pw] 45 (0, 0)) := by
    rw [hg.block _ (by simp; omega) (hno _ (by omega)), hd _ h3]; exact h4
  refine ⟨?_, ?_, by rw [setCell_size]; omega, .slice (some ⟨g, 0, none⟩) (ds.length + 1) cap, ?_, ?_⟩
  · exact (((h1.drew).alloc (by show w.heap.size ≤ wr.heap.size; exact h1.size) o2).grown hg (by have := h1.size; simp; show w.heap.size ≤ wr.heap.size + 1; omega) (fun k hk => by have := (hlt k hk).1; omega)).setCell (by simp) _
  · rw [Below.heap_setCell _ _ _ _ (by simp), hg.block _ (by simp; omega) (hno _ (by omega)), hd _ (by omega)]; exact h2
  · simpa using blk_set h44 1 (.slice (some ⟨g, 0, none⟩) (ds.length + 1) cap)
  · rw [List.length_append, List.map_append]
    obtain ⟨h7, h8⟩ := hown
    refine ⟨h7, h8.imp id ?_⟩
    rintro ⟨g', cap', cur, e1, e2, e3, e4⟩
    exact ⟨g', cap', cur, e1, e2, (Below.heap_setCell _ _ _ g' (by simp only; omega)).trans e3, e4⟩

/-- what is behind the first k parts of Parse's code. -/
def sndC : Code → Code
  | .seq _ b => b
  | c => c
noncomputable def suf : Nat → Code
  | 0 => Tryz.f24.body.getD .skip
  | k + 1 => sndC (suf k)

theorem k_out {P : Program} {Q : Exit → Act → World → Prop} {c : Code} {K : Act → World → Prop} {a : Act} {w : World} (h : ∀ a w, c.wp P Q a w → K a w) (hc : c.wp P Q a w) : K a w := h _ _ hc

set_option maxHeartbeats 4000000 in
/-- the part from the exponent on. -/
theorem exp_tail (l : List UInt8) (w : World) (hl : ¬ 64 < l.length) (hlen : l.length ≤ 64) (b : Bool) (d bh : List UInt8) (q : Nat) (hql : q ≤ l.length) (wc : World) (hX8 : RefX w b (d ++ bh) d.length 0 wc) (hpe : parseL l = parseExp b d bh (l.drop q))
    (u3 u6 u7 u8 u9 u10 u11 u12 u13 u14 u15 u16 u17 u18 u19 u20 u21 u22 u23 u24 u25 u26 u27 u28 u29 u30 u31 u32 u33 u34 u35 u36 u37 u38 u39 u40 u41 u42 u43 u44 u45 u46 u47 u48 u49 u50 u51 u52 u53 u54 u55 u56 u57 u58 u59 u60 u61 u62 u63 u64 u65 u66 u67 u68 u69 u70 u71 u72 u73 u74 u75 u76 u77 u78 u79 u80 u81 u82 u83 u84 u85 u86 u87 u88 u89 u90 u91 u92 u93 u94 u95 u96 u97 u98 u99 u100 u101 u102 u103 u104 u105 u106 u107 u108 u109 u110 u111 u112 u113 u114 u115 u116 u117 u118 u119 u120 u121 u122 u123 u124 u125 u126 u127 u128 u129 u130 u131 u132 u133 u134 u135 u136 u137 u138 u139 u140 u141 u142 u143 u144 u145 u146 u147 u148 u149 u150 u151 u152 u153 u154 u155 u156 u157 u158 u159 u160 : Value) :
    Code.wp Tryz.prog (suf 8) (bodyPost Tryz.prog Tryz.f24 (RRes w l)) ⟨((.string ⟨l.toArray⟩ : Value) :: undef :: .pointer (some ⟨w.heap.size, 0, none⟩) :: u3 :: .pointer (some ⟨w.heap.size + 1, 0, none⟩) :: .int .i64 q :: u6 :: u7 :: u8 :: u9 :: u10 :: u11 :: u12 :: u13 :: u14 :: u15 :: u16 :: u17 :: u18 :: u19 :: u20 :: u21 :: u22 :: u23 :: u24 :: u25 :: u26 :: u27 :: u28 :: u29 :: u30 :: u31 :: u32 :: u33 :: u34 :: u35 :: u36 :: u37 :: u38 :: u39 :: u40 :: u41 :: u42 :: u43 :: u44 :: u45 :: u46 :: u47 :: u48 :: u49 :: u50 :: u51 :: u52 :: u53 :: u54 :: u55 :: u56 :: u57 :: u58 :: u59 :: u60 :: u61 :: u62 :: u63 :: u64 :: u65 :: u66 :: u67 :: u68 :: u69 :: u70 :: u71 :: u72 :: u73 :: u74 :: u75 :: u76 :: u77 :: u78 :: u79 :: u80 :: u81 :: u82 :: u83 :: u84 :: u85 :: u86 :: u87 :: u88 :: u89 :: u90 :: u91 :: u92 :: u93 :: u94 :: u95 :: u96 :: u97 :: u98 :: u99 :: u100 :: u101 :: u102 :: u103 :: u104 :: u105 :: u106 :: u107 :: u108 :: u109 :: u110 :: u111 :: u112 :: u113 :: u114 :: u115 :: u116 :: u117 :: u118 :: u119 :: u120 :: u121 :: u122 :: u123 :: u124 :: u125 :: u126 :: u127 :: u128 :: u129 :: u130 :: u131 :: u132 :: u133 :: u134 :: u135 :: u136 :: u137 :: u138 :: u139 :: u140 :: u141 :: u142 :: u143 :: u144 :: u145 :: u146 :: u147 :: u148 :: u149 :: u150 :: u151 :: u152 :: u153 :: u154 :: u155 :: u156 :: u157 :: u158 :: u159 :: u160 :: []).toArray, []⟩ wc := by
  conv => arg 2; whnf
  have HX8 := Lib.hid hX8
  have HPE := Lib.hid hpe
  clear hX8 hpe
  have hq0 : (0 : Int) ≤ (q : Int) := Int.natCast_nonneg _
  go_upto_region 19 with fail
  go_cut [104] (fun u104 wx => u104 = .bool (isE (l.drop q)) ∧ RefX w b (d ++ bh) d.length 0 wx)
  case first =>
    by_cases hlt : q < l.length
    · have hsz : q < (⟨l.toArray⟩ : ByteArray).size := hlt
      have hq5 : (q : Int) < (l.length : Int) := by omega
      obtain ⟨c, hc⟩ : ∃ c, l[q] = c := ⟨_, rfl⟩
      have hc2 : (⟨l.toArray⟩ : ByteArray)[q]'hsz = c := hc
      have HE := Lib.hid (show isE (l.drop q) = !badE c by rw [List.drop_eq_getElem_cons hlt, hc]; rfl)
      clear hc
      by_cases h1 : (c.toNat : Int) = 101
      · have hE := Lib.hid (badE_101 h1)
        go_wp2
        go_meet
        case rel => exact ⟨by rw [HE.out, hE.out]; rfl, HX8.out⟩
      · have hv := Lib.hid (badE_v c)
        go_wp2
        go_meet
        case rel => exact ⟨by rw [HE.out]; exact congrArg Value.bool hv.out, HX8.out⟩
    · have hq5 : ¬ (q : Int) < (l.length : Int) := by omega
      have HE := Lib.hid (show isE (l.drop q) = false by rw [List.drop_eq_nil_of_le (by omega)]; rfl)
      go_wp2
      go_meet
      case rel => exact ⟨by rw [HE.out], HX8.out⟩
  case rest =>
    obtain ⟨rfl, hX9⟩ := hcut
    clear HX8
    have HX9 := Lib.hid hX9
    clear hX9
    go_upto_if 104 with fail
    go_cut [5] (fun u5 wx => ∃ (pw : List UInt8) (q' : Nat), u5 = .int .i64 q' ∧ q' ≤ l.length ∧ RefX w b (d ++ bh) d.length (refExp pw) wx ∧ parseL l = if q' < l.length then none else some ⟨b, d, bh, pw⟩)
    case first =>
      cases hie : isE (l.drop q) with
      | false =>
        have HN := Lib.hid (show parseL l = if q < l.length then none else some ⟨b, d, bh, []⟩ by rw [HPE.out]; exact parseExp_no l q hie)
        clear hie
        go_wp2
        go_meet
        case rel => exact ⟨[], q, rfl, hql, HX9.out, HN.out⟩
      | true =>
        obtain ⟨hq6, hq7⟩ := parseExp_yes (b := b) (x := d) (y := bh) l q hie
        have HN := Lib.hid (HPE.out.trans hq7)
        clear hie hq7
        have hql1 : q + 1 ≤ l.length := hq6
        generalize hy : l.drop (q + 1) = y at HN
        have HY := Lib.hid hy
        clear hy
        go_upto_region 22 with fail
        go_cut [122] (fun u122 wx => u122 = .bool (isSign y) ∧ RefX w b (d ++ bh) d.length 0 wx)
        case first =>
          by_cases hlt : q + 1 < l.length
          · have hsz : q + 1 < (⟨l.toArray⟩ : ByteArray).size := hlt
            have hq5 : (q : Int) + 1 < (l.length : Int) := by omega
            obtain ⟨c, hc⟩ : ∃ c, l[q + 1] = c := ⟨_, rfl⟩
            have hc2 : (⟨l.toArray⟩ : ByteArray)[q + 1]'hsz = c := hc
            have HE := Lib.hid (show isSign y = isSign (c :: l.drop (q + 2)) by rw [← HY.out, List.drop_eq_getElem_cons hlt, hc])
            clear hc
            by_cases h1 : (c.toNat : Int) = 43
            · have hE := Lib.hid (isSign_43 (t := l.drop (q + 2)) h1)
              go_wp2
              go_meet
              case rel => exact ⟨by rw [HE.out, hE.out], HX9.out⟩
            · have hv := Lib.hid (sign_val c (l.drop (q + 2)))
              go_wp2
              go_meet
              case rel => exact ⟨by rw [HE.out]; exact hv.out, HX9.out⟩
          · have hq5 : ¬ (q : Int) + 1 < (l.length : Int) := by omega
            have HE := Lib.hid (show isSign y = false by rw [← HY.out, List.drop_eq_nil_of_le (by omega)]; rfl)
            go_wp2
            go_meet
            case rel => exact ⟨by rw [HE.out], HX9.out⟩
        case rest =>
          obtain ⟨rfl, hX10⟩ := hcut
          clear HX9
          have HX10 := Lib.hid hX10
          clear hX10
          go_upto_if 122 with fail
          go_cut [5, 6] (fun u5 u6 wx => ∃ r : Nat, u5 = .int .i64 r ∧ r ≤ l.length ∧ u6 = .bool (signOf y == [45]) ∧ behindSign y = l.drop r ∧ RefX w b (d ++ bh) d.length 0 wx)
          case first =>
            cases hsg : isSign y with
            | false =>
              have hq := Lib.hid (sign_none y hsg)
              clear hsg
              go_wp2
              go_meet
              case rel => exact ⟨q + 1, by go_num, hql1, by rw [hq.out.2]; rfl, by rw [hq.out.1, ← HY.out], HX10.out⟩
            | true =>
              have hlt : q + 1 < l.length := by
                by_cases h : q + 1 < l.length
                · exact h
                · rw [← HY.out, List.drop_eq_nil_of_le (by omega)] at hsg; cases hsg
              have hsz : q + 1 < (⟨l.toArray⟩ : ByteArray).size := hlt
              have hq5 : (q : Int) + 1 < (l.length : Int) := by omega
              obtain ⟨c, hc⟩ : ∃ c, l[q + 1] = c := ⟨_, rfl⟩
              have hc2 : (⟨l.toArray⟩ : ByteArray)[q + 1]'hsz = c := hc
              have hy2 : y = c :: l.drop (q + 2) := by rw [← HY.out, List.drop_eq_getElem_cons hlt, hc]
              rw [hy2] at hsg
              have hq := Lib.hid (sign_yes hsg)
              have HY2 := Lib.hid hy2
              clear hc hy2 hsg
              go_wp2
              go_meet
              case rel => exact ⟨q + 2, by go_num, by omega, by rw [HY2.out, hq.out.2]; exact congrArg Value.bool (sign_45 c), by rw [HY2.out, hq.out.1], HX10.out⟩
          case rest =>
            obtain ⟨r, rfl, hrl, rfl, hbs, hX11⟩ := hcut
            clear HX10
            have HX11 := Lib.hid hX11
            clear hX11
            have hr0 : (0 : Int) ≤ (r : Int) := Int.natCast_nonneg _
            generalize hd3 : digs (l.drop r) = d3
            have HD3 := Lib.hid hd3
            have hd3l : d3.length ≤ l.length - r := by rw [← hd3]; have := digs_le (l.drop r); rw [List.length_drop] at this; exact this
            have HN2 := Lib.hid (show parseL l = if d3 = [] ∨ l.drop (r + d3.length) ≠ [] then none else some ⟨b, d, bh, signOf y ++ d3⟩ by rw [HN.out, hbs, parsePow, rest_drop, hd3])
            have HSG := Lib.hid (sign_three y)
            clear hd3 hbs HN
            generalize hsy : signOf y = sg at HN2 HSG
            clear hsy
            by_cases hd0 : d3 = []
            · have HDT := Lib.hid (dig_m l r r d3 HD3.out (Nat.le_refl _) (by omega) false (by rw [hd0]; simp))
              have HP := Lib.hid (show parseL l = none by rw [HN2.out, if_pos (.inl hd0)])
              obtain ⟨hx2, hz2⟩ := ref_result HX11.out
              clear hd0
              go_wp2_with fail
              refine (digit_is l r false _ hlen (by omega) HDT.out).mono ?_
              rintro e w' ⟨rfl, rfl⟩
              go_wp2
              refine bodyPost_ret (v := .tuple #[.agg #[.bool false, .slice none 0 0, .int .i64 0, .int .i64 0], .int .i64 2]) (by simp [results, Tryz.results24, go_sem, hx2]) rfl ?_
              refine rres_none ?_ HP.out hl rfl
              (repeat (first | with_reducible refine Below.setCell ?_ (by simp) _))
              exact HX11.out.1
            · have hd1 : 0 < d3.length := List.length_pos_iff.2 hd0
              have HDT := Lib.hid (dig_m l r r d3 HD3.out (Nat.le_refl _) (by omega) true (by simpa using hd1))
              have HD0 := Lib.hid hd0
              clear hd0
              go_wp2_with fail
              refine (digit_is l r true _ hlen (by omega) HDT.out).mono ?_
              rintro e w' ⟨rfl, rfl⟩
              go_wp2_with fail
              go_loopw [5] (fun u5 wr => ∃ n : Nat, r ≤ n ∧ n ≤ r + d3.length ∧ u5 = .int .i64 n ∧ RefX w b (d ++ bh) d.length (capFrom 0 (d3.take (n - r)) : Nat) wr) (fun u5 _ => r + d3.length - (intOf u5).toNat)
              case atStart => exact ⟨r, Nat.le_refl _, by omega, rfl, by rw [Nat.sub_self]; exact HX11.out⟩
              case round =>
                obtain ⟨n, hn1, hn2, rfl, hX⟩ := hrel
                by_cases hlt : n < r + d3.length
                · have HDT := Lib.hid (dig_m l r n d3 HD3.out hn1 hn2 true (by simpa using hlt))
                  obtain ⟨hml, htk, h48, h57⟩ := fig_m l r n d3 HD3.out hn1 hlt
                  have hsz : n < (⟨l.toArray⟩ : ByteArray).size := hml
                  replace h48 : 48 ≤ (((⟨l.toArray⟩ : ByteArray)[n]'hsz).toNat : Int) := h48
                  replace h57 : (((⟨l.toArray⟩ : ByteArray)[n]'hsz).toNat : Int) ≤ 57 := h57
                  obtain ⟨cp, hcp⟩ : ∃ cp, capFrom 0 (d3.take (n - r)) = cp := ⟨_, rfl⟩
                  have hcl : cp ≤ 1000 := by rw [← hcp]; exact capFrom_le _ _ (by omega)
                  rw [hcp] at hX
                  have HCP := Lib.hid (show capFrom 0 (d3.take (n + 1 - r)) = min (cp * 10 + (l[n].toNat - 48)) 1000 by rw [htk, capFrom_snoc, hcp])
                  have HX3 := Lib.hid hX
                  obtain ⟨x1, x2, x3, u, x4, x5⟩ := hX
                  have k3 := cell_of_row wr (w.heap.size + 1) 3 _ 45 (0, 0) x4
                  have kf : ∀ o, wr.frozen? ⟨w.heap.size + 1, o, none⟩ = false := fun o => by simp [World.frozen?, x4]
                  simp at k3
                  have hn0 : (0 : Int) ≤ (n : Int) := Int.natCast_nonneg _
                  have hn4 : (n : Int) < (l.length : Int) := by omega
                  have hc0 : (0 : Int) ≤ (cp : Int) := Int.natCast_nonneg _
                  have hc1 : (cp : Int) ≤ 1000 := by omega
                  clear x1 x2 x4 x5 hcp htk
                  go_wp2_with fail
                  refine (digit_is l n true _ hlen (by omega) HDT.out).mono ?_
                  rintro e w' ⟨rfl, rfl⟩
                  go_wp2_with fail
                  go_region
                  have hval : (min (↑cp * 10 + (((⟨l.toArray⟩ : ByteArray)[n]'hsz).toNat - 48 : Int)) 1000 : Int) = ((min (cp * 10 + (((⟨l.toArray⟩ : ByteArray)[n]'hsz).toNat - 48)) 1000 : Nat) : Int) := by omega
                  have HN := Lib.hid ((HX3.out.put (b' := b) (pt' := d.length) (pw' := ((min (cp * 10 + (((⟨l.toArray⟩ : ByteArray)[n]'hsz).toNat - 48)) 1000 : Nat) : Int)) 3 (.int .i64 ((min (cp * 10 + (((⟨l.toArray⟩ : ByteArray)[n]'hsz).toNat - 48)) 1000 : Nat) : Int)) (fun _ => rfl)).drew)
                  rw [← hval] at HN
                  have HV := Lib.hid hval
                  clear hval
                  go_wp2
                  go_roundw
                  case rel => exact ⟨n + 1, by omega, hlt, by go_num, by rw [HCP.out]; have h := HN.out; rw [HV.out] at h ⊢; exact h⟩
                  case measure => simp [intOf]; omega
                · have HDT := Lib.hid (dig_m l r n d3 HD3.out hn1 hn2 false (by simpa using hlt))
                  obtain ⟨j, hj⟩ : ∃ j, j = r + d3.length := ⟨_, rfl⟩
                  obtain rfl : n = j := by omega
                  obtain ⟨cp, hcp⟩ : ∃ cp, capFrom 0 d3 = cp := ⟨_, rfl⟩
                  have hcl : cp ≤ 1000 := by rw [← hcp]; exact capFrom_le _ _ (by omega)
                  have hx : RefX w b (d ++ bh) d.length (cp : Nat) wr := by
                    have h := hX
                    rw [show n - r = d3.length by omega, List.take_length, hcp] at h; exact h
                  have HX8 := Lib.hid hx
                  have HPP := Lib.hid (show parseL l = if n < l.length then none else some ⟨b, d, bh, sg ++ d3⟩ by
                    rw [HN2.out, ← hj]
                    by_cases h : n < l.length
                    · rw [if_pos h, if_pos (.inr (by intro e; have := congrArg List.length e; rw [List.length_drop] at this; simp at this; omega))]
                    · rw [if_neg h, if_neg (by rintro (e | e) <;> first | exact HD0.out e | exact e (List.drop_eq_nil_of_le (by omega)))])
                  have hdd := Lib.hid (show ∀ c ∈ d3, dig c = true by rw [← HD3.out]; exact digs_dig _)
                  obtain ⟨x1, x2, x3, u, x4, x5⟩ := hx
                  have k3 := cell_of_row wr (w.heap.size + 1) 3 _ 45 (0, 0) x4
                  have kf : ∀ o, wr.frozen? ⟨w.heap.size + 1, o, none⟩ = false := fun o => by simp [World.frozen?, x4]
                  simp at k3
                  have hc0 : (0 : Int) ≤ (cp : Int) := Int.natCast_nonneg _
                  have hc1 : (cp : Int) ≤ 1000 := by omega
                  have hnl : n ≤ l.length := by omega
                  have HCP := Lib.hid hcp
                  clear hX x1 x2 x4 x5 hcp hj
                  rcases HSG.out with rfl | rfl | rfl
                  · go_wp2_with fail
                    refine (digit_is l n false _ hlen (by omega) HDT.out).mono ?_
                    rintro e w' ⟨rfl, rfl⟩
                    go_wp2
                    go_meet
                    case rel => exact ⟨d3, n, rfl, hnl, by rw [refExp_plain d3 hdd.out, HCP.out]; exact HX8.out, HPP.out⟩
                  · go_wp2_with fail
                    refine (digit_is l n false _ hlen (by omega) HDT.out).mono ?_
                    rintro e w' ⟨rfl, rfl⟩
                    go_wp2
                    go_meet
                    case rel => exact ⟨43 :: d3, n, rfl, hnl, by rw [refExp_plus d3, HCP.out]; exact HX8.out, HPP.out⟩
                  · go_wp2_with fail
                    refine (digit_is l n false _ hlen (by omega) HDT.out).mono ?_
                    rintro e w' ⟨rfl, rfl⟩
                    go_wp2
                    go_meet
                    case rel => exact ⟨45 :: d3, n, rfl, hnl, by rw [refExp_minus d3, HCP.out]; exact HX8.out.put 3 (.int .i64 (-(cp : Int))) (fun _ => rfl), HPP.out⟩
    case rest =>
      obtain ⟨pw, q', rfl, hql', hX10, hpp⟩ := hcut
      have HX10 := Lib.hid hX10
      have hq0' : (0 : Int) ≤ (q' : Int) := Int.natCast_nonneg _
      by_cases hlt : q' < l.length
      · have hq5 : (q' : Int) < (l.length : Int) := by omega
        have HP := Lib.hid (show parseL l = none by rw [hpp, if_pos hlt])
        obtain ⟨hx2, hz2⟩ := ref_result hX10
        clear hX10 hpp
        go_wp2
        refine bodyPost_ret (v := .tuple #[.agg #[.bool false, .slice none 0 0, .int .i64 0, .int .i64 0], .int .i64 2]) (by simp [results, Tryz.results24, go_sem, hx2]) rfl ?_
        refine rres_none ?_ HP.out hl rfl
        (repeat (first | with_reducible refine Below.setCell ?_ (by simp) _))
        exact HX10.out.1
      · have hq5 : ¬ (q' : Int) < (l.length : Int) := by omega
        have HP := Lib.hid (show parseL l = some ⟨b, d, bh, pw⟩ by rw [hpp, if_neg hlt])
        obtain ⟨hx2, hz2⟩ := ref_result hX10
        obtain ⟨x1, x2, x3, u, x4, x5⟩ := hX10
        obtain ⟨A, cA, hu, hca, -, hrr⟩ := own_row x5
        subst hu
        have kx := fun o => cell_of_row _ (w.heap.size + 1) o _ 45 (0, 0) x4
        have k0 := kx 0
        have k1 := kx 1
        have k2 := kx 2
        have k3 := kx 3
        simp at k0 k1 k2 k3
        have HRR := Lib.hid hrr
        have HCA := Lib.hid hca
        clear hpp x1 x2 x4 x5 kx hrr hca
        go_wp2
        refine bodyPost_ret (v := .tuple #[.agg #[.bool b, .slice A (d ++ bh).length cA, .int .i64 d.length, .int .i64 (refExp pw)], .int .i64 0]) (by simp [results, Tryz.results24, go_sem, hx2]) rfl ?_
        refine rres_some HP.out ?_ ?_ HCA.out HRR.out
        · (repeat (first | with_reducible refine Below.setCell ?_ (by simp) _))
          exact HX10.out.1
        · (repeat (first | with_reducible refine Also.setCell ?_ (by simp) _))
          exact Also.refl _ _


end Go.Proofs.YtlmogijkkhdogaaGreatDoor
