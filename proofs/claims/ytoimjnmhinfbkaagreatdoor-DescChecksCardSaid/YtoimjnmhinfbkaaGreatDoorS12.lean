import Derived.Test.YtoimjnmhinfbkaaGreatDoorS11
namespace Go.Proofs.YtoimjnmhinfbkaaGreatDoor
open Go.RowKit
set_option maxRecDepth 100000
theorem sorted_any (v : V) : ∀ (cs : List Value) (w : World) (S : Nat → Prop), v.bulk ≤ 4194304 → v.Rep w S cs → Calls Tryz.prog 82 #[.agg cs.toArray] w (OwnRes v.sorted w) := by
  induction v using V.ind with
  | h k t x l n ih =>
    intro cs w S hb hv
    obtain ⟨A, ca, B, cb, hcs, -⟩ := id hv
    subst hcs
    exact sorted_step k t x l n ih A ca B cb w S hv hb
def platR (a o v : ByteArray) : V := .mk 5 false ⟨#[]⟩ ([txtV o, txtV a] ++ if eB v = true then [] else [txtV v]) ([⟨#[111, 115]⟩, ⟨#[97, 114, 99, 104, 105, 116, 101, 99, 116, 117, 114, 101]⟩] ++ if eB v = true then [] else [⟨#[118, 97, 114, 105, 97, 110, 116]⟩])
def descR (m n : ByteArray) (z : Nat) (a o v : ByteArray) : V := .mk 5 false ⟨#[]⟩ ([txtV m, txtV n, numV z] ++ (if eB a = true then [] else [platR a o v])) ([⟨#[109, 101, 100, 105, 97, 84, 121, 112, 101]⟩, ⟨#[100, 105, 103, 101, 115, 116]⟩, ⟨#[115, 105, 122, 101]⟩] ++ (if eB a = true then [] else [⟨#[112, 108, 97, 116, 102, 111, 114, 109]⟩]))
theorem descR_sorted (m n : ByteArray) (z : Nat) (a o v : ByteArray) : (descR m n z a o v).sorted = descVal m n z a o v := by
  unfold descR descVal platR platVal
  cases eB a <;> cases eB v <;> kernel_rfl
/-- Value's answer in the document: the value, the error's number. -/
def RefRes (x : V) (c : Int) (w : World) (e : Ending) (w' : World) : Prop := ∃ cs : List Value, e = .returned (.tuple #[.agg cs.toArray, .int .i64 c]) ∧ x.Rep w' (fun _ => True) cs ∧ Below w.heap.size w w'
set_option maxHeartbeats 3200000 in
theorem rvalue_bad (m n : ByteArray) (z : Int) (a o v : ByteArray) (w : World) (lm : m.size ≤ 1073741824) (ln : n.size ≤ 1073741824) (la : a.size ≤ 1073741824) (lo : o.size ≤ 1073741824) (lv : v.size ≤ 1073741824) (hc : checkA m n z a o v ≠ 0) :
    Calls Tryz.prog 34 #[.agg #[.string m, .string n, .int .i64 z, .string a, .string o, .string v]] w (RefRes zeroV (checkA m n z a o v) w) := by
  have H := fun w => check_ref m n z a o v w lm ln la lo lv
  generalize checkA m n z a o v = c at *
  have hcb : (c != 0) = true := by simpa using hc
  have HH := Lib.hid H
  clear H hc
  go_enter Tryz.func34, Tryz.ntmps34
  go_wp2_with fail
  refine (HH.out _).mono ?_
  rintro e w1 ⟨rfl, hb1⟩
  have HB1 := Lib.hid hb1
  have hRv : w1.heap[w.heap.size + 1]? = some (.cells #[.int .i64 0, .bool false, .string ⟨#[]⟩, .slice none 0 0, .slice none 0 0] 43 (0, 0)) := (hb1.block _ (by simp)).trans (alloc_at (by simp))
  have cR := fun o => cell_of_row w1 (w.heap.size + 1) o _ 43 (0, 0) hRv
  have fR : ∀ o, w1.frozen? ⟨w.heap.size + 1, o, none⟩ = false := fun o => by simp [World.frozen?, hRv]
  have lR : w.heap.size + 1 < w1.heap.size := by have := hb1.size; simp at this; omega
  clear hb1 hRv
  go_wp2
  refine bodyPost_ret (v := .tuple #[.agg #[.int .i64 0, .bool false, .string ⟨#[]⟩, .slice none 0 0, .slice none 0 0], .int .i64 c]) (by simp [results, Tryz.results34, go_sem, cR, fR, lR]) rfl ?_
  refine ⟨[.int .i64 0, .bool false, .string ⟨#[]⟩, .slice none 0 0, .slice none 0 0], rfl, rep_leaf _ _ _ _ _, ?_⟩
  (repeat (first | with_reducible refine Below.setCell ?_ (by simp) _))
  exact (((Below.refl _ _).alloc (Nat.le_refl _) _).alloc (by simp) _).trans (HB1.out.mono (by simp; omega))
theorem descR_bulk {m n : ByteArray} {z : Nat} {a o v : ByteArray} (lm : m.size ≤ 1000) (ln : n.size ≤ 1000) (la : a.size ≤ 1000) (lo : o.size ≤ 1000) (lv : v.size ≤ 1000) (hz : z ≤ 1048576) : (descR m n z a o v).bulk ≤ 4194304 := by
  have hd := decDigits_length 19 z (by omega)
  have e1 : (⟨(Lib.decDigits z).toArray⟩ : ByteArray).size = (Lib.decDigits z).length := by simp [ByteArray.size]
  have c1 : (⟨#[97, 114, 99, 104, 105, 116, 101, 99, 116, 117, 114, 101]⟩ : ByteArray).size = 12 := by decide
  have c2 : (⟨#[111, 115]⟩ : ByteArray).size = 2 := by decide
  have c3 : (⟨#[118, 97, 114, 105, 97, 110, 116]⟩ : ByteArray).size = 7 := by decide
  have c4 : (⟨#[100, 105, 103, 101, 115, 116]⟩ : ByteArray).size = 6 := by decide
  have c5 : (⟨#[109, 101, 100, 105, 97, 84, 121, 112, 101]⟩ : ByteArray).size = 9 := by decide
  have c6 : (⟨#[112, 108, 97, 116, 102, 111, 114, 109]⟩ : ByteArray).size = 8 := by decide
  have c7 : (⟨#[115, 105, 122, 101]⟩ : ByteArray).size = 4 := by decide
  have c8 : (⟨#[]⟩ : ByteArray).size = 0 := by decide
  unfold descR platR txtV numV
  cases eB a <;> cases eB v <;> simp [V.bulk, V.bulks, e1, c1, c2, c3, c4, c5, c6, c7, c8] <;> omega
set_option maxHeartbeats 6400000 in
theorem rvalue_good (m n : ByteArray) (z : Nat) (a o v : ByteArray) (w : World) (lm : m.size ≤ 1000) (ln : n.size ≤ 1000) (la : a.size ≤ 1000) (lo : o.size ≤ 1000) (lv : v.size ≤ 1000) (hz : z ≤ 1048576) (hc : checkA m n z a o v = 0)
    (hp : (a = ⟨#[]⟩ ∧ o = ⟨#[]⟩ ∧ v = ⟨#[]⟩) ∨ eB a = false) :
    Calls Tryz.prog 34 #[.agg #[.string m, .string n, .int .i64 (z : Int), .string a, .string o, .string v]] w (RefRes (descVal m n z a o v) 0 w) := by
  have H := fun w => check_ref m n z a o v w (by omega) (by omega) (by omega) (by omega) (by omega)
  rw [hc] at H
  have HH := Lib.hid H
  have HSO := Lib.hid (fun cs w hr => sorted_any (descR m n z a o v) cs w (fun _ => True) (descR_bulk lm ln la lo lv hz) hr)
  have hz0 : (0 : Int) ≤ (z : Int) := Int.natCast_nonneg _
  have HZ := Lib.hid hz
  have HP := Lib.hid hp
  clear H hc hz hp
  go_enter Tryz.func34, Tryz.ntmps34
  go_wp2_with fail
  refine (HH.out _).mono ?_
  rintro e w1 ⟨rfl, hb1⟩
  have HB1 := Lib.hid (show Below w.heap.size w w1 from (((Below.refl _ _).alloc (Nat.le_refl _) _).alloc (by simp) _).trans (hb1.mono (by simp; omega)))
  have z1 : w.heap.size + 2 ≤ w1.heap.size := by have := hb1.size; simpa using this
  have HX1 := Lib.hid (show w1.heap[w.heap.size]? = some (.cells #[.string m, .string n, .int .i64 (z : Int), .string a, .string o, .string v] 67 (0, 0)) from (hb1.block _ (by simp; omega)).trans (by rw [alloc_before (by simp)]; exact alloc_at rfl))
  have HR1 := Lib.hid (show w1.heap[w.heap.size + 1]? = some (.cells #[.int .i64 0, .bool false, .string ⟨#[]⟩, .slice none 0 0, .slice none 0 0] 43 (0, 0)) from (hb1.block _ (by simp)).trans (alloc_at (by simp)))
  clear hb1
  go_wp2_with fail
  rename_i Kf hKf
  refine reg34_4 (B := w1.heap.size) (p := w.heap.size) (xm := m) (xn := n) (xz := z) (xa := a) (xo := o) (xv := v) (by kernel_rfl) (Nat.le_refl _) HX1.out HZ.out rfl rfl (fun L A w2 hJ hd hs hr hR => ?_)
  obtain ⟨b, U, uc, V, vc, e3, hb, hbox, hU, hV⟩ := hR 14 (by decide)
  obtain ⟨gU, rfl, hgU, hgU2⟩ := info_own hU (by decide)
  obtain ⟨gN, rfl, hgN, hgN2⟩ := info_own hV (by decide)
  have z2 : w1.heap.size ≤ w2.heap.size := hJ.1.size
  have HX2 := Lib.hid hJ.2
  have HR2 := Lib.hid ((hJ.1.block _ (by omega)).trans HR1.out)
  have HB2 := Lib.hid (HB1.out.trans (hJ.1.mono (by omega)))
  have hz2 : b < w2.heap.size := World.block_lt_of_cell? w2 _ ((cell_of_row w2 b 0 _ 43 (0, 0) hbox).trans rfl)
  have HBOX2 := Lib.hid hbox
  have HU2 := Lib.hid hU
  have HV2 := Lib.hid hV
  have hbU : b ≠ gU := fun e => own_ne_blk HU2.out HBOX2.out (.inr (by simp)) (by rw [e]; rfl)
  have hbN : b ≠ gN := fun e => own_ne_blk HV2.out HBOX2.out (.inl (by decide)) (by rw [e]; rfl)
  have y0 : A.eval (.tmp 0) = .agg #[.string m, .string n, .int .i64 (z : Int), .string a, .string o, .string v] := hr 0 (by kernel_rfl)
  have y1 : A.eval (.tmp 1) = .pointer (some ⟨w.heap.size, 0, none⟩) := hr 1 (by kernel_rfl)
  have y2 : A.eval (.tmp 2) = .pointer (some ⟨w.heap.size + 1, 0, none⟩) := hr 2 (by kernel_rfl)
  have y3 : A.eval (.tmp 3) = .int .i64 0 := hr 3 (by kernel_rfl)
  have y4 : A.eval (.tmp 4) = .int .i64 0 := hr 4 (by kernel_rfl)
  have y5 : A.eval (.tmp 5) = .pointer (some ⟨b, 0, none⟩) := e3
  have y6 : A.eval (.tmp 6) = undef := hr 6 (by kernel_rfl)
  have y7 : A.eval (.tmp 7) = undef := hr 7 (by kernel_rfl)
  have y8 : A.eval (.tmp 8) = .agg #[.string m, .string n, .int .i64 (z : Int), .string a, .string o, .string v] := hr 8 (by kernel_rfl)
  have y9 : A.eval (.tmp 9) = .int .i64 0 := hr 9 (by kernel_rfl)
  have y10 : A.eval (.tmp 10) = .int .i64 0 := hr 10 (by kernel_rfl)
  have y11 : A.eval (.tmp 11) = .bool false := hr 11 (by kernel_rfl)
  have y12 : A.eval (.tmp 12) = undef := hr 12 (by kernel_rfl)
  have y13 : A.eval (.tmp 13) = undef := hr 13 (by kernel_rfl)
  have y27 : A.eval (.tmp 27) = undef := hr 27 (by kernel_rfl)
  have y28 : A.eval (.tmp 28) = undef := hr 28 (by kernel_rfl)
  have y29 : A.eval (.tmp 29) = undef := hr 29 (by kernel_rfl)
  have y30 : A.eval (.tmp 30) = undef := hr 30 (by kernel_rfl)
  have y31 : A.eval (.tmp 31) = undef := hr 31 (by kernel_rfl)
  have y32 : A.eval (.tmp 32) = undef := hr 32 (by kernel_rfl)
  have y33 : A.eval (.tmp 33) = undef := hr 33 (by kernel_rfl)
  have y34 : A.eval (.tmp 34) = undef := hr 34 (by kernel_rfl)
  have y35 : A.eval (.tmp 35) = undef := hr 35 (by kernel_rfl)
  have y36 : A.eval (.tmp 36) = undef := hr 36 (by kernel_rfl)
  have y37 : A.eval (.tmp 37) = undef := hr 37 (by kernel_rfl)
  have y38 : A.eval (.tmp 38) = undef := hr 38 (by kernel_rfl)
  have y39 : A.eval (.tmp 39) = undef := hr 39 (by kernel_rfl)
  have y40 : A.eval (.tmp 40) = undef := hr 40 (by kernel_rfl)
  have y41 : A.eval (.tmp 41) = undef := hr 41 (by kernel_rfl)
  have y42 : A.eval (.tmp 42) = undef := hr 42 (by kernel_rfl)
  have y43 : A.eval (.tmp 43) = undef := hr 43 (by kernel_rfl)
  have y44 : A.eval (.tmp 44) = undef := hr 44 (by kernel_rfl)
  have y45 : A.eval (.tmp 45) = undef := hr 45 (by kernel_rfl)
  have y46 : A.eval (.tmp 46) = undef := hr 46 (by kernel_rfl)
  have y47 : A.eval (.tmp 47) = undef := hr 47 (by kernel_rfl)
  have y48 : A.eval (.tmp 48) = undef := hr 48 (by kernel_rfl)
  have y49 : A.eval (.tmp 49) = undef := hr 49 (by kernel_rfl)
  have y50 : A.eval (.tmp 50) = undef := hr 50 (by kernel_rfl)
  have y51 : A.eval (.tmp 51) = undef := hr 51 (by kernel_rfl)
  have y52 : A.eval (.tmp 52) = undef := hr 52 (by kernel_rfl)
  have y53 : A.eval (.tmp 53) = undef := hr 53 (by kernel_rfl)
  have y54 : A.eval (.tmp 54) = undef := hr 54 (by kernel_rfl)
  have y55 : A.eval (.tmp 55) = undef := hr 55 (by kernel_rfl)
  have y56 : A.eval (.tmp 56) = undef := hr 56 (by kernel_rfl)
  have y57 : A.eval (.tmp 57) = undef := hr 57 (by kernel_rfl)
  have y58 : A.eval (.tmp 58) = undef := hr 58 (by kernel_rfl)
  have y59 : A.eval (.tmp 59) = undef := hr 59 (by kernel_rfl)
  have y60 : A.eval (.tmp 60) = undef := hr 60 (by kernel_rfl)
  have y61 : A.eval (.tmp 61) = undef := hr 61 (by kernel_rfl)
  have y62 : A.eval (.tmp 62) = undef := hr 62 (by kernel_rfl)
  have y63 : A.eval (.tmp 63) = undef := hr 63 (by kernel_rfl)
  have y64 : A.eval (.tmp 64) = undef := hr 64 (by kernel_rfl)
  have y65 : A.eval (.tmp 65) = undef := hr 65 (by kernel_rfl)
  have y66 : A.eval (.tmp 66) = undef := hr 66 (by kernel_rfl)
  have y67 : A.eval (.tmp 67) = undef := hr 67 (by kernel_rfl)
  have y68 : A.eval (.tmp 68) = undef := hr 68 (by kernel_rfl)
  have y69 : A.eval (.tmp 69) = undef := hr 69 (by kernel_rfl)
  rw [act70 hs, hd, y0, y1, y2, y3, y4, y5, y6, y7, y8, y9, y10, y11, y12, y13, y27, y28, y29, y30, y31, y32, y33, y34, y35, y36, y37, y38, y39, y40, y41, y42, y43, y44, y45, y46, y47, y48, y49, y50, y51, y52, y53, y54, y55, y56, y57, y58, y59, y60, y61, y62, y63, y64, y65, y66, y67, y68, y69]
  generalize A.eval (.tmp 14) = x1_14
  generalize A.eval (.tmp 15) = x1_15
  generalize A.eval (.tmp 16) = x1_16
  generalize A.eval (.tmp 17) = x1_17
  generalize A.eval (.tmp 18) = x1_18
  generalize A.eval (.tmp 19) = x1_19
  generalize A.eval (.tmp 20) = x1_20
  generalize A.eval (.tmp 21) = x1_21
  generalize A.eval (.tmp 22) = x1_22
  generalize A.eval (.tmp 23) = x1_23
  generalize A.eval (.tmp 24) = x1_24
  generalize A.eval (.tmp 25) = x1_25
  generalize A.eval (.tmp 26) = x1_26
  clear hr hs hd y0 y1 y2 y3 y4 y5 y6 y7 y8 y9 y10 y11 y12 y13 y27 y28 y29 y30 y31 y32 y33 y34 y35 y36 y37 y38 y39 y40 y41 y42 y43 y44 y45 y46 y47 y48 y49 y50 y51 y52 y53 y54 y55 y56 y57 y58 y59 y60 y61 y62 y63 y64 y65 y66 y67 y68 y69
  clear hJ hR e3 hU hV hbox HX1 HR1 HB1
  refine hKf _ _ ?_
  clear hKf
  have cX := fun o => cell_of_row w2 w.heap.size o _ 67 (0, 0) HX2.out
  rcases HP.out with ⟨rfl, rfl, rfl⟩ | ha
  · clear HP
    have cB := fun o => cell_of_row w2 b o _ 43 (0, 0) HBOX2.out
    go_wp2_with fail
    refine (HSO.out [.int .i64 5, .bool false, .string ⟨#[]⟩, .slice (some ⟨gU, 0, none⟩) 3 uc, .slice (some ⟨gN, 0, none⟩) 3 vc] _ (by
      unfold descR
      rw [show eB _ = true from by first | rfl | (simp [eB]; done)]
      refine rep_of_own (base := w1.heap.size) (e := 43) (XS := [.int .i64 3, .bool false, .string m, .slice none 0 0, .slice none 0 0, .int .i64 3, .bool false, .string n, .slice none 0 0, .slice none 0 0, .int .i64 2, .bool false, .string ⟨(Lib.decDigits z).toArray⟩, .slice none 0 0, .slice none 0 0]) (HU2.out.alloc _) (HV2.out.alloc _) (fun i hi => ?_)
      match i, hi with
      | 0, _ => exact rep_leaf _ _ _ _ _
      | 1, _ => exact rep_leaf _ _ _ _ _
      | 2, _ => exact rep_leaf _ _ _ _ _
      | k + 3, h => exact absurd h (by simp))).mono ?_
    have HBW := Lib.hid (HB2.out.alloc (o := .cells #[.string ⟨#[]⟩, .string ⟨#[]⟩, .string ⟨#[]⟩] 65) (by omega))
    have HRW := Lib.hid ((alloc_before (o := .cells #[.string ⟨#[]⟩, .string ⟨#[]⟩, .string ⟨#[]⟩] 65) (show w.heap.size + 1 < w2.heap.size by omega)).trans HR2.out)
    have zW : w.heap.size + 2 ≤ (w2.alloc (.cells #[.string ⟨#[]⟩, .string ⟨#[]⟩, .string ⟨#[]⟩] 65)).heap.size := by simp; omega
    generalize w2.alloc (.cells #[.string ⟨#[]⟩, .string ⟨#[]⟩, .string ⟨#[]⟩] 65) = W at HBW HRW zW ⊢
    rintro e w9 ⟨cs', rfl, ho, hb9⟩
    rw [descR_sorted] at ho
    have hrep := ho.rep
    obtain ⟨A', ca', B', cb', rfl, -⟩ := hrep.open
    have HREP := Lib.hid hrep
    have HB9 := Lib.hid (HBW.out.trans (hb9.mono (by omega)))
    have hRv := (hb9.block _ (by omega)).trans HRW.out
    have cR := fun o => cell_of_row w9 (w.heap.size + 1) o _ 43 (0, 0) hRv
    have fR : ∀ o, w9.frozen? ⟨w.heap.size + 1, o, none⟩ = false := fun o => by simp [World.frozen?, hRv]
    have lR : w.heap.size + 1 < w9.heap.size := by have := hb9.size; omega
    clear hRv hb9 hrep ho
    go_wp2
    refine bodyPost_ret (v := .tuple #[.agg #[.int .i64 (descVal m n z ⟨#[]⟩ ⟨#[]⟩ ⟨#[]⟩).kind, .bool (descVal m n z ⟨#[]⟩ ⟨#[]⟩ ⟨#[]⟩).tr, .string (descVal m n z ⟨#[]⟩ ⟨#[]⟩ ⟨#[]⟩).text, .slice A' (descVal m n z ⟨#[]⟩ ⟨#[]⟩ ⟨#[]⟩).list.length ca', .slice B' (descVal m n z ⟨#[]⟩ ⟨#[]⟩ ⟨#[]⟩).names.length cb'], .int .i64 0]) (by simp [results, Tryz.results34, go_sem, cR, fR, lR]) rfl ?_
    refine ⟨_, rfl, HREP.out.agree (fun b hb _ => ⟨?_, trivial⟩), ?_⟩
    · (repeat (rw [Below.heap_setCell _ _ _ _ (by simp only; omega)]))
    · (repeat (first | with_reducible refine Below.setCell ?_ (by simp) _))
      exact HB9.out
  · clear HP
    have ha' : a.toList.isEmpty = false := ha
    have HA := Lib.hid ha
    clear ha
    go_wp2_with fail
    rename_i Ko hKo Kf hKf
    clear cX HX2
    have HP3 := Lib.hid (show (w2.alloc (.cells #[.string a, .string o, .string v] 65)).heap[w2.heap.size]? = some (.cells #[.string a, .string o, .string v] 65 (0, 0)) from alloc_at rfl)
    have zs3 : (w2.alloc (.cells #[.string a, .string o, .string v] 65)).heap.size = w2.heap.size + 1 := by simp
    have HR3 := Lib.hid ((alloc_before (o := .cells #[.string a, .string o, .string v] 65) (show w.heap.size + 1 < w2.heap.size by omega)).trans HR2.out)
    have HBOX3 := Lib.hid ((alloc_before (o := .cells #[.string a, .string o, .string v] 65) hz2).trans HBOX2.out)
    have HU3 := Lib.hid (HU2.out.alloc (.cells #[.string a, .string o, .string v] 65))
    have HV3 := Lib.hid (HV2.out.alloc (.cells #[.string a, .string o, .string v] 65))
    have HB3 := Lib.hid (HB2.out.alloc (o := .cells #[.string a, .string o, .string v] 65) (by omega))
    generalize w2.alloc (.cells #[.string a, .string o, .string v] 65) = w3 at HP3 zs3 HR3 HBOX3 HU3 HV3 HB3 ⊢
    clear HR2 HBOX2 HU2 HV2 HB2
    refine reg34_7 (B := w3.heap.size) (p := w2.heap.size) (xa := a) (xo := o) (xv := v) (by kernel_rfl) (Nat.le_refl _) HP3.out rfl rfl (fun L A w4 hJ hd hs hr hR => ?_)
    obtain ⟨b7, U7, u7, V7, v7, e3, hb7, hbox7, hU7, hV7⟩ := hR 10 (by decide)
    obtain ⟨gU7, rfl, hgU7, hgU72⟩ := info_own hU7 (by decide)
    obtain ⟨gN7, rfl, hgN7, hgN72⟩ := info_own hV7 (by decide)
    have z4 : w3.heap.size ≤ w4.heap.size := hJ.1.size
    have HP4 := Lib.hid hJ.2
    have HR4 := Lib.hid ((hJ.1.block _ (by omega)).trans HR3.out)
    have HBOX4 := Lib.hid ((hJ.1.block _ (by omega)).trans HBOX3.out)
    have HU4 := Lib.hid (own_ext HU3.out (Ext.of_below hJ.1))
    have HV4 := Lib.hid (own_ext HV3.out (Ext.of_below hJ.1))
    have HB4 := Lib.hid (HB3.out.trans (hJ.1.mono (by omega)))
    have hz74 : b7 < w4.heap.size := World.block_lt_of_cell? w4 _ ((cell_of_row w4 b7 0 _ 43 (0, 0) hbox7).trans rfl)
    have HBOX74 := Lib.hid hbox7
    have HU74 := Lib.hid hU7
    have HV74 := Lib.hid hV7
    have hbU7 : b7 ≠ gU7 := fun e => own_ne_blk HU74.out HBOX74.out (.inr (by simp)) (by rw [e]; rfl)
    have hbN7 : b7 ≠ gN7 := fun e => own_ne_blk HV74.out HBOX74.out (.inl (by decide)) (by rw [e]; rfl)
    have y0 : A.eval (.tmp 0) = .agg #[.string m, .string n, .int .i64 (z : Int), .string a, .string o, .string v] := hr 0 (by kernel_rfl)
    have y1 : A.eval (.tmp 1) = .pointer (some ⟨w.heap.size, 0, none⟩) := hr 1 (by kernel_rfl)
    have y2 : A.eval (.tmp 2) = .pointer (some ⟨w.heap.size + 1, 0, none⟩) := hr 2 (by kernel_rfl)
    have y3 : A.eval (.tmp 3) = .int .i64 0 := hr 3 (by kernel_rfl)
    have y4 : A.eval (.tmp 4) = .int .i64 0 := hr 4 (by kernel_rfl)
    have y5 : A.eval (.tmp 5) = .pointer (some ⟨b, 0, none⟩) := hr 5 (by kernel_rfl)
    have y6 : A.eval (.tmp 6) = .pointer (some ⟨w2.heap.size, 0, none⟩) := hr 6 (by kernel_rfl)
    have y7 : A.eval (.tmp 7) = .pointer (some ⟨b7, 0, none⟩) := e3
    have y8 : A.eval (.tmp 8) = .agg #[.string m, .string n, .int .i64 (z : Int), .string a, .string o, .string v] := hr 8 (by kernel_rfl)
    have y9 : A.eval (.tmp 9) = .int .i64 0 := hr 9 (by kernel_rfl)
    have y10 : A.eval (.tmp 10) = .int .i64 0 := hr 10 (by kernel_rfl)
    have y11 : A.eval (.tmp 11) = .bool false := hr 11 (by kernel_rfl)
    have y12 : A.eval (.tmp 12) = undef := hr 12 (by kernel_rfl)
    have y13 : A.eval (.tmp 13) = undef := hr 13 (by kernel_rfl)
    have y14 : A.eval (.tmp 14) = x1_14 := hr 14 (by kernel_rfl)
    have y15 : A.eval (.tmp 15) = x1_15 := hr 15 (by kernel_rfl)
    have y16 : A.eval (.tmp 16) = x1_16 := hr 16 (by kernel_rfl)
    have y17 : A.eval (.tmp 17) = x1_17 := hr 17 (by kernel_rfl)
    have y18 : A.eval (.tmp 18) = x1_18 := hr 18 (by kernel_rfl)
    have y19 : A.eval (.tmp 19) = x1_19 := hr 19 (by kernel_rfl)
    have y20 : A.eval (.tmp 20) = x1_20 := hr 20 (by kernel_rfl)
    have y21 : A.eval (.tmp 21) = x1_21 := hr 21 (by kernel_rfl)
    have y22 : A.eval (.tmp 22) = x1_22 := hr 22 (by kernel_rfl)
    have y23 : A.eval (.tmp 23) = x1_23 := hr 23 (by kernel_rfl)
    have y24 : A.eval (.tmp 24) = x1_24 := hr 24 (by kernel_rfl)
    have y25 : A.eval (.tmp 25) = x1_25 := hr 25 (by kernel_rfl)
    have y26 : A.eval (.tmp 26) = x1_26 := hr 26 (by kernel_rfl)
    have y27 : A.eval (.tmp 27) = .pointer (some ⟨w.heap.size, 3, none⟩) := hr 27 (by kernel_rfl)
    have y28 : A.eval (.tmp 28) = .agg #[.string a, .string o, .string v] := hr 28 (by kernel_rfl)
    have y29 : A.eval (.tmp 29) = .pointer (some ⟨w2.heap.size, 0, none⟩) := hr 29 (by kernel_rfl)
    have y30 : A.eval (.tmp 30) = .string a := hr 30 (by kernel_rfl)
    have y31 : A.eval (.tmp 31) = .bool true := hr 31 (by kernel_rfl)
    have y41 : A.eval (.tmp 41) = undef := hr 41 (by kernel_rfl)
    have y42 : A.eval (.tmp 42) = undef := hr 42 (by kernel_rfl)
    have y43 : A.eval (.tmp 43) = undef := hr 43 (by kernel_rfl)
    have y44 : A.eval (.tmp 44) = undef := hr 44 (by kernel_rfl)
    have y45 : A.eval (.tmp 45) = undef := hr 45 (by kernel_rfl)
    have y46 : A.eval (.tmp 46) = undef := hr 46 (by kernel_rfl)
    have y47 : A.eval (.tmp 47) = undef := hr 47 (by kernel_rfl)
    have y48 : A.eval (.tmp 48) = undef := hr 48 (by kernel_rfl)
    have y49 : A.eval (.tmp 49) = undef := hr 49 (by kernel_rfl)
    have y50 : A.eval (.tmp 50) = undef := hr 50 (by kernel_rfl)
    have y51 : A.eval (.tmp 51) = undef := hr 51 (by kernel_rfl)
    have y52 : A.eval (.tmp 52) = undef := hr 52 (by kernel_rfl)
    have y53 : A.eval (.tmp 53) = undef := hr 53 (by kernel_rfl)
    have y54 : A.eval (.tmp 54) = undef := hr 54 (by kernel_rfl)
    have y55 : A.eval (.tmp 55) = undef := hr 55 (by kernel_rfl)
    have y56 : A.eval (.tmp 56) = undef := hr 56 (by kernel_rfl)
    have y57 : A.eval (.tmp 57) = undef := hr 57 (by kernel_rfl)
    have y58 : A.eval (.tmp 58) = undef := hr 58 (by kernel_rfl)
    have y59 : A.eval (.tmp 59) = undef := hr 59 (by kernel_rfl)
    have y60 : A.eval (.tmp 60) = undef := hr 60 (by kernel_rfl)
    have y61 : A.eval (.tmp 61) = undef := hr 61 (by kernel_rfl)
    have y62 : A.eval (.tmp 62) = undef := hr 62 (by kernel_rfl)
    have y63 : A.eval (.tmp 63) = undef := hr 63 (by kernel_rfl)
    have y64 : A.eval (.tmp 64) = undef := hr 64 (by kernel_rfl)
    have y65 : A.eval (.tmp 65) = undef := hr 65 (by kernel_rfl)
    have y66 : A.eval (.tmp 66) = undef := hr 66 (by kernel_rfl)
    have y67 : A.eval (.tmp 67) = undef := hr 67 (by kernel_rfl)
    have y68 : A.eval (.tmp 68) = undef := hr 68 (by kernel_rfl)
    have y69 : A.eval (.tmp 69) = undef := hr 69 (by kernel_rfl)
    rw [act70 hs, hd, y0, y1, y2, y3, y4, y5, y6, y7, y8, y9, y10, y11, y12, y13, y14, y15, y16, y17, y18, y19, y20, y21, y22, y23, y24, y25, y26, y27, y28, y29, y30, y31, y41, y42, y43, y44, y45, y46, y47, y48, y49, y50, y51, y52, y53, y54, y55, y56, y57, y58, y59, y60, y61, y62, y63, y64, y65, y66, y67, y68, y69]
    generalize A.eval (.tmp 32) = x2_32
    generalize A.eval (.tmp 33) = x2_33
    generalize A.eval (.tmp 34) = x2_34
    generalize A.eval (.tmp 35) = x2_35
    generalize A.eval (.tmp 36) = x2_36
    generalize A.eval (.tmp 37) = x2_37
    generalize A.eval (.tmp 38) = x2_38
    generalize A.eval (.tmp 39) = x2_39
    generalize A.eval (.tmp 40) = x2_40
    clear hr hs hd y0 y1 y2 y3 y4 y5 y6 y7 y8 y9 y10 y11 y12 y13 y14 y15 y16 y17 y18 y19 y20 y21 y22 y23 y24 y25 y26 y27 y28 y29 y30 y31 y41 y42 y43 y44 y45 y46 y47 y48 y49 y50 y51 y52 y53 y54 y55 y56 y57 y58 y59 y60 y61 y62 y63 y64 y65 y66 y67 y68 y69
    clear hJ hR e3 hU7 hV7 hbox7 HR3 HBOX3 HU3 HV3 HB3 HP3
    refine hKf _ _ ?_
    clear hKf
    have cP := fun o => cell_of_row w4 w2.heap.size o _ 65 (0, 0) HP4.out
    cases hv : v.toList.isEmpty with
    | true =>
      have HVV := Lib.hid (show eB v = true from hv)
      go_upto_region 11 with (fail)
      rename_i Kf hKf
      refine done34_11 (B := w.heap.size) (S0 := w4.heap.size) (b := b) (gN := gN) (gU := gU) (by kernel_rfl) rfl (by omega) (by omega) (by omega) hbU HBOX4.out (own_base HV4.out (by omega)) (own_base HU4.out (by omega)) rfl rfl (fun A w7 h1 d1 hd hs hr hb2 hun hbox2 hh1 ho1 ho2 => ?_)
      have z7 : w4.heap.size ≤ w7.heap.size := hb2.size
      have HR7 := Lib.hid ((hun (w.heap.size + 1) (by omega) (by omega) (by omega) (by omega)).trans HR4.out)
      have HB7 := Lib.hid (HB4.out.trans (hb2.mono (Nat.le_refl _)))
      have HBOX77 := Lib.hid ((hun b7 (by omega) (by omega) (by omega) (by omega)).trans HBOX74.out)
      have HU77 := Lib.hid (HU74.out.far fun k hk => by
        obtain rfl : gU7 = k := by simpa [Value.ownBlock] using hk
        exact hun gU7 (by omega) (by omega) (by omega) (by omega))
      have HV77 := Lib.hid (HV74.out.far fun k hk => by
        obtain rfl : gN7 = k := by simpa [Value.ownBlock] using hk
        exact hun gN7 (by omega) (by omega) (by omega) (by omega))
      have HBOX7 := Lib.hid hbox2
      have HH1 := Lib.hid ho1
      have HU7 := Lib.hid ho2
      have hlh1 := World.ownsRow.lt ho1 h1 rfl
      have y0 : A.eval (.tmp 0) = .agg #[.string m, .string n, .int .i64 (z : Int), .string a, .string o, .string v] := hr 0 (by kernel_rfl)
      have y1 : A.eval (.tmp 1) = .pointer (some ⟨w.heap.size, 0, none⟩) := hr 1 (by kernel_rfl)
      have y2 : A.eval (.tmp 2) = .pointer (some ⟨w.heap.size + 1, 0, none⟩) := hr 2 (by kernel_rfl)
      have y3 : A.eval (.tmp 3) = .int .i64 0 := hr 3 (by kernel_rfl)
      have y4 : A.eval (.tmp 4) = .int .i64 0 := hr 4 (by kernel_rfl)
      have y5 : A.eval (.tmp 5) = .pointer (some ⟨b, 0, none⟩) := hr 5 (by kernel_rfl)
      have y6 : A.eval (.tmp 6) = .pointer (some ⟨w2.heap.size, 0, none⟩) := hr 6 (by kernel_rfl)
      have y7 : A.eval (.tmp 7) = .pointer (some ⟨b7, 0, none⟩) := hr 7 (by kernel_rfl)
      have y8 : A.eval (.tmp 8) = .agg #[.string m, .string n, .int .i64 (z : Int), .string a, .string o, .string v] := hr 8 (by kernel_rfl)
      have y9 : A.eval (.tmp 9) = .int .i64 0 := hr 9 (by kernel_rfl)
      have y10 : A.eval (.tmp 10) = .int .i64 0 := hr 10 (by kernel_rfl)
      have y11 : A.eval (.tmp 11) = .bool false := hr 11 (by kernel_rfl)
      have y12 : A.eval (.tmp 12) = undef := hr 12 (by kernel_rfl)
      have y13 : A.eval (.tmp 13) = undef := hr 13 (by kernel_rfl)
      have y14 : A.eval (.tmp 14) = x1_14 := hr 14 (by kernel_rfl)
      have y15 : A.eval (.tmp 15) = x1_15 := hr 15 (by kernel_rfl)
      have y16 : A.eval (.tmp 16) = x1_16 := hr 16 (by kernel_rfl)
      have y17 : A.eval (.tmp 17) = x1_17 := hr 17 (by kernel_rfl)
      have y18 : A.eval (.tmp 18) = x1_18 := hr 18 (by kernel_rfl)
      have y19 : A.eval (.tmp 19) = x1_19 := hr 19 (by kernel_rfl)
      have y20 : A.eval (.tmp 20) = x1_20 := hr 20 (by kernel_rfl)
      have y21 : A.eval (.tmp 21) = x1_21 := hr 21 (by kernel_rfl)
      have y22 : A.eval (.tmp 22) = x1_22 := hr 22 (by kernel_rfl)
      have y23 : A.eval (.tmp 23) = x1_23 := hr 23 (by kernel_rfl)
      have y24 : A.eval (.tmp 24) = x1_24 := hr 24 (by kernel_rfl)
      have y25 : A.eval (.tmp 25) = x1_25 := hr 25 (by kernel_rfl)
      have y26 : A.eval (.tmp 26) = x1_26 := hr 26 (by kernel_rfl)
      have y27 : A.eval (.tmp 27) = .pointer (some ⟨w.heap.size, 3, none⟩) := hr 27 (by kernel_rfl)
      have y28 : A.eval (.tmp 28) = .agg #[.string a, .string o, .string v] := hr 28 (by kernel_rfl)
      have y29 : A.eval (.tmp 29) = .pointer (some ⟨w2.heap.size, 0, none⟩) := hr 29 (by kernel_rfl)
      have y30 : A.eval (.tmp 30) = .string a := hr 30 (by kernel_rfl)
      have y31 : A.eval (.tmp 31) = .bool true := hr 31 (by kernel_rfl)
      have y32 : A.eval (.tmp 32) = x2_32 := hr 32 (by kernel_rfl)
      have y33 : A.eval (.tmp 33) = x2_33 := hr 33 (by kernel_rfl)
      have y34 : A.eval (.tmp 34) = x2_34 := hr 34 (by kernel_rfl)
      have y35 : A.eval (.tmp 35) = x2_35 := hr 35 (by kernel_rfl)
      have y36 : A.eval (.tmp 36) = x2_36 := hr 36 (by kernel_rfl)
      have y37 : A.eval (.tmp 37) = x2_37 := hr 37 (by kernel_rfl)
      have y38 : A.eval (.tmp 38) = x2_38 := hr 38 (by kernel_rfl)
      have y39 : A.eval (.tmp 39) = x2_39 := hr 39 (by kernel_rfl)
      have y40 : A.eval (.tmp 40) = x2_40 := hr 40 (by kernel_rfl)
      have y41 : A.eval (.tmp 41) = .pointer (some ⟨w2.heap.size, 2, none⟩) := hr 41 (by kernel_rfl)
      have y42 : A.eval (.tmp 42) = .string v := hr 42 (by kernel_rfl)
      have y43 : A.eval (.tmp 43) = .bool false := hr 43 (by kernel_rfl)
      have y44 : A.eval (.tmp 44) = undef := hr 44 (by kernel_rfl)
      have y45 : A.eval (.tmp 45) = undef := hr 45 (by kernel_rfl)
      have y46 : A.eval (.tmp 46) = undef := hr 46 (by kernel_rfl)
      have y47 : A.eval (.tmp 47) = undef := hr 47 (by kernel_rfl)
      have y48 : A.eval (.tmp 48) = undef := hr 48 (by kernel_rfl)
      have y49 : A.eval (.tmp 49) = undef := hr 49 (by kernel_rfl)
      have y50 : A.eval (.tmp 50) = undef := hr 50 (by kernel_rfl)
      have y51 : A.eval (.tmp 51) = undef := hr 51 (by kernel_rfl)
      have y52 : A.eval (.tmp 52) = undef := hr 52 (by kernel_rfl)
      have y53 : A.eval (.tmp 53) = undef := hr 53 (by kernel_rfl)
      have y54 : A.eval (.tmp 54) = undef := hr 54 (by kernel_rfl)
      have y55 : A.eval (.tmp 55) = undef := hr 55 (by kernel_rfl)
      have y56 : A.eval (.tmp 56) = undef := hr 56 (by kernel_rfl)
      have y62 : A.eval (.tmp 62) = undef := hr 62 (by kernel_rfl)
      have y63 : A.eval (.tmp 63) = undef := hr 63 (by kernel_rfl)
      have y64 : A.eval (.tmp 64) = undef := hr 64 (by kernel_rfl)
      have y65 : A.eval (.tmp 65) = undef := hr 65 (by kernel_rfl)
      have y66 : A.eval (.tmp 66) = undef := hr 66 (by kernel_rfl)
      have y67 : A.eval (.tmp 67) = undef := hr 67 (by kernel_rfl)
      have y68 : A.eval (.tmp 68) = undef := hr 68 (by kernel_rfl)
      have y69 : A.eval (.tmp 69) = undef := hr 69 (by kernel_rfl)
      rw [act70 hs, hd, y0, y1, y2, y3, y4, y5, y6, y7, y8, y9, y10, y11, y12, y13, y14, y15, y16, y17, y18, y19, y20, y21, y22, y23, y24, y25, y26, y27, y28, y29, y30, y31, y32, y33, y34, y35, y36, y37, y38, y39, y40, y41, y42, y43, y44, y45, y46, y47, y48, y49, y50, y51, y52, y53, y54, y55, y56, y62, y63, y64, y65, y66, y67, y68, y69]
      generalize A.eval (.tmp 57) = x3_57
      generalize A.eval (.tmp 58) = x3_58
      generalize A.eval (.tmp 59) = x3_59
      generalize A.eval (.tmp 60) = x3_60
      generalize A.eval (.tmp 61) = x3_61
      clear hr hs hd y0 y1 y2 y3 y4 y5 y6 y7 y8 y9 y10 y11 y12 y13 y14 y15 y16 y17 y18 y19 y20 y21 y22 y23 y24 y25 y26 y27 y28 y29 y30 y31 y32 y33 y34 y35 y36 y37 y38 y39 y40 y41 y42 y43 y44 y45 y46 y47 y48 y49 y50 y51 y52 y53 y54 y55 y56 y62 y63 y64 y65 y66 y67 y68 y69
      clear hb2 hun hbox2 ho1 ho2 HR4 HBOX4 HU4 HV4 HB4 HBOX74 HU74 HV74
      refine hKf _ _ ?_
      clear hKf
      go_upto_region 12 with (fail)
      refine done34_12 (B := w.heap.size) (S0 := w7.heap.size) (b := b) (gN := h1) (gU := gU) (p := b7) (gp := gU7) (gq := gN7) (kp := 2) (c5 := u7) (c6 := v7) (by kernel_rfl) rfl (by omega) (by omega) (by omega) hbU HBOX7.out HH1.out HU7.out (by omega) (by omega) (by omega) (by omega) HBOX77.out rfl rfl rfl (fun A w8 h2 d2 hd hs hr hb2 hun hbox2 ho1 hh2 ho2 => ?_)
      have z8 : w7.heap.size ≤ w8.heap.size := hb2.size
      have HR8 := Lib.hid ((hun (w.heap.size + 1) (by omega) (by omega) (by omega) (by omega)).trans HR7.out)
      have HB8 := Lib.hid (HB7.out.trans (hb2.mono (Nat.le_refl _)))
      have HU78 := Lib.hid (HU77.out.far fun k hk => by
        obtain rfl : gU7 = k := by simpa [Value.ownBlock] using hk
        exact hun gU7 (by omega) (by omega) (by omega) (by omega))
      have HV78 := Lib.hid (HV77.out.far fun k hk => by
        obtain rfl : gN7 = k := by simpa [Value.ownBlock] using hk
        exact hun gN7 (by omega) (by omega) (by omega) (by omega))
      have HH2 := Lib.hid ho2
      have HH18 := Lib.hid ho1
      have HBOX8 := Lib.hid hbox2
      have y0 : A.eval (.tmp 0) = .agg #[.string m, .string n, .int .i64 (z : Int), .string a, .string o, .string v] := hr 0 (by kernel_rfl)
      have y1 : A.eval (.tmp 1) = .pointer (some ⟨w.heap.size, 0, none⟩) := hr 1 (by kernel_rfl)
      have y2 : A.eval (.tmp 2) = .pointer (some ⟨w.heap.size + 1, 0, none⟩) := hr 2 (by kernel_rfl)
      have y3 : A.eval (.tmp 3) = .int .i64 0 := hr 3 (by kernel_rfl)
      have y4 : A.eval (.tmp 4) = .int .i64 0 := hr 4 (by kernel_rfl)
      have y5 : A.eval (.tmp 5) = .pointer (some ⟨b, 0, none⟩) := hr 5 (by kernel_rfl)
      have y6 : A.eval (.tmp 6) = .pointer (some ⟨w2.heap.size, 0, none⟩) := hr 6 (by kernel_rfl)
      have y7 : A.eval (.tmp 7) = .pointer (some ⟨b7, 0, none⟩) := hr 7 (by kernel_rfl)
      have y8 : A.eval (.tmp 8) = .agg #[.string m, .string n, .int .i64 (z : Int), .string a, .string o, .string v] := hr 8 (by kernel_rfl)
      have y9 : A.eval (.tmp 9) = .int .i64 0 := hr 9 (by kernel_rfl)
      have y10 : A.eval (.tmp 10) = .int .i64 0 := hr 10 (by kernel_rfl)
      have y11 : A.eval (.tmp 11) = .bool false := hr 11 (by kernel_rfl)
      have y12 : A.eval (.tmp 12) = undef := hr 12 (by kernel_rfl)
      have y13 : A.eval (.tmp 13) = undef := hr 13 (by kernel_rfl)
      have y14 : A.eval (.tmp 14) = x1_14 := hr 14 (by kernel_rfl)
      have y15 : A.eval (.tmp 15) = x1_15 := hr 15 (by kernel_rfl)
      have y16 : A.eval (.tmp 16) = x1_16 := hr 16 (by kernel_rfl)
      have y17 : A.eval (.tmp 17) = x1_17 := hr 17 (by kernel_rfl)
      have y18 : A.eval (.tmp 18) = x1_18 := hr 18 (by kernel_rfl)
      have y19 : A.eval (.tmp 19) = x1_19 := hr 19 (by kernel_rfl)
      have y20 : A.eval (.tmp 20) = x1_20 := hr 20 (by kernel_rfl)
      have y21 : A.eval (.tmp 21) = x1_21 := hr 21 (by kernel_rfl)
      have y22 : A.eval (.tmp 22) = x1_22 := hr 22 (by kernel_rfl)
      have y23 : A.eval (.tmp 23) = x1_23 := hr 23 (by kernel_rfl)
      have y24 : A.eval (.tmp 24) = x1_24 := hr 24 (by kernel_rfl)
      have y25 : A.eval (.tmp 25) = x1_25 := hr 25 (by kernel_rfl)
      have y26 : A.eval (.tmp 26) = x1_26 := hr 26 (by kernel_rfl)
      have y27 : A.eval (.tmp 27) = .pointer (some ⟨w.heap.size, 3, none⟩) := hr 27 (by kernel_rfl)
      have y28 : A.eval (.tmp 28) = .agg #[.string a, .string o, .string v] := hr 28 (by kernel_rfl)
      have y29 : A.eval (.tmp 29) = .pointer (some ⟨w2.heap.size, 0, none⟩) := hr 29 (by kernel_rfl)
      have y30 : A.eval (.tmp 30) = .string a := hr 30 (by kernel_rfl)
      have y31 : A.eval (.tmp 31) = .bool true := hr 31 (by kernel_rfl)
      have y32 : A.eval (.tmp 32) = x2_32 := hr 32 (by kernel_rfl)
      have y33 : A.eval (.tmp 33) = x2_33 := hr 33 (by kernel_rfl)
      have y34 : A.eval (.tmp 34) = x2_34 := hr 34 (by kernel_rfl)
      have y35 : A.eval (.tmp 35) = x2_35 := hr 35 (by kernel_rfl)
      have y36 : A.eval (.tmp 36) = x2_36 := hr 36 (by kernel_rfl)
      have y37 : A.eval (.tmp 37) = x2_37 := hr 37 (by kernel_rfl)
      have y38 : A.eval (.tmp 38) = x2_38 := hr 38 (by kernel_rfl)
      have y39 : A.eval (.tmp 39) = x2_39 := hr 39 (by kernel_rfl)
      have y40 : A.eval (.tmp 40) = x2_40 := hr 40 (by kernel_rfl)
      have y41 : A.eval (.tmp 41) = .pointer (some ⟨w2.heap.size, 2, none⟩) := hr 41 (by kernel_rfl)
      have y42 : A.eval (.tmp 42) = .string v := hr 42 (by kernel_rfl)
      have y43 : A.eval (.tmp 43) = .bool false := hr 43 (by kernel_rfl)
      have y44 : A.eval (.tmp 44) = undef := hr 44 (by kernel_rfl)
      have y45 : A.eval (.tmp 45) = undef := hr 45 (by kernel_rfl)
      have y46 : A.eval (.tmp 46) = undef := hr 46 (by kernel_rfl)
      have y47 : A.eval (.tmp 47) = undef := hr 47 (by kernel_rfl)
      have y48 : A.eval (.tmp 48) = undef := hr 48 (by kernel_rfl)
      have y49 : A.eval (.tmp 49) = undef := hr 49 (by kernel_rfl)
      have y50 : A.eval (.tmp 50) = undef := hr 50 (by kernel_rfl)
      have y51 : A.eval (.tmp 51) = undef := hr 51 (by kernel_rfl)
      have y52 : A.eval (.tmp 52) = undef := hr 52 (by kernel_rfl)
      have y53 : A.eval (.tmp 53) = undef := hr 53 (by kernel_rfl)
      have y54 : A.eval (.tmp 54) = undef := hr 54 (by kernel_rfl)
      have y55 : A.eval (.tmp 55) = undef := hr 55 (by kernel_rfl)
      have y56 : A.eval (.tmp 56) = undef := hr 56 (by kernel_rfl)
      have y57 : A.eval (.tmp 57) = x3_57 := hr 57 (by kernel_rfl)
      have y58 : A.eval (.tmp 58) = x3_58 := hr 58 (by kernel_rfl)
      have y59 : A.eval (.tmp 59) = x3_59 := hr 59 (by kernel_rfl)
      have y60 : A.eval (.tmp 60) = x3_60 := hr 60 (by kernel_rfl)
      have y61 : A.eval (.tmp 61) = x3_61 := hr 61 (by kernel_rfl)
      have y68 : A.eval (.tmp 68) = undef := hr 68 (by kernel_rfl)
      have y69 : A.eval (.tmp 69) = undef := hr 69 (by kernel_rfl)
      rw [act70 hs, hd, y0, y1, y2, y3, y4, y5, y6, y7, y8, y9, y10, y11, y12, y13, y14, y15, y16, y17, y18, y19, y20, y21, y22, y23, y24, y25, y26, y27, y28, y29, y30, y31, y32, y33, y34, y35, y36, y37, y38, y39, y40, y41, y42, y43, y44, y45, y46, y47, y48, y49, y50, y51, y52, y53, y54, y55, y56, y57, y58, y59, y60, y61, y68, y69]
      generalize A.eval (.tmp 62) = x4_62
      generalize A.eval (.tmp 63) = x4_63
      generalize A.eval (.tmp 64) = x4_64
      generalize A.eval (.tmp 65) = x4_65
      generalize A.eval (.tmp 66) = x4_66
      generalize A.eval (.tmp 67) = x4_67
      clear hr hs hd y0 y1 y2 y3 y4 y5 y6 y7 y8 y9 y10 y11 y12 y13 y14 y15 y16 y17 y18 y19 y20 y21 y22 y23 y24 y25 y26 y27 y28 y29 y30 y31 y32 y33 y34 y35 y36 y37 y38 y39 y40 y41 y42 y43 y44 y45 y46 y47 y48 y49 y50 y51 y52 y53 y54 y55 y56 y57 y58 y59 y60 y61 y68 y69
      clear hb2 hun hbox2 ho1 ho2 HR7 HBOX7 HH1 HU7 HBOX77 HU77 HV77 HB7
      refine hKo _ _ ?_
      clear hKo
      have cB := fun o => cell_of_row w8 b o _ 43 (0, 0) HBOX8.out
      go_wp2_with fail
      refine (HSO.out [.int .i64 5, .bool false, .string ⟨#[]⟩, .slice (some ⟨h2, 0, none⟩) 4 d2, .slice (some ⟨h1, 0, none⟩) 4 d1] _ (by
        unfold descR
        rw [show eB a = false from ha']
        refine rep_of_own (base := w.heap.size) (e := 43) (XS := [.int .i64 3, .bool false, .string m, .slice none 0 0, .slice none 0 0, .int .i64 3, .bool false, .string n, .slice none 0 0, .slice none 0 0, .int .i64 2, .bool false, .string ⟨(Lib.decDigits z).toArray⟩, .slice none 0 0, .slice none 0 0, .int .i64 5, .bool false, .string ⟨#[]⟩, .slice (some ⟨gU7, 0, none⟩) 2 u7, .slice (some ⟨gN7, 0, none⟩) 2 v7]) HH2.out HH18.out (fun i hi => ?_)
        match i, hi with
        | 0, _ => exact rep_leaf _ _ _ _ _
        | 1, _ => exact rep_leaf _ _ _ _ _
        | 2, _ => exact rep_leaf _ _ _ _ _
        | 3, _ =>
          show (platR a o v).Rep _ _ _
          unfold platR
          rw [HVV.out]
          refine rep_of_own (e := 43) HU78.out HV78.out (fun i hi => ?_)
          match i, hi with
          | 0, _ => exact rep_leaf _ _ _ _ _
          | 1, _ => exact rep_leaf _ _ _ _ _
          | k + 2, h => exact absurd h (by simp)
        | k + 4, h => exact absurd h (by simp))).mono ?_
      have HBW := HB8
      have HRW := HR8
      have zW : w.heap.size + 2 ≤ w8.heap.size := by omega
      clear cB
      rintro e w9 ⟨cs', rfl, ho, hb9⟩
      rw [descR_sorted] at ho
      have hrep := ho.rep
      obtain ⟨A', ca', B', cb', rfl, -⟩ := hrep.open
      have HREP := Lib.hid hrep
      have HB9 := Lib.hid (HBW.out.trans (hb9.mono (by omega)))
      have hRv := (hb9.block _ (by omega)).trans HRW.out
      have cR := fun o => cell_of_row w9 (w.heap.size + 1) o _ 43 (0, 0) hRv
      have fR : ∀ o, w9.frozen? ⟨w.heap.size + 1, o, none⟩ = false := fun o => by simp [World.frozen?, hRv]
      have lR : w.heap.size + 1 < w9.heap.size := by have := hb9.size; omega
      clear hRv hb9 hrep ho
      go_wp2
      refine bodyPost_ret (v := .tuple #[.agg #[.int .i64 (descVal m n z a o v).kind, .bool (descVal m n z a o v).tr, .string (descVal m n z a o v).text, .slice A' (descVal m n z a o v).list.length ca', .slice B' (descVal m n z a o v).names.length cb'], .int .i64 0]) (by simp [results, Tryz.results34, go_sem, cR, fR, lR]) rfl ?_
      refine ⟨_, rfl, HREP.out.agree (fun b hb _ => ⟨?_, trivial⟩), ?_⟩
      · (repeat (rw [Below.heap_setCell _ _ _ _ (by simp only; omega)]))
      · (repeat (first | with_reducible refine Below.setCell ?_ (by simp) _))
        exact HB9.out
    | false =>
      have HVV := Lib.hid (show eB v = false from hv)
      go_upto_region 9 with (fail)
      rename_i Kf hKf
      refine done34_9 (B := w.heap.size) (S0 := w4.heap.size) (b := b7) (gN := gN7) (gU := gU7) (by kernel_rfl) rfl (by omega) (by omega) hz74 hbU7 HBOX74.out (own_base HV74.out (by omega)) (own_base HU74.out (by omega)) rfl rfl (fun A w5 g1 c1 hd hs hr hb2 hun hbox2 hg1 ho1 ho2 => ?_)
      have z5 : w4.heap.size ≤ w5.heap.size := hb2.size
      have HR5 := Lib.hid ((hun (w.heap.size + 1) (by omega) (by omega) (by omega) (by omega)).trans HR4.out)
      have HP5 := Lib.hid ((hun (w2.heap.size) (by omega) (by omega) (by omega) (by omega)).trans HP4.out)
      have HBOX5 := Lib.hid ((hun (b) (by omega) (by omega) (by omega) (by omega)).trans HBOX4.out)
      have HU5 := Lib.hid (HU4.out.far fun k hk => by
        obtain rfl : gU = k := by simpa [Value.ownBlock] using hk
        exact hun gU (by omega) (by omega) (by omega) (by omega))
      have HV5 := Lib.hid (HV4.out.far fun k hk => by
        obtain rfl : gN = k := by simpa [Value.ownBlock] using hk
        exact hun gN (by omega) (by omega) (by omega) (by omega))
      have HB5 := Lib.hid (HB4.out.trans (hb2.mono (Nat.le_refl _)))
      have HBOX75 := Lib.hid hbox2
      have HV75 := Lib.hid ho1
      have HU75 := Lib.hid ho2
      have hl1 := World.ownsRow.lt ho1 g1 rfl
      have y0 : A.eval (.tmp 0) = .agg #[.string m, .string n, .int .i64 (z : Int), .string a, .string o, .string v] := hr 0 (by kernel_rfl)
      have y1 : A.eval (.tmp 1) = .pointer (some ⟨w.heap.size, 0, none⟩) := hr 1 (by kernel_rfl)
      have y2 : A.eval (.tmp 2) = .pointer (some ⟨w.heap.size + 1, 0, none⟩) := hr 2 (by kernel_rfl)
      have y3 : A.eval (.tmp 3) = .int .i64 0 := hr 3 (by kernel_rfl)
      have y4 : A.eval (.tmp 4) = .int .i64 0 := hr 4 (by kernel_rfl)
      have y5 : A.eval (.tmp 5) = .pointer (some ⟨b, 0, none⟩) := hr 5 (by kernel_rfl)
      have y6 : A.eval (.tmp 6) = .pointer (some ⟨w2.heap.size, 0, none⟩) := hr 6 (by kernel_rfl)
      have y7 : A.eval (.tmp 7) = .pointer (some ⟨b7, 0, none⟩) := hr 7 (by kernel_rfl)
      have y8 : A.eval (.tmp 8) = .agg #[.string m, .string n, .int .i64 (z : Int), .string a, .string o, .string v] := hr 8 (by kernel_rfl)
      have y9 : A.eval (.tmp 9) = .int .i64 0 := hr 9 (by kernel_rfl)
      have y10 : A.eval (.tmp 10) = .int .i64 0 := hr 10 (by kernel_rfl)
      have y11 : A.eval (.tmp 11) = .bool false := hr 11 (by kernel_rfl)
      have y12 : A.eval (.tmp 12) = undef := hr 12 (by kernel_rfl)
      have y13 : A.eval (.tmp 13) = undef := hr 13 (by kernel_rfl)
      have y14 : A.eval (.tmp 14) = x1_14 := hr 14 (by kernel_rfl)
      have y15 : A.eval (.tmp 15) = x1_15 := hr 15 (by kernel_rfl)
      have y16 : A.eval (.tmp 16) = x1_16 := hr 16 (by kernel_rfl)
      have y17 : A.eval (.tmp 17) = x1_17 := hr 17 (by kernel_rfl)
      have y18 : A.eval (.tmp 18) = x1_18 := hr 18 (by kernel_rfl)
      have y19 : A.eval (.tmp 19) = x1_19 := hr 19 (by kernel_rfl)
      have y20 : A.eval (.tmp 20) = x1_20 := hr 20 (by kernel_rfl)
      have y21 : A.eval (.tmp 21) = x1_21 := hr 21 (by kernel_rfl)
      have y22 : A.eval (.tmp 22) = x1_22 := hr 22 (by kernel_rfl)
      have y23 : A.eval (.tmp 23) = x1_23 := hr 23 (by kernel_rfl)
      have y24 : A.eval (.tmp 24) = x1_24 := hr 24 (by kernel_rfl)
      have y25 : A.eval (.tmp 25) = x1_25 := hr 25 (by kernel_rfl)
      have y26 : A.eval (.tmp 26) = x1_26 := hr 26 (by kernel_rfl)
      have y27 : A.eval (.tmp 27) = .pointer (some ⟨w.heap.size, 3, none⟩) := hr 27 (by kernel_rfl)
      have y28 : A.eval (.tmp 28) = .agg #[.string a, .string o, .string v] := hr 28 (by kernel_rfl)
      have y29 : A.eval (.tmp 29) = .pointer (some ⟨w2.heap.size, 0, none⟩) := hr 29 (by kernel_rfl)
      have y30 : A.eval (.tmp 30) = .string a := hr 30 (by kernel_rfl)
      have y31 : A.eval (.tmp 31) = .bool true := hr 31 (by kernel_rfl)
      have y32 : A.eval (.tmp 32) = x2_32 := hr 32 (by kernel_rfl)
      have y33 : A.eval (.tmp 33) = x2_33 := hr 33 (by kernel_rfl)
      have y34 : A.eval (.tmp 34) = x2_34 := hr 34 (by kernel_rfl)
      have y35 : A.eval (.tmp 35) = x2_35 := hr 35 (by kernel_rfl)
      have y36 : A.eval (.tmp 36) = x2_36 := hr 36 (by kernel_rfl)
      have y37 : A.eval (.tmp 37) = x2_37 := hr 37 (by kernel_rfl)
      have y38 : A.eval (.tmp 38) = x2_38 := hr 38 (by kernel_rfl)
      have y39 : A.eval (.tmp 39) = x2_39 := hr 39 (by kernel_rfl)
      have y40 : A.eval (.tmp 40) = x2_40 := hr 40 (by kernel_rfl)
      have y41 : A.eval (.tmp 41) = .pointer (some ⟨w2.heap.size, 2, none⟩) := hr 41 (by kernel_rfl)
      have y42 : A.eval (.tmp 42) = .string v := hr 42 (by kernel_rfl)
      have y43 : A.eval (.tmp 43) = .bool true := hr 43 (by kernel_rfl)
      have y49 : A.eval (.tmp 49) = undef := hr 49 (by kernel_rfl)
      have y50 : A.eval (.tmp 50) = undef := hr 50 (by kernel_rfl)
      have y51 : A.eval (.tmp 51) = undef := hr 51 (by kernel_rfl)
      have y52 : A.eval (.tmp 52) = undef := hr 52 (by kernel_rfl)
      have y53 : A.eval (.tmp 53) = undef := hr 53 (by kernel_rfl)
      have y54 : A.eval (.tmp 54) = undef := hr 54 (by kernel_rfl)
      have y55 : A.eval (.tmp 55) = undef := hr 55 (by kernel_rfl)
      have y56 : A.eval (.tmp 56) = undef := hr 56 (by kernel_rfl)
      have y57 : A.eval (.tmp 57) = undef := hr 57 (by kernel_rfl)
      have y58 : A.eval (.tmp 58) = undef := hr 58 (by kernel_rfl)
      have y59 : A.eval (.tmp 59) = undef := hr 59 (by kernel_rfl)
      have y60 : A.eval (.tmp 60) = undef := hr 60 (by kernel_rfl)
      have y61 : A.eval (.tmp 61) = undef := hr 61 (by kernel_rfl)
      have y62 : A.eval (.tmp 62) = undef := hr 62 (by kernel_rfl)
      have y63 : A.eval (.tmp 63) = undef := hr 63 (by kernel_rfl)
      have y64 : A.eval (.tmp 64) = undef := hr 64 (by kernel_rfl)
      have y65 : A.eval (.tmp 65) = undef := hr 65 (by kernel_rfl)
      have y66 : A.eval (.tmp 66) = undef := hr 66 (by kernel_rfl)
      have y67 : A.eval (.tmp 67) = undef := hr 67 (by kernel_rfl)
      have y68 : A.eval (.tmp 68) = undef := hr 68 (by kernel_rfl)
      have y69 : A.eval (.tmp 69) = undef := hr 69 (by kernel_rfl)
      rw [act70 hs, hd, y0, y1, y2, y3, y4, y5, y6, y7, y8, y9, y10, y11, y12, y13, y14, y15, y16, y17, y18, y19, y20, y21, y22, y23, y24, y25, y26, y27, y28, y29, y30, y31, y32, y33, y34, y35, y36, y37, y38, y39, y40, y41, y42, y43, y49, y50, y51, y52, y53, y54, y55, y56, y57, y58, y59, y60, y61, y62, y63, y64, y65, y66, y67, y68, y69]
      generalize A.eval (.tmp 44) = x3_44
      generalize A.eval (.tmp 45) = x3_45
      generalize A.eval (.tmp 46) = x3_46
      generalize A.eval (.tmp 47) = x3_47
      generalize A.eval (.tmp 48) = x3_48
      clear hr hs hd y0 y1 y2 y3 y4 y5 y6 y7 y8 y9 y10 y11 y12 y13 y14 y15 y16 y17 y18 y19 y20 y21 y22 y23 y24 y25 y26 y27 y28 y29 y30 y31 y32 y33 y34 y35 y36 y37 y38 y39 y40 y41 y42 y43 y49 y50 y51 y52 y53 y54 y55 y56 y57 y58 y59 y60 y61 y62 y63 y64 y65 y66 y67 y68 y69
      clear hb2 hun hbox2 ho1 ho2 HR4 HP4 HBOX4 HU4 HV4 HB4 HBOX74 HU74 HV74
      refine hKf _ _ ?_
      clear hKf
      go_wp2_with fail
      rename_i Kf hKf
      refine done34_10 (B := w.heap.size) (S0 := w5.heap.size) (b := b7) (gN := g1) (gU := gU7) (p := w2.heap.size) (xa := a) (xo := o) (xv := v) (by kernel_rfl) rfl (by omega) (by omega) (by omega) hbU7 HBOX75.out HV75.out HU75.out (by omega) (by omega) (by omega) (by omega) HP5.out rfl rfl rfl (fun A w6 g2 c2 hd hs hr hb2 hun hbox2 ho1 hg2 ho2 => ?_)
      have z6 : w5.heap.size ≤ w6.heap.size := hb2.size
      have HR6 := Lib.hid ((hun (w.heap.size + 1) (by omega) (by omega) (by omega) (by omega)).trans HR5.out)
      have HBOX6 := Lib.hid ((hun (b) (by omega) (by omega) (by omega) (by omega)).trans HBOX5.out)
      have HU6 := Lib.hid (HU5.out.far fun k hk => by
        obtain rfl : gU = k := by simpa [Value.ownBlock] using hk
        exact hun gU (by omega) (by omega) (by omega) (by omega))
      have HV6 := Lib.hid (HV5.out.far fun k hk => by
        obtain rfl : gN = k := by simpa [Value.ownBlock] using hk
        exact hun gN (by omega) (by omega) (by omega) (by omega))
      have HB6 := Lib.hid (HB5.out.trans (hb2.mono (Nat.le_refl _)))
      have HBOX76 := Lib.hid hbox2
      have HV76 := Lib.hid ho1
      have HU76 := Lib.hid ho2
      have hl2 := World.ownsRow.lt ho2 g2 rfl
      have y0 : A.eval (.tmp 0) = .agg #[.string m, .string n, .int .i64 (z : Int), .string a, .string o, .string v] := hr 0 (by kernel_rfl)
      have y1 : A.eval (.tmp 1) = .pointer (some ⟨w.heap.size, 0, none⟩) := hr 1 (by kernel_rfl)
      have y2 : A.eval (.tmp 2) = .pointer (some ⟨w.heap.size + 1, 0, none⟩) := hr 2 (by kernel_rfl)
      have y3 : A.eval (.tmp 3) = .int .i64 0 := hr 3 (by kernel_rfl)
      have y4 : A.eval (.tmp 4) = .int .i64 0 := hr 4 (by kernel_rfl)
      have y5 : A.eval (.tmp 5) = .pointer (some ⟨b, 0, none⟩) := hr 5 (by kernel_rfl)
      have y6 : A.eval (.tmp 6) = .pointer (some ⟨w2.heap.size, 0, none⟩) := hr 6 (by kernel_rfl)
      have y7 : A.eval (.tmp 7) = .pointer (some ⟨b7, 0, none⟩) := hr 7 (by kernel_rfl)
      have y8 : A.eval (.tmp 8) = .agg #[.string m, .string n, .int .i64 (z : Int), .string a, .string o, .string v] := hr 8 (by kernel_rfl)
      have y9 : A.eval (.tmp 9) = .int .i64 0 := hr 9 (by kernel_rfl)
      have y10 : A.eval (.tmp 10) = .int .i64 0 := hr 10 (by kernel_rfl)
      have y11 : A.eval (.tmp 11) = .bool false := hr 11 (by kernel_rfl)
      have y12 : A.eval (.tmp 12) = undef := hr 12 (by kernel_rfl)
      have y13 : A.eval (.tmp 13) = undef := hr 13 (by kernel_rfl)
      have y14 : A.eval (.tmp 14) = x1_14 := hr 14 (by kernel_rfl)
      have y15 : A.eval (.tmp 15) = x1_15 := hr 15 (by kernel_rfl)
      have y16 : A.eval (.tmp 16) = x1_16 := hr 16 (by kernel_rfl)
      have y17 : A.eval (.tmp 17) = x1_17 := hr 17 (by kernel_rfl)
      have y18 : A.eval (.tmp 18) = x1_18 := hr 18 (by kernel_rfl)
      have y19 : A.eval (.tmp 19) = x1_19 := hr 19 (by kernel_rfl)
      have y20 : A.eval (.tmp 20) = x1_20 := hr 20 (by kernel_rfl)
      have y21 : A.eval (.tmp 21) = x1_21 := hr 21 (by kernel_rfl)
      have y22 : A.eval (.tmp 22) = x1_22 := hr 22 (by kernel_rfl)
      have y23 : A.eval (.tmp 23) = x1_23 := hr 23 (by kernel_rfl)
      have y24 : A.eval (.tmp 24) = x1_24 := hr 24 (by kernel_rfl)
      have y25 : A.eval (.tmp 25) = x1_25 := hr 25 (by kernel_rfl)
      have y26 : A.eval (.tmp 26) = x1_26 := hr 26 (by kernel_rfl)
      have y27 : A.eval (.tmp 27) = .pointer (some ⟨w.heap.size, 3, none⟩) := hr 27 (by kernel_rfl)
      have y28 : A.eval (.tmp 28) = .agg #[.string a, .string o, .string v] := hr 28 (by kernel_rfl)
      have y29 : A.eval (.tmp 29) = .pointer (some ⟨w2.heap.size, 0, none⟩) := hr 29 (by kernel_rfl)
      have y30 : A.eval (.tmp 30) = .string a := hr 30 (by kernel_rfl)
      have y31 : A.eval (.tmp 31) = .bool true := hr 31 (by kernel_rfl)
      have y32 : A.eval (.tmp 32) = x2_32 := hr 32 (by kernel_rfl)
      have y33 : A.eval (.tmp 33) = x2_33 := hr 33 (by kernel_rfl)
      have y34 : A.eval (.tmp 34) = x2_34 := hr 34 (by kernel_rfl)
      have y35 : A.eval (.tmp 35) = x2_35 := hr 35 (by kernel_rfl)
      have y36 : A.eval (.tmp 36) = x2_36 := hr 36 (by kernel_rfl)
      have y37 : A.eval (.tmp 37) = x2_37 := hr 37 (by kernel_rfl)
      have y38 : A.eval (.tmp 38) = x2_38 := hr 38 (by kernel_rfl)
      have y39 : A.eval (.tmp 39) = x2_39 := hr 39 (by kernel_rfl)
      have y40 : A.eval (.tmp 40) = x2_40 := hr 40 (by kernel_rfl)
      have y41 : A.eval (.tmp 41) = .pointer (some ⟨w2.heap.size, 2, none⟩) := hr 41 (by kernel_rfl)
      have y42 : A.eval (.tmp 42) = .string v := hr 42 (by kernel_rfl)
      have y43 : A.eval (.tmp 43) = .bool true := hr 43 (by kernel_rfl)
      have y44 : A.eval (.tmp 44) = x3_44 := hr 44 (by kernel_rfl)
      have y45 : A.eval (.tmp 45) = x3_45 := hr 45 (by kernel_rfl)
      have y46 : A.eval (.tmp 46) = x3_46 := hr 46 (by kernel_rfl)
      have y47 : A.eval (.tmp 47) = x3_47 := hr 47 (by kernel_rfl)
      have y48 : A.eval (.tmp 48) = x3_48 := hr 48 (by kernel_rfl)
      have y57 : A.eval (.tmp 57) = undef := hr 57 (by kernel_rfl)
      have y58 : A.eval (.tmp 58) = undef := hr 58 (by kernel_rfl)
      have y59 : A.eval (.tmp 59) = undef := hr 59 (by kernel_rfl)
      have y60 : A.eval (.tmp 60) = undef := hr 60 (by kernel_rfl)
      have y61 : A.eval (.tmp 61) = undef := hr 61 (by kernel_rfl)
      have y62 : A.eval (.tmp 62) = undef := hr 62 (by kernel_rfl)
      have y63 : A.eval (.tmp 63) = undef := hr 63 (by kernel_rfl)
      have y64 : A.eval (.tmp 64) = undef := hr 64 (by kernel_rfl)
      have y65 : A.eval (.tmp 65) = undef := hr 65 (by kernel_rfl)
      have y66 : A.eval (.tmp 66) = undef := hr 66 (by kernel_rfl)
      have y67 : A.eval (.tmp 67) = undef := hr 67 (by kernel_rfl)
      have y68 : A.eval (.tmp 68) = undef := hr 68 (by kernel_rfl)
      have y69 : A.eval (.tmp 69) = undef := hr 69 (by kernel_rfl)
      rw [act70 hs, hd, y0, y1, y2, y3, y4, y5, y6, y7, y8, y9, y10, y11, y12, y13, y14, y15, y16, y17, y18, y19, y20, y21, y22, y23, y24, y25, y26, y27, y28, y29, y30, y31, y32, y33, y34, y35, y36, y37, y38, y39, y40, y41, y42, y43, y44, y45, y46, y47, y48, y57, y58, y59, y60, y61, y62, y63, y64, y65, y66, y67, y68, y69]
      generalize A.eval (.tmp 49) = x4_49
      generalize A.eval (.tmp 50) = x4_50
      generalize A.eval (.tmp 51) = x4_51
      generalize A.eval (.tmp 52) = x4_52
      generalize A.eval (.tmp 53) = x4_53
      generalize A.eval (.tmp 54) = x4_54
      generalize A.eval (.tmp 55) = x4_55
      generalize A.eval (.tmp 56) = x4_56
      clear hr hs hd y0 y1 y2 y3 y4 y5 y6 y7 y8 y9 y10 y11 y12 y13 y14 y15 y16 y17 y18 y19 y20 y21 y22 y23 y24 y25 y26 y27 y28 y29 y30 y31 y32 y33 y34 y35 y36 y37 y38 y39 y40 y41 y42 y43 y44 y45 y46 y47 y48 y57 y58 y59 y60 y61 y62 y63 y64 y65 y66 y67 y68 y69
      clear hb2 hun hbox2 ho1 ho2 HR5 HP5 HBOX5 HU5 HV5 HB5 HBOX75 HU75 HV75
      refine hKf _ _ ?_
      clear hKf
      go_upto_region 11 with (fail)
      rename_i Kf hKf
      refine done34_11 (B := w.heap.size) (S0 := w6.heap.size) (b := b) (gN := gN) (gU := gU) (by kernel_rfl) rfl (by omega) (by omega) (by omega) hbU HBOX6.out (own_base HV6.out (by omega)) (own_base HU6.out (by omega)) rfl rfl (fun A w7 h1 d1 hd hs hr hb2 hun hbox2 hh1 ho1 ho2 => ?_)
      have z7 : w6.heap.size ≤ w7.heap.size := hb2.size
      have HR7 := Lib.hid ((hun (w.heap.size + 1) (by omega) (by omega) (by omega) (by omega)).trans HR6.out)
      have HB7 := Lib.hid (HB6.out.trans (hb2.mono (Nat.le_refl _)))
      have HBOX77 := Lib.hid ((hun b7 (by omega) (by omega) (by omega) (by omega)).trans HBOX76.out)
      have HU77 := Lib.hid (HU76.out.far fun k hk => by
        obtain rfl : g2 = k := by simpa [Value.ownBlock] using hk
        exact hun g2 (by omega) (by omega) (by omega) (by omega))
      have HV77 := Lib.hid (HV76.out.far fun k hk => by
        obtain rfl : g1 = k := by simpa [Value.ownBlock] using hk
        exact hun g1 (by omega) (by omega) (by omega) (by omega))
      have HBOX7 := Lib.hid hbox2
      have HH1 := Lib.hid ho1
      have HU7 := Lib.hid ho2
      have hlh1 := World.ownsRow.lt ho1 h1 rfl
      have y0 : A.eval (.tmp 0) = .agg #[.string m, .string n, .int .i64 (z : Int), .string a, .string o, .string v] := hr 0 (by kernel_rfl)
      have y1 : A.eval (.tmp 1) = .pointer (some ⟨w.heap.size, 0, none⟩) := hr 1 (by kernel_rfl)
      have y2 : A.eval (.tmp 2) = .pointer (some ⟨w.heap.size + 1, 0, none⟩) := hr 2 (by kernel_rfl)
      have y3 : A.eval (.tmp 3) = .int .i64 0 := hr 3 (by kernel_rfl)
      have y4 : A.eval (.tmp 4) = .int .i64 0 := hr 4 (by kernel_rfl)
      have y5 : A.eval (.tmp 5) = .pointer (some ⟨b, 0, none⟩) := hr 5 (by kernel_rfl)
      have y6 : A.eval (.tmp 6) = .pointer (some ⟨w2.heap.size, 0, none⟩) := hr 6 (by kernel_rfl)
      have y7 : A.eval (.tmp 7) = .pointer (some ⟨b7, 0, none⟩) := hr 7 (by kernel_rfl)
      have y8 : A.eval (.tmp 8) = .agg #[.string m, .string n, .int .i64 (z : Int), .string a, .string o, .string v] := hr 8 (by kernel_rfl)
      have y9 : A.eval (.tmp 9) = .int .i64 0 := hr 9 (by kernel_rfl)
      have y10 : A.eval (.tmp 10) = .int .i64 0 := hr 10 (by kernel_rfl)
      have y11 : A.eval (.tmp 11) = .bool false := hr 11 (by kernel_rfl)
      have y12 : A.eval (.tmp 12) = undef := hr 12 (by kernel_rfl)
      have y13 : A.eval (.tmp 13) = undef := hr 13 (by kernel_rfl)
      have y14 : A.eval (.tmp 14) = x1_14 := hr 14 (by kernel_rfl)
      have y15 : A.eval (.tmp 15) = x1_15 := hr 15 (by kernel_rfl)
      have y16 : A.eval (.tmp 16) = x1_16 := hr 16 (by kernel_rfl)
      have y17 : A.eval (.tmp 17) = x1_17 := hr 17 (by kernel_rfl)
      have y18 : A.eval (.tmp 18) = x1_18 := hr 18 (by kernel_rfl)
      have y19 : A.eval (.tmp 19) = x1_19 := hr 19 (by kernel_rfl)
      have y20 : A.eval (.tmp 20) = x1_20 := hr 20 (by kernel_rfl)
      have y21 : A.eval (.tmp 21) = x1_21 := hr 21 (by kernel_rfl)
      have y22 : A.eval (.tmp 22) = x1_22 := hr 22 (by kernel_rfl)
      have y23 : A.eval (.tmp 23) = x1_23 := hr 23 (by kernel_rfl)
      have y24 : A.eval (.tmp 24) = x1_24 := hr 24 (by kernel_rfl)
      have y25 : A.eval (.tmp 25) = x1_25 := hr 25 (by kernel_rfl)
      have y26 : A.eval (.tmp 26) = x1_26 := hr 26 (by kernel_rfl)
      have y27 : A.eval (.tmp 27) = .pointer (some ⟨w.heap.size, 3, none⟩) := hr 27 (by kernel_rfl)
      have y28 : A.eval (.tmp 28) = .agg #[.string a, .string o, .string v] := hr 28 (by kernel_rfl)
      have y29 : A.eval (.tmp 29) = .pointer (some ⟨w2.heap.size, 0, none⟩) := hr 29 (by kernel_rfl)
      have y30 : A.eval (.tmp 30) = .string a := hr 30 (by kernel_rfl)
      have y31 : A.eval (.tmp 31) = .bool true := hr 31 (by kernel_rfl)
      have y32 : A.eval (.tmp 32) = x2_32 := hr 32 (by kernel_rfl)
      have y33 : A.eval (.tmp 33) = x2_33 := hr 33 (by kernel_rfl)
      have y34 : A.eval (.tmp 34) = x2_34 := hr 34 (by kernel_rfl)
      have y35 : A.eval (.tmp 35) = x2_35 := hr 35 (by kernel_rfl)
      have y36 : A.eval (.tmp 36) = x2_36 := hr 36 (by kernel_rfl)
      have y37 : A.eval (.tmp 37) = x2_37 := hr 37 (by kernel_rfl)
      have y38 : A.eval (.tmp 38) = x2_38 := hr 38 (by kernel_rfl)
      have y39 : A.eval (.tmp 39) = x2_39 := hr 39 (by kernel_rfl)
      have y40 : A.eval (.tmp 40) = x2_40 := hr 40 (by kernel_rfl)
      have y41 : A.eval (.tmp 41) = .pointer (some ⟨w2.heap.size, 2, none⟩) := hr 41 (by kernel_rfl)
      have y42 : A.eval (.tmp 42) = .string v := hr 42 (by kernel_rfl)
      have y43 : A.eval (.tmp 43) = .bool true := hr 43 (by kernel_rfl)
      have y44 : A.eval (.tmp 44) = x3_44 := hr 44 (by kernel_rfl)
      have y45 : A.eval (.tmp 45) = x3_45 := hr 45 (by kernel_rfl)
      have y46 : A.eval (.tmp 46) = x3_46 := hr 46 (by kernel_rfl)
      have y47 : A.eval (.tmp 47) = x3_47 := hr 47 (by kernel_rfl)
      have y48 : A.eval (.tmp 48) = x3_48 := hr 48 (by kernel_rfl)
      have y49 : A.eval (.tmp 49) = x4_49 := hr 49 (by kernel_rfl)
      have y50 : A.eval (.tmp 50) = x4_50 := hr 50 (by kernel_rfl)
      have y51 : A.eval (.tmp 51) = x4_51 := hr 51 (by kernel_rfl)
      have y52 : A.eval (.tmp 52) = x4_52 := hr 52 (by kernel_rfl)
      have y53 : A.eval (.tmp 53) = x4_53 := hr 53 (by kernel_rfl)
      have y54 : A.eval (.tmp 54) = x4_54 := hr 54 (by kernel_rfl)
      have y55 : A.eval (.tmp 55) = x4_55 := hr 55 (by kernel_rfl)
      have y56 : A.eval (.tmp 56) = x4_56 := hr 56 (by kernel_rfl)
      have y62 : A.eval (.tmp 62) = undef := hr 62 (by kernel_rfl)
      have y63 : A.eval (.tmp 63) = undef := hr 63 (by kernel_rfl)
      have y64 : A.eval (.tmp 64) = undef := hr 64 (by kernel_rfl)
      have y65 : A.eval (.tmp 65) = undef := hr 65 (by kernel_rfl)
      have y66 : A.eval (.tmp 66) = undef := hr 66 (by kernel_rfl)
      have y67 : A.eval (.tmp 67) = undef := hr 67 (by kernel_rfl)
      have y68 : A.eval (.tmp 68) = undef := hr 68 (by kernel_rfl)
      have y69 : A.eval (.tmp 69) = undef := hr 69 (by kernel_rfl)
      rw [act70 hs, hd, y0, y1, y2, y3, y4, y5, y6, y7, y8, y9, y10, y11, y12, y13, y14, y15, y16, y17, y18, y19, y20, y21, y22, y23, y24, y25, y26, y27, y28, y29, y30, y31, y32, y33, y34, y35, y36, y37, y38, y39, y40, y41, y42, y43, y44, y45, y46, y47, y48, y49, y50, y51, y52, y53, y54, y55, y56, y62, y63, y64, y65, y66, y67, y68, y69]
      generalize A.eval (.tmp 57) = x5_57
      generalize A.eval (.tmp 58) = x5_58
      generalize A.eval (.tmp 59) = x5_59
      generalize A.eval (.tmp 60) = x5_60
      generalize A.eval (.tmp 61) = x5_61
      clear hr hs hd y0 y1 y2 y3 y4 y5 y6 y7 y8 y9 y10 y11 y12 y13 y14 y15 y16 y17 y18 y19 y20 y21 y22 y23 y24 y25 y26 y27 y28 y29 y30 y31 y32 y33 y34 y35 y36 y37 y38 y39 y40 y41 y42 y43 y44 y45 y46 y47 y48 y49 y50 y51 y52 y53 y54 y55 y56 y62 y63 y64 y65 y66 y67 y68 y69
      clear hb2 hun hbox2 ho1 ho2 HR6 HBOX6 HU6 HV6 HB6 HBOX76 HU76 HV76
      refine hKf _ _ ?_
      clear hKf
      go_upto_region 12 with (fail)
      refine done34_12 (B := w.heap.size) (S0 := w7.heap.size) (b := b) (gN := h1) (gU := gU) (p := b7) (gp := g2) (gq := g1) (kp := 3) (c5 := c2) (c6 := c1) (by kernel_rfl) rfl (by omega) (by omega) (by omega) hbU HBOX7.out HH1.out HU7.out (by omega) (by omega) (by omega) (by omega) HBOX77.out rfl rfl rfl (fun A w8 h2 d2 hd hs hr hb2 hun hbox2 ho1 hh2 ho2 => ?_)
      have z8 : w7.heap.size ≤ w8.heap.size := hb2.size
      have HR8 := Lib.hid ((hun (w.heap.size + 1) (by omega) (by omega) (by omega) (by omega)).trans HR7.out)
      have HB8 := Lib.hid (HB7.out.trans (hb2.mono (Nat.le_refl _)))
      have HU78 := Lib.hid (HU77.out.far fun k hk => by
        obtain rfl : g2 = k := by simpa [Value.ownBlock] using hk
        exact hun g2 (by omega) (by omega) (by omega) (by omega))
      have HV78 := Lib.hid (HV77.out.far fun k hk => by
        obtain rfl : g1 = k := by simpa [Value.ownBlock] using hk
        exact hun g1 (by omega) (by omega) (by omega) (by omega))
      have HH2 := Lib.hid ho2
      have HH18 := Lib.hid ho1
      have HBOX8 := Lib.hid hbox2
      have y0 : A.eval (.tmp 0) = .agg #[.string m, .string n, .int .i64 (z : Int), .string a, .string o, .string v] := hr 0 (by kernel_rfl)
      have y1 : A.eval (.tmp 1) = .pointer (some ⟨w.heap.size, 0, none⟩) := hr 1 (by kernel_rfl)
      have y2 : A.eval (.tmp 2) = .pointer (some ⟨w.heap.size + 1, 0, none⟩) := hr 2 (by kernel_rfl)
      have y3 : A.eval (.tmp 3) = .int .i64 0 := hr 3 (by kernel_rfl)
      have y4 : A.eval (.tmp 4) = .int .i64 0 := hr 4 (by kernel_rfl)
      have y5 : A.eval (.tmp 5) = .pointer (some ⟨b, 0, none⟩) := hr 5 (by kernel_rfl)
      have y6 : A.eval (.tmp 6) = .pointer (some ⟨w2.heap.size, 0, none⟩) := hr 6 (by kernel_rfl)
      have y7 : A.eval (.tmp 7) = .pointer (some ⟨b7, 0, none⟩) := hr 7 (by kernel_rfl)
      have y8 : A.eval (.tmp 8) = .agg #[.string m, .string n, .int .i64 (z : Int), .string a, .string o, .string v] := hr 8 (by kernel_rfl)
      have y9 : A.eval (.tmp 9) = .int .i64 0 := hr 9 (by kernel_rfl)
      have y10 : A.eval (.tmp 10) = .int .i64 0 := hr 10 (by kernel_rfl)
      have y11 : A.eval (.tmp 11) = .bool false := hr 11 (by kernel_rfl)
      have y12 : A.eval (.tmp 12) = undef := hr 12 (by kernel_rfl)
      have y13 : A.eval (.tmp 13) = undef := hr 13 (by kernel_rfl)
      have y14 : A.eval (.tmp 14) = x1_14 := hr 14 (by kernel_rfl)
      have y15 : A.eval (.tmp 15) = x1_15 := hr 15 (by kernel_rfl)
      have y16 : A.eval (.tmp 16) = x1_16 := hr 16 (by kernel_rfl)
      have y17 : A.eval (.tmp 17) = x1_17 := hr 17 (by kernel_rfl)
      have y18 : A.eval (.tmp 18) = x1_18 := hr 18 (by kernel_rfl)
      have y19 : A.eval (.tmp 19) = x1_19 := hr 19 (by kernel_rfl)
      have y20 : A.eval (.tmp 20) = x1_20 := hr 20 (by kernel_rfl)
      have y21 : A.eval (.tmp 21) = x1_21 := hr 21 (by kernel_rfl)
      have y22 : A.eval (.tmp 22) = x1_22 := hr 22 (by kernel_rfl)
      have y23 : A.eval (.tmp 23) = x1_23 := hr 23 (by kernel_rfl)
      have y24 : A.eval (.tmp 24) = x1_24 := hr 24 (by kernel_rfl)
      have y25 : A.eval (.tmp 25) = x1_25 := hr 25 (by kernel_rfl)
      have y26 : A.eval (.tmp 26) = x1_26 := hr 26 (by kernel_rfl)
      have y27 : A.eval (.tmp 27) = .pointer (some ⟨w.heap.size, 3, none⟩) := hr 27 (by kernel_rfl)
      have y28 : A.eval (.tmp 28) = .agg #[.string a, .string o, .string v] := hr 28 (by kernel_rfl)
      have y29 : A.eval (.tmp 29) = .pointer (some ⟨w2.heap.size, 0, none⟩) := hr 29 (by kernel_rfl)
      have y30 : A.eval (.tmp 30) = .string a := hr 30 (by kernel_rfl)
      have y31 : A.eval (.tmp 31) = .bool true := hr 31 (by kernel_rfl)
      have y32 : A.eval (.tmp 32) = x2_32 := hr 32 (by kernel_rfl)
      have y33 : A.eval (.tmp 33) = x2_33 := hr 33 (by kernel_rfl)
      have y34 : A.eval (.tmp 34) = x2_34 := hr 34 (by kernel_rfl)
      have y35 : A.eval (.tmp 35) = x2_35 := hr 35 (by kernel_rfl)
      have y36 : A.eval (.tmp 36) = x2_36 := hr 36 (by kernel_rfl)
      have y37 : A.eval (.tmp 37) = x2_37 := hr 37 (by kernel_rfl)
      have y38 : A.eval (.tmp 38) = x2_38 := hr 38 (by kernel_rfl)
      have y39 : A.eval (.tmp 39) = x2_39 := hr 39 (by kernel_rfl)
      have y40 : A.eval (.tmp 40) = x2_40 := hr 40 (by kernel_rfl)
      have y41 : A.eval (.tmp 41) = .pointer (some ⟨w2.heap.size, 2, none⟩) := hr 41 (by kernel_rfl)
      have y42 : A.eval (.tmp 42) = .string v := hr 42 (by kernel_rfl)
      have y43 : A.eval (.tmp 43) = .bool true := hr 43 (by kernel_rfl)
      have y44 : A.eval (.tmp 44) = x3_44 := hr 44 (by kernel_rfl)
      have y45 : A.eval (.tmp 45) = x3_45 := hr 45 (by kernel_rfl)
      have y46 : A.eval (.tmp 46) = x3_46 := hr 46 (by kernel_rfl)
      have y47 : A.eval (.tmp 47) = x3_47 := hr 47 (by kernel_rfl)
      have y48 : A.eval (.tmp 48) = x3_48 := hr 48 (by kernel_rfl)
      have y49 : A.eval (.tmp 49) = x4_49 := hr 49 (by kernel_rfl)
      have y50 : A.eval (.tmp 50) = x4_50 := hr 50 (by kernel_rfl)
      have y51 : A.eval (.tmp 51) = x4_51 := hr 51 (by kernel_rfl)
      have y52 : A.eval (.tmp 52) = x4_52 := hr 52 (by kernel_rfl)
      have y53 : A.eval (.tmp 53) = x4_53 := hr 53 (by kernel_rfl)
      have y54 : A.eval (.tmp 54) = x4_54 := hr 54 (by kernel_rfl)
      have y55 : A.eval (.tmp 55) = x4_55 := hr 55 (by kernel_rfl)
      have y56 : A.eval (.tmp 56) = x4_56 := hr 56 (by kernel_rfl)
      have y57 : A.eval (.tmp 57) = x5_57 := hr 57 (by kernel_rfl)
      have y58 : A.eval (.tmp 58) = x5_58 := hr 58 (by kernel_rfl)
      have y59 : A.eval (.tmp 59) = x5_59 := hr 59 (by kernel_rfl)
      have y60 : A.eval (.tmp 60) = x5_60 := hr 60 (by kernel_rfl)
      have y61 : A.eval (.tmp 61) = x5_61 := hr 61 (by kernel_rfl)
      have y68 : A.eval (.tmp 68) = undef := hr 68 (by kernel_rfl)
      have y69 : A.eval (.tmp 69) = undef := hr 69 (by kernel_rfl)
      rw [act70 hs, hd, y0, y1, y2, y3, y4, y5, y6, y7, y8, y9, y10, y11, y12, y13, y14, y15, y16, y17, y18, y19, y20, y21, y22, y23, y24, y25, y26, y27, y28, y29, y30, y31, y32, y33, y34, y35, y36, y37, y38, y39, y40, y41, y42, y43, y44, y45, y46, y47, y48, y49, y50, y51, y52, y53, y54, y55, y56, y57, y58, y59, y60, y61, y68, y69]
      generalize A.eval (.tmp 62) = x6_62
      generalize A.eval (.tmp 63) = x6_63
      generalize A.eval (.tmp 64) = x6_64
      generalize A.eval (.tmp 65) = x6_65
      generalize A.eval (.tmp 66) = x6_66
      generalize A.eval (.tmp 67) = x6_67
      clear hr hs hd y0 y1 y2 y3 y4 y5 y6 y7 y8 y9 y10 y11 y12 y13 y14 y15 y16 y17 y18 y19 y20 y21 y22 y23 y24 y25 y26 y27 y28 y29 y30 y31 y32 y33 y34 y35 y36 y37 y38 y39 y40 y41 y42 y43 y44 y45 y46 y47 y48 y49 y50 y51 y52 y53 y54 y55 y56 y57 y58 y59 y60 y61 y68 y69
      clear hb2 hun hbox2 ho1 ho2 HR7 HBOX7 HH1 HU7 HBOX77 HU77 HV77 HB7
      refine hKo _ _ ?_
      clear hKo
      have cB := fun o => cell_of_row w8 b o _ 43 (0, 0) HBOX8.out
      go_wp2_with fail
      refine (HSO.out [.int .i64 5, .bool false, .string ⟨#[]⟩, .slice (some ⟨h2, 0, none⟩) 4 d2, .slice (some ⟨h1, 0, none⟩) 4 d1] _ (by
        unfold descR
        rw [show eB a = false from ha']
        refine rep_of_own (base := w.heap.size) (e := 43) (XS := [.int .i64 3, .bool false, .string m, .slice none 0 0, .slice none 0 0, .int .i64 3, .bool false, .string n, .slice none 0 0, .slice none 0 0, .int .i64 2, .bool false, .string ⟨(Lib.decDigits z).toArray⟩, .slice none 0 0, .slice none 0 0, .int .i64 5, .bool false, .string ⟨#[]⟩, .slice (some ⟨g2, 0, none⟩) 3 c2, .slice (some ⟨g1, 0, none⟩) 3 c1]) HH2.out HH18.out (fun i hi => ?_)
        match i, hi with
        | 0, _ => exact rep_leaf _ _ _ _ _
        | 1, _ => exact rep_leaf _ _ _ _ _
        | 2, _ => exact rep_leaf _ _ _ _ _
        | 3, _ =>
          show (platR a o v).Rep _ _ _
          unfold platR
          rw [HVV.out]
          refine rep_of_own (e := 43) HU78.out HV78.out (fun i hi => ?_)
          match i, hi with
          | 0, _ => exact rep_leaf _ _ _ _ _
          | 1, _ => exact rep_leaf _ _ _ _ _
          | 2, _ => exact rep_leaf _ _ _ _ _
          | k + 3, h => exact absurd h (by simp)
        | k + 4, h => exact absurd h (by simp))).mono ?_
      have HBW := HB8
      have HRW := HR8
      have zW : w.heap.size + 2 ≤ w8.heap.size := by omega
      clear cB
      rintro e w9 ⟨cs', rfl, ho, hb9⟩
      rw [descR_sorted] at ho
      have hrep := ho.rep
      obtain ⟨A', ca', B', cb', rfl, -⟩ := hrep.open
      have HREP := Lib.hid hrep
      have HB9 := Lib.hid (HBW.out.trans (hb9.mono (by omega)))
      have hRv := (hb9.block _ (by omega)).trans HRW.out
      have cR := fun o => cell_of_row w9 (w.heap.size + 1) o _ 43 (0, 0) hRv
      have fR : ∀ o, w9.frozen? ⟨w.heap.size + 1, o, none⟩ = false := fun o => by simp [World.frozen?, hRv]
      have lR : w.heap.size + 1 < w9.heap.size := by have := hb9.size; omega
      clear hRv hb9 hrep ho
      go_wp2
      refine bodyPost_ret (v := .tuple #[.agg #[.int .i64 (descVal m n z a o v).kind, .bool (descVal m n z a o v).tr, .string (descVal m n z a o v).text, .slice A' (descVal m n z a o v).list.length ca', .slice B' (descVal m n z a o v).names.length cb'], .int .i64 0]) (by simp [results, Tryz.results34, go_sem, cR, fR, lR]) rfl ?_
      refine ⟨_, rfl, HREP.out.agree (fun b hb _ => ⟨?_, trivial⟩), ?_⟩
      · (repeat (rw [Below.heap_setCell _ _ _ _ (by simp only; omega)]))
      · (repeat (first | with_reducible refine Below.setCell ?_ (by simp) _))
        exact HB9.out
end Go.Proofs.YtoimjnmhinfbkaaGreatDoor
