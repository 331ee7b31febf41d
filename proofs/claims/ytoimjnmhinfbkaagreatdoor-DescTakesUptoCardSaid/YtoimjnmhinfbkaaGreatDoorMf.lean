import Derived.Test.YtoimjnmhinfbkaaGreatDoorMe
namespace Go.Proofs.YtoimjnmhinfbkaaGreatDoor
open Go.RowKit
set_option maxRecDepth 100000

/-- the cells of the document's looks at the first j values, each with its place. -/
def dlookCells (css : List Value) (pl : Nat → ByteArray) : Nat → List Value
  | 0 => []
  | j + 1 => dlookCells css pl j ++ ((css.drop (5 * j)).take 5 ++ [.string (pl j), .int .i64 0, .string ⟨#[]⟩])

theorem dlookCells_length (css : List Value) (pl : Nat → ByteArray) (n : Nat) (h : css.length = n * 5) : ∀ j, j ≤ n → (dlookCells css pl j).length = j * 8 := by
  intro j
  induction j with
  | zero => intro _; rfl
  | succ j ih =>
    intro hj
    have := ih (by omega)
    simp only [dlookCells, List.length_append, this, List.length_take, List.length_drop, List.length_cons, List.length_nil]
    omega

theorem dlookCells_at (css : List Value) (pl : Nat → ByteArray) (n : Nat) (h : css.length = n * 5) : ∀ j, j ≤ n → ∀ i, i < j → ((dlookCells css pl j).drop (8 * i)).take 8 = (css.drop (5 * i)).take 5 ++ [.string (pl i), .int .i64 0, .string ⟨#[]⟩] := by
  intro j
  induction j with
  | zero => intro _ i hi; omega
  | succ j ih =>
    intro hj i hi
    have hl := dlookCells_length css pl n h j (by omega)
    simp only [dlookCells]
    by_cases he : i = j
    · subst he
      rw [show 8 * i = (dlookCells css pl i).length from by omega, List.drop_left, List.take_of_length_le]
      simp; omega
    · rw [List.drop_append_of_le_length (by omega), List.take_append_of_le_length (by rw [List.length_drop]; omega)]
      exact ih (by omega) i (by omega)

/-- what holds at the head of the document's Fields' loop. -/
def DFieldsInv (w : World) (css : List Value) (pl : Nat → ByteArray) (c c2 : Array Value) (v : Value) (j : Nat) (wr : World) : Prop :=
  Below w.heap.size w wr ∧ wr.heap[w.heap.size]? = some (.cells c 46 (0, 0)) ∧ wr.heap[w.heap.size + 1]? = some (.cells c2 46 (0, 0)) ∧ w.heap.size + 1 < wr.heap.size ∧ wr.ownsRow (w.heap.size + 2) 46 8 v j (dlookCells css pl j)

theorem dfields_round {w : World} {css : List Value} {pl : Nat → ByteArray} {c c2 : Array Value} {v v' : Value} {j : Nat} {wr w3 w4 : World} {o2 : Obj} {cs : List Value}
    (hI : DFieldsInv w css pl c c2 v j wr) (hcs : (css.drop (5 * j)).take 5 = cs) (hb : Below wr.drew.heap.size wr.drew w3) (hg : (w3.alloc o2).grownBy w4 v.ownBlock)
    (hown : w4.ownsRow (w.heap.size + 2) 46 8 v' (j + 1) (dlookCells css pl j ++ (cs ++ [.string (pl j), .int .i64 0, .string ⟨#[]⟩]))) : DFieldsInv w css pl c c2 v' (j + 1) w4 := by
  obtain ⟨i1, i2, i2', i3, i4⟩ := hI
  have hs : wr.heap.size ≤ w3.heap.size := hb.size
  have b3 : Below w.heap.size w w3 := (i1.drew).trans (hb.mono (by show w.heap.size ≤ wr.heap.size; omega))
  have h3 : w3.heap[w.heap.size]? = some (.cells c 46 (0, 0)) := (hb.block _ (by show _ < wr.heap.size; omega)).trans i2
  have h3' : w3.heap[w.heap.size + 1]? = some (.cells c2 46 (0, 0)) := (hb.block _ (by show _ < wr.heap.size; omega)).trans i2'
  have hlt := World.ownsRow.lt i4
  refine ⟨(b3.alloc (by omega) o2).grown hg (by simp; omega) (fun k hk => by have := (hlt k hk).1; omega), ?_, ?_, by have := hg.size; simp at this; omega, ?_⟩
  · rw [hg.block _ (by simp; omega) (fun e => by have := (hlt _ e.symm).1; omega), Below.heap_alloc w3 o2 _ (by omega)]
    exact h3
  · rw [hg.block _ (by simp; omega) (fun e => by have := (hlt _ e.symm).1; omega), Below.heap_alloc w3 o2 _ (by omega)]
    exact h3'
  · rw [show dlookCells css pl (j + 1) = dlookCells css pl j ++ ((css.drop (5 * j)).take 5 ++ [.string (pl j), .int .i64 0, .string ⟨#[]⟩]) from rfl, hcs]
    exact hown

theorem keep_plain {wr w3 : World} (hb : Below wr.drew.heap.size wr.drew w3) {a : Addr} {v : Value} (h : wr.cell? a = some v) : w3.cell? a = some v :=
  (hb.cell (World.block_lt_of_cell? wr a h)).trans h

theorem fields_doc_kind (k : Int) (t : Bool) (x : ByteArray) (A : Option Addr) (n ca : Nat) (B : Option Addr) (m cb : Nat) (p : ByteArray) (bad : Int) (wh : ByteArray) (w : World) (h : (k == 5) = false) :
    Calls Tryz.prog 64 #[.agg #[.int .i64 k, .bool t, .string x, .slice A n ca, .slice B m cb, .string p, .int .i64 bad, .string wh]] w
      fun e w' => e = .returned (.tuple #[.slice none 0 0, docBad 11 p]) ∧ Below w.heap.size w w' := by
  have h2 : (k != 5) = true := by simpa [bne] using h
  go_enter Tryz.func64, Tryz.ntmps64
  go_wp2_with (go_at_call 103; refine (wrong_doc _ _ _).mono ?_; rintro e w1 ⟨rfl, hb1⟩; obtain ⟨hc1, hf1⟩ := bcell hb1; have hz1 : w.heap.size + 1 < w1.heap.size := (by have := hb1.size; simp at this; omega))
  refine bodyPost_ret (v := .tuple #[.slice none 0 0, docBad 11 p]) (by simp [results, docBad, Tryz.results64, go_sem, hc1, hz1]) rfl ?_
  refine ⟨rfl, ?_⟩
  (repeat (first | with_reducible refine Below.setCell ?_ (by simp) _))
  exact (((Below.refl _ _).alloc (Nat.le_refl _) _).alloc (by simp) _).trans (hb1.mono (by simp; omega))

theorem fields_doc_done {w : World} {S : Nat → Prop} {l : List V} {n : Nat} {css : List Value} {pl : Nat → ByteArray} {A' : Option Addr} {c' : Nat} {wr W' : World}
    (hal : Also (fun b => b ≠ w.heap.size + 1) wr W') (hW : Below w.heap.size w W') (hB : Below w.heap.size w wr) (hcl : css.length = l.length * 5) (hnl : n ≤ l.length) (hcc : n ≤ c') (hcr : ∀ i, ∀ hi : i < l.length, (l[i]).Rep w S ((css.drop (5 * i)).take 5))
    (hrr : (A' = none ∧ n = 0) ∨ ∃ g, A' = some ⟨g, 0, none⟩ ∧ w.heap.size + 2 ≤ g ∧ g < wr.heap.size ∧ Row wr g 0 (dlookCells css pl n) ∧ ∀ o, wr.frozen? ⟨g, o, none⟩ = false) :
    ∃ A'' c'', Ending.returned (.tuple #[.slice A' n c', docBad 0 ⟨#[]⟩]) = .returned (.tuple #[.slice A'' n c'', docBad 0 ⟨#[]⟩]) ∧ Below w.heap.size w W' ∧ n ≤ c'' ∧ DLooks W' S w.heap.size A'' (l.take n) pl := by
  have hs := hB.size
  have hs2 := hal.size
  refine ⟨_, _, rfl, hW, hcc, ?_⟩
  rcases hrr with ⟨rfl, h0⟩ | ⟨g, rfl, hg1, hg2, hg3, -⟩
  · exact .inl (by rw [h0]; rfl)
  · refine .inr ⟨g, rfl, by omega, by omega, fun i hi => ⟨(css.drop (5 * i)).take 5, ?_, ?_⟩⟩
    · have hin : i < n := by rw [List.length_take] at hi; omega
      have hp := row_part hg3 (8 * i) 8
      rw [Nat.zero_add, dlookCells_at css pl l.length hcl n hnl i hin] at hp
      exact hp.agree (hal.block g (by omega) hg2)
    · rw [List.getElem_take]
      exact (hcr i (by rw [List.length_take] at hi; omega)).agree fun b hb hlt => ⟨hW.block b hlt, hb⟩

end Go.Proofs.YtoimjnmhinfbkaaGreatDoor

namespace Go.Proofs.YtoimjnmhinfbkaaGreatDoor
open Go.RowKit
set_option maxRecDepth 100000

set_option maxHeartbeats 1600000 in
theorem fields_doc_some (t : Bool) (x : ByteArray) (A : Option Addr) (l : List V) (ca : Nat) (B : Option Addr) (ns : List ByteArray) (cb : Nat) (p : ByteArray) (bad : Int) (wh : ByteArray) (w : World) (S : Nat → Prop) (n : Nat) (pl : Nat → ByteArray)
    (hS : Strs w S B ns) (hl : l = [] ∨ ∃ b o, A = some ⟨b, o, none⟩ ∧ S b ∧ V.Reps w S b o l) (hn : l.length ≤ 4194304) (hns : ns.length ≤ 4194304) (hnb : ∀ s ∈ ns, s.size ≤ 1073741824) (hp : p.size ≤ 1073741824) (hmin : n = min ns.length l.length)
    (hpl : ∀ j, ∀ hj : j < ns.length, pl j = fieldPlace p ns[j]) :
    Calls Tryz.prog 64 #[.agg #[.int .i64 5, .bool t, .string x, .slice A l.length ca, .slice B ns.length cb, .string p, .int .i64 bad, .string wh]] w fun e w' =>
      ∃ A' c', e = .returned (.tuple #[.slice A' n c', docBad 0 ⟨#[]⟩]) ∧ Below w.heap.size w w' ∧ n ≤ c' ∧ DLooks w' S w.heap.size A' (l.take n) pl := by
  have HL := Lib.hid hl
  have HS := Lib.hid hS
  have HPL := Lib.hid hpl
  have HNB := Lib.hid hnb
  have HMIN := Lib.hid hmin
  have hn1 : n ≤ ns.length := by omega
  have hn2 : n ≤ l.length := by omega
  clear hl hS hpl hnb hmin
  obtain ⟨css, hcl, hcr, hrow⟩ := vals_flat HL.out
  obtain ⟨i0, hi0, hz0, hzz1, hzz2⟩ := info_parts info46
  have HCR := Lib.hid hcr
  have HROW := Lib.hid hrow
  clear hcr hrow HL
  go_enter Tryz.func64, Tryz.ntmps64
  go_wp2_with fail
  go_loopw [4, 5] (fun v i wr => ∃ j : Nat, j ≤ n ∧ i = .int .i64 j ∧ DFieldsInv w css pl #[.int .i64 5, .bool t, .string x, .slice A l.length ca, .slice B ns.length cb, .string p, .int .i64 bad, .string wh] #[.int .i64 0, .bool false, .string ⟨#[]⟩, .slice none 0 0, .slice none 0 0, .string ⟨#[]⟩, .int .i64 0, .string ⟨#[]⟩] v j wr) (fun _ i _ => l.length - (intOf i).toNat)
  case atStart =>
    refine ⟨0, Nat.zero_le _, rfl, ?_, ?_, ?_, ?_, ?_⟩
    · exact (((Below.refl w.heap.size w).alloc (Nat.le_refl _) _).alloc (by simp) _).alloc (by simp; omega) _
    · rw [alloc_before (by simp; omega), alloc_before (by simp)]; exact alloc_at rfl
    · rw [alloc_before (by simp)]; exact alloc_at (by simp)
    · simp
    · exact ⟨rfl, .inr ⟨_, 0, #[], rfl, Nat.le_refl _, alloc_at (by simp), Nat.le_refl _, Nat.zero_le _, rfl, rfl⟩⟩
  case round =>
    obtain ⟨j, hj, rfl, hI⟩ := hrel
    have HINV := Lib.hid hI
    obtain ⟨i1, i2, i2', i3, i4⟩ := hI
    have HB := Lib.hid i1
    have H2 := Lib.hid i2
    have hm := fun o => cell_of_row wr w.heap.size o _ 46 (0, 0) i2
    have hown := Lib.hid i4
    have hj0 : (0 : Int) ≤ (j : Int) := Int.natCast_nonneg _
    by_cases hlt : j < n
    · have hlt1 : j < ns.length := by omega
      have hlt2 : j < l.length := by omega
      have hj1 : (j : Int) < (ns.length : Int) := by omega
      have hj2 : (j : Int) < (l.length : Int) := by omega
      obtain ⟨b, o, rfl, hbl, hr⟩ := HROW.out j hlt2
      obtain ⟨b2, o2, rfl, -, hbl2, hc2⟩ := HS.out.cell j hlt1
      obtain ⟨A3, ca3, B3, cb3, hcs, -⟩ := (HCR.out j hlt2).open
      have hr2 := hr.agree (HB.out.block b hbl)
      rw [hcs] at hr2
      have e0 := hr2 0 (by simp)
      have e1 := hr2 1 (by simp)
      have e2 := hr2 2 (by simp)
      have e3 := hr2 3 (by simp)
      have e4 := hr2 4 (by simp)
      have en : wr.cell? ⟨b2, o2 + j, none⟩ = some (.string ns[j]) := (cell_of_heap (HB.out.block b2 hbl2)).trans (hc2 j hlt1)
      have m0 := hm 0
      have m1 := hm 1
      have m2 := hm 2
      have m3 := hm 3
      have m4 := hm 4
      have m5 := hm 5
      have m6 := hm 6
      have m7 := hm 7
      simp at e0 e1 e2 e3 e4 m0 m1 m2 m3 m4 m5 m6 m7
      have hnj : (ns[j]).size ≤ 1073741824 := HNB.out _ (List.getElem_mem hlt1)
      have hplj := HPL.out j hlt1
      have HPJ := Lib.hid hplj
      have HCS := Lib.hid hcs
      have hlo := World.ownsRow.lt i4
      have hob : some w.heap.size ≠ u4.ownBlock ∧ some b ≠ u4.ownBlock ∧ some b2 ≠ u4.ownBlock := ⟨fun e => by have := (hlo _ e.symm).1; omega, fun e => by have := (hlo _ e.symm).1; omega, fun e => by have := (hlo _ e.symm).1; omega⟩
      have HOB := Lib.hid hob
      clear hr hr2 hcs hplj hob hlo i1 i2 i2' i4 hc2 hm
      go_wp2_with fail
      go_region_held3 (fun w' => w'.cell? ⟨w.heap.size, 0, none⟩ = some (.int .i64 5) ∧ w'.cell? ⟨w.heap.size, 1, none⟩ = some (.bool t) ∧ w'.cell? ⟨w.heap.size, 2, none⟩ = some (.string x) ∧ w'.cell? ⟨w.heap.size, 3, none⟩ = some (.slice (some ⟨b, o, none⟩) l.length ca) ∧ w'.cell? ⟨w.heap.size, 4, none⟩ = some (.slice (some ⟨b2, o2, none⟩) ns.length cb) ∧ w'.cell? ⟨w.heap.size, 5, none⟩ = some (.string p) ∧ w'.cell? ⟨w.heap.size, 6, none⟩ = some (.int .i64 bad) ∧ w'.cell? ⟨w.heap.size, 7, none⟩ = some (.string wh) ∧ w'.cell? ⟨b, o + j * 5, none⟩ = some (.int .i64 (l[j]).kind) ∧ w'.cell? ⟨b, o + j * 5 + 1, none⟩ = some (.bool (l[j]).tr) ∧ w'.cell? ⟨b, o + j * 5 + 2, none⟩ = some (.string (l[j]).text) ∧ w'.cell? ⟨b, o + j * 5 + 3, none⟩ = some (.slice A3 (l[j]).list.length ca3) ∧ w'.cell? ⟨b, o + j * 5 + 4, none⟩ = some (.slice B3 (l[j]).names.length cb3) ∧ w'.cell? ⟨b2, o2 + j, none⟩ = some (.string ns[j]))
        (first | go_keep | exact ⟨km0, km1, km2, km3, km4, km5, km6, km7, ke0, ke1, ke2, ke3, ke4, ken⟩ | exact ⟨grow_keep hgrow4 km0 HOB.out.1, grow_keep hgrow4 km1 HOB.out.1, grow_keep hgrow4 km2 HOB.out.1, grow_keep hgrow4 km3 HOB.out.1, grow_keep hgrow4 km4 HOB.out.1, grow_keep hgrow4 km5 HOB.out.1, grow_keep hgrow4 km6 HOB.out.1, grow_keep hgrow4 km7 HOB.out.1, grow_keep hgrow4 ke0 HOB.out.2.1, grow_keep hgrow4 ke1 HOB.out.2.1, grow_keep hgrow4 ke2 HOB.out.2.1, grow_keep hgrow4 ke3 HOB.out.2.1, grow_keep hgrow4 ke4 HOB.out.2.1, grow_keep hgrow4 ken HOB.out.2.2⟩)
        ((first | (go_at_call 105; refine (field_doc _ _ _ _ _ _ _ _ _ _ _ _ _ _ hp hnj).mono ?_; rintro e w3 ⟨rfl, hw3⟩; rw [← HPJ.out]; have hb3 : Below wr.drew.heap.size wr.drew w3 := (by rw [hw3]; exact (Below.refl _ _).alloc (Nat.le_refl _) _); clear hw3; have km0 := keep_plain hb3 m0; have km1 := keep_plain hb3 m1; have km2 := keep_plain hb3 m2; have km3 := keep_plain hb3 m3; have km4 := keep_plain hb3 m4; have km5 := keep_plain hb3 m5; have km6 := keep_plain hb3 m6; have km7 := keep_plain hb3 m7; have ke0 := keep_plain hb3 e0; have ke1 := keep_plain hb3 e1; have ke2 := keep_plain hb3 e2; have ke3 := keep_plain hb3 e3; have ke4 := keep_plain hb3 e4; have ken := keep_plain hb3 en) | (refine step_append_lies _ (by rfl) _ _ _ (by rfl) (w.heap.size + 2) 46 i0 _ 8 120 Tryz.underlying125 hi0 hz0 hzz1 hzz2 rfl (by omega) u4 j (dlookCells css pl j) (by rfl) ((own_below hown.out ⟨hb3.os, hb3.tape, hb3.output, hb3.size, hb3.block⟩).alloc _) ⟨w3.heap.size, 0, none⟩ 1 1 [.int .i64 (l[j]).kind, .bool (l[j]).tr, .string (l[j]).text, .slice A3 (l[j]).list.length ca3, .slice B3 (l[j]).names.length cb3, .string (pl j), .int .i64 0, .string ⟨#[]⟩] (by rfl) (by rfl) (World.news_of_block (cs := #[.int .i64 (l[j]).kind, .bool (l[j]).tr, .string (l[j]).text, .slice A3 (l[j]).list.length ca3, .slice B3 (l[j]).names.length cb3, .string (pl j), .int .i64 0, .string ⟨#[]⟩]) (t := 46) (fr := (0, 0)) (heap_alloc_new w3 _)) (by simp [Value.oneCell']) (by omega) (by unfold maxLen; omega) (by omega) (by have h1 := hb3.size; have h2 : wr.drew.heap.size = wr.heap.size := rfl; simp; omega) (w3.heap.size + 1) (by simp) ?_; intro gg cap w4 hown4 hgrow4 hat4 hlt4)))
      have HN := Lib.hid (dfields_round HINV.out HCS.out hb3 hgrow4 hown4)
      clear hown4 hgrow4 hat4 hlt4 hb3 hown HB H2 HINV
      go_wp2
      go_roundw
      case rel => exact ⟨j + 1, hlt, by go_num, HN.out⟩
      case measure => simp [intOf]; omega
    · obtain rfl : j = n := by omega
      obtain ⟨A', c', rfl, hcc, hlen, hrr⟩ := own_row hown.out
      have HRR := Lib.hid hrr
      have hx2 := fun o => cell_of_row wr (w.heap.size + 1) o _ 46 (0, 0) i2'
      have hz2 : ∀ o, wr.frozen? ⟨w.heap.size + 1, o, none⟩ = false := fun o => by simp [World.frozen?, i2']
      have m3 := hm 3
      have m4 := hm 4
      simp at m3 m4
      clear hrr i1 i2 i2' i4 hown hm
      by_cases hd : j < ns.length
      · have hd1 : (j : Int) < (ns.length : Int) := by omega
        have hd2 : ¬ (j : Int) < (l.length : Int) := by have := HMIN.out; omega
        go_wp2
        refine bodyPost_ret (v := .tuple #[.slice A' j c', docBad 0 ⟨#[]⟩]) (by simp [results, docBad, Tryz.results64, go_sem, hx2]) rfl ?_
        refine fields_doc_done ?_ ?_ HB.out hcl hn2 hcc HCR.out HRR.out
        · (repeat (first | with_reducible refine Also.setCell ?_ (by simp) _))
          exact Also.refl _ _
        · (repeat (first | with_reducible refine Below.setCell ?_ (by simp) _))
          exact HB.out
      · have hd1 : ¬ (j : Int) < (ns.length : Int) := by omega
        go_wp2
        refine bodyPost_ret (v := .tuple #[.slice A' j c', docBad 0 ⟨#[]⟩]) (by simp [results, docBad, Tryz.results64, go_sem, hx2]) rfl ?_
        refine fields_doc_done ?_ ?_ HB.out hcl hn2 hcc HCR.out HRR.out
        · (repeat (first | with_reducible refine Also.setCell ?_ (by simp) _))
          exact Also.refl _ _
        · (repeat (first | with_reducible refine Below.setCell ?_ (by simp) _))
          exact HB.out

end Go.Proofs.YtoimjnmhinfbkaaGreatDoor

namespace Go.Proofs.YtoimjnmhinfbkaaGreatDoor
open Go.RowKit
set_option maxRecDepth 100000

theorem whole_doc_kind (k : Int) (t : Bool) (x : ByteArray) (A : Option Addr) (n ca : Nat) (B : Option Addr) (m cb : Nat) (p : ByteArray) (bad : Int) (wh : ByteArray) (least most : Int) (w : World) (h : (k == 2) = false) :
    Calls Tryz.prog 67 #[.agg #[.int .i64 k, .bool t, .string x, .slice A n ca, .slice B m cb, .string p, .int .i64 bad, .string wh], .int .i64 least, .int .i64 most] w
      fun e w' => e = .returned (.tuple #[.int .i64 0, docBad 11 p]) ∧ Below w.heap.size w w' := by
  have h2 : (k != 2) = true := by simpa [bne] using h
  go_enter Tryz.func67, Tryz.ntmps67
  go_wp2_with (go_at_call 103; refine (wrong_doc _ _ _).mono ?_; rintro e w1 ⟨rfl, hb1⟩; obtain ⟨hc1, hf1⟩ := bcell hb1; have hz1 : w.heap.size + 1 < w1.heap.size := (by have := hb1.size; simp at this; omega))
  refine bodyPost_ret (v := .tuple #[.int .i64 0, docBad 11 p]) (by simp [results, docBad, Tryz.results67, go_sem, hc1, hz1]) rfl ?_
  refine ⟨rfl, ?_⟩
  (repeat (first | with_reducible refine Below.setCell ?_ (by simp) _))
  exact (((Below.refl _ _).alloc (Nat.le_refl _) _).alloc (by simp) _).trans (hb1.mono (by simp; omega))

end Go.Proofs.YtoimjnmhinfbkaaGreatDoor
