import Derived.BigRegion
import Derived.Deep.RegionHeld3
import Derived.Test.YtoimjnmhinfbkaaGreatDoorS07
import Derived.Test.YtoimjnmhinfbkaaGreatDoorS09
namespace Go.Proofs.YtoimjnmhinfbkaaGreatDoor
open Go.RowKit
set_option maxRecDepth 100000
theorem SoInv.elem_at {w : World} {v0 v1 v2 : Value} {cx : Array Value} {g : Nat} {u nv : Value} {ns : List ByteArray} {l : List V} {xs : List Value} {wr : World} (h : SoInv w v0 v1 v2 cx g u nv ns l xs wr) {q : Nat} (hb : u.ownBlock = some q) {i o : Nat} (ho : o = 5 * i) (hi : i < l.length) {v : V} {a b c d e : Value}
    (hv : v.Rep wr (fun b => w.heap.size + 2 ≤ b ∧ b < wr.heap.size ∧ b ≠ g ∧ some b ≠ u.ownBlock ∧ some b ≠ nv.ownBlock) [a, b, c, d, e]) : ∃ xs', SoInv w v0 v1 v2 cx g u nv ns (l.set i v) xs' (set5 wr q o a b c d e) := by
  subst ho
  exact ⟨_, h.elem hb hi hv⟩
theorem SoInv.cells {w : World} {v0 v1 v2 : Value} {cx : Array Value} {g : Nat} {u nv : Value} {ns : List ByteArray} {l : List V} {xs : List Value} {wr : World} (h : SoInv w v0 v1 v2 cx g u nv ns l xs wr) {q : Nat} (hq : u.ownBlock = some q) {i : Nat} (hi : i < l.length) :
    ∃ k1 t1 x1 A1 n1 ca1 B1 m1 cb1, (xs.drop (5 * i)).take 5 = [.int .i64 k1, .bool t1, .string x1, .slice A1 n1 ca1, .slice B1 m1 cb1] ∧
      wr.cell? ⟨q, i * 5, none⟩ = some (.int .i64 k1) ∧ wr.cell? ⟨q, i * 5 + 1, none⟩ = some (.bool t1) ∧ wr.cell? ⟨q, i * 5 + 2, none⟩ = some (.string x1) ∧
      wr.cell? ⟨q, i * 5 + 3, none⟩ = some (.slice A1 n1 ca1) ∧ wr.cell? ⟨q, i * 5 + 4, none⟩ = some (.slice B1 m1 cb1) ∧ ∀ o, wr.frozen? ⟨q, o, none⟩ = false := by
  obtain ⟨A, c, rfl, -, hlen, hrr⟩ := own_row h.own
  obtain ⟨q', rfl, hq1, hq2, hrow, hfz⟩ := hrr.resolve_left (by rintro ⟨-, h0⟩; omega)
  obtain rfl : q' = q := by simpa [Value.ownBlock] using hq
  have hr0 : Row wr q' (5 * i) ((xs.drop (5 * i)).take 5) := by have := row_part hrow (5 * i) 5; rwa [Nat.zero_add] at this
  obtain ⟨A1, ca1, B1, cb1, e5, -⟩ := (h.reps i hi).open
  rw [e5] at hr0
  have e0 := hr0 0 (by simp)
  have e1 := hr0 1 (by simp)
  have e2 := hr0 2 (by simp)
  have e3 := hr0 3 (by simp)
  have e4 := hr0 4 (by simp)
  simp at e0 e1 e2 e3 e4
  rw [Nat.mul_comm] at e0 e1 e2 e3 e4
  exact ⟨_, _, _, A1, _, ca1, B1, _, cb1, e5, e0, e1, e2, e3, e4, hfz⟩
set_option maxHeartbeats 4000000 in
theorem sorted_step (k : Int) (t : Bool) (x : ByteArray) (l : List V) (ns : List ByteArray)
    (ih : ∀ v ∈ l, ∀ (cs : List Value) (w : World) (S : Nat → Prop), v.bulk ≤ 4194304 → v.Rep w S cs → Calls Tryz.prog 82 #[.agg cs.toArray] w (OwnRes v.sorted w))
    (A : Option Addr) (ca : Nat) (B : Option Addr) (cb : Nat) (w : World) (S : Nat → Prop)
    (hv : (V.mk k t x l ns).Rep w S [.int .i64 k, .bool t, .string x, .slice A l.length ca, .slice B ns.length cb]) (hb : (V.mk k t x l ns).bulk ≤ 4194304) :
    Calls Tryz.prog 82 #[.agg #[.int .i64 k, .bool t, .string x, .slice A l.length ca, .slice B ns.length cb]] w (OwnRes (V.mk k t x l ns).sorted w) := by
  have IH := Lib.hid ih
  have HV := Lib.hid hv
  have HLB := Lib.hid (show ∀ v ∈ l, v.bulk ≤ 4194304 from fun v hv => by have := V.bulks_mem hv; simp only [V.bulk] at hb; omega)
  have hn : ns.length ≤ 4194304 := by have := names_length ns; simp only [V.bulk] at hb; omega
  have hll : l.length ≤ 4194304 := by have := V.bulks_length l; simp only [V.bulk] at hb; omega
  have HB0 := Lib.hid hb
  clear ih hv hb
  go_enter Tryz.func82, Tryz.ntmps82
  go_wp2_with fail
  refine (rcopy_any (.mk k t x l ns) [.int .i64 k, .bool t, .string x, .slice A l.length ca, .slice B ns.length cb] _ S HB0.out (HV.out.agree fun b hb hlt => ⟨by rw [alloc_before (by simp; omega), alloc_before hlt], hb⟩)).mono ?_
  rintro e w1 ⟨cs1, rfl, ho1, hb1⟩
  have HO := Lib.hid ho1
  obtain ⟨u, nv, xs1, rfl, o1, o2, o3, o4⟩ := ho1
  simp only [V.list, V.names, V.kind, V.tr, V.text] at o1 o2 o3 o4 HO
  obtain ⟨A', c', rfl, -⟩ := own_row o1
  obtain ⟨B', d', rfl, -⟩ := own_row o2
  have hz1 : w.heap.size + 2 ≤ w1.heap.size := by have := hb1.size; simp at this; omega
  obtain ⟨xs0, hI0⟩ := SoInv.start (w := w) (W := (w.alloc (.cells #[.int .i64 k, .bool t, .string x, .slice A l.length ca, .slice B ns.length cb] 43)).alloc (.cells #[.int .i64 0, .bool false, .string ⟨#[]⟩, .slice none 0 0, .slice none 0 0] 43)) (cx := #[.int .i64 k, .bool t, .string x, .slice A l.length ca, .slice B ns.length cb]) (((Below.refl _ _).alloc (Nat.le_refl _) _).alloc (by simp) _) (by simp) (by rw [alloc_before (by simp)]; exact alloc_at rfl) (alloc_at (by simp)) hb1 HO.out
  have HI0 := Lib.hid hI0
  clear o1 o2 o3 o4 hb1 hI0
  go_wp2_with fail
  go_loopw [12] (fun i wr => ∃ (j : Nat) (l' : List V) (xs : List Value), j ≤ l.length ∧ i = .int .i64 j ∧ l'.length = l.length ∧ (∀ m, ∀ h : m < l.length, ∀ h' : m < l'.length, l'[m] = if m < j then (l[m]).sorted else l[m]) ∧ SoInv w (.int .i64 k) (.bool t) (.string x) #[.int .i64 k, .bool t, .string x, .slice A l.length ca, .slice B ns.length cb] w1.heap.size (.slice A' l.length c') (.slice B' ns.length d') ns l' xs wr) (fun i _ => l.length - (intOf i).toNat)
  case atStart => exact ⟨0, l, xs0, Nat.zero_le _, rfl, rfl, fun m h h' => by rw [if_neg (by omega)], HI0.out⟩
  case round =>
    obtain ⟨j, l', xs, hj, rfl, hl', hm, hI⟩ := hrel
    have HI := Lib.hid hI
    have HM := Lib.hid hm
    have b3 := hI.cur
    have z3 : w1.heap.size < wr.heap.size := hI.hi
    have c3 := fun o => cell_of_row wr w1.heap.size o _ 43 (0, 0) b3
    have f3 : ∀ o, wr.frozen? ⟨w1.heap.size, o, none⟩ = false := fun o => by simp [World.frozen?, b3]
    have hj0 : (0 : Int) ≤ (j : Int) := Int.natCast_nonneg _
    by_cases hlt : j < l.length
    · have hj1 : (j : Int) < (l.length : Int) := by omega
      have hr1 := hI.reps j (by omega)
      obtain ⟨_, _, e1, -, hlen, hrr⟩ := own_row hI.own
      simp only [Value.slice.injEq] at e1
      obtain ⟨rfl, -, -⟩ := e1
      obtain ⟨q, rfl, hq1, hq2, hrow, hfz⟩ := hrr.resolve_left (by rintro ⟨-, h0⟩; omega)
      have hr0 : Row wr q (5 * j) ((xs.drop (5 * j)).take 5) := by have := row_part hrow (5 * j) 5; rwa [Nat.zero_add] at this
      rw [HM.out j hlt (by omega), if_neg (Nat.lt_irrefl j)] at hr1
      have HR := Lib.hid hr1
      obtain ⟨A1, ca1, B1, cb1, e5, -⟩ := hr1.open
      rw [e5] at hr0 HR
      have e0 := hr0 0 (by simp)
      have e1 := hr0 1 (by simp)
      have e2 := hr0 2 (by simp)
      have e3 := hr0 3 (by simp)
      have e4 := hr0 4 (by simp)
      simp at e0 e1 e2 e3 e4
      rw [Nat.mul_comm] at e0 e1 e2 e3 e4
      have hqg : ¬ q = w1.heap.size := fun e => hI.gu (by simp [Value.ownBlock, e])
      have hqg' : ¬ w1.heap.size = q := fun e => hqg e.symm
      have BFX := fun o => hfz o
      have HRD := Lib.hid (V.Rep.agree (w := wr) (w' := wr.drew) (S' := fun _ => True) (fun b hb hlt => ⟨rfl, trivial⟩) _ HR.out)
      clear hr0 hr1 hI hm b3 hrow hlen e5
      go_wp2_with fail
      go_region_law ((go_simp; go_at_call 82; refine (IH.out _ (List.getElem_mem hlt) _ wr.drew (fun _ => True) (HLB.out _ (List.getElem_mem hlt)) HRD.out).mono ?_; rintro e w3 ⟨cs3, rfl, hown3, hb3'⟩; have hb3 : Below wr.heap.size wr w3 := (((Below.refl _ _).drew).trans hb3'); have HB3 := Lib.hid hb3; have hz3 : wr.heap.size ≤ w3.heap.size := hb3.size; have hrep3 := hown3.rep; have k3 := (fun o => cell_of_row w3 w1.heap.size o _ 43 (0, 0) ((hb3.block _ z3).trans HI.out.cur)); have kf3 : ∀ o, w3.frozen? ⟨q, o, none⟩ = false := (fun o => (World.frozen?_of_block (a := ⟨q, o, none⟩) (hb3.block _ hq2)).trans (BFX o)); have q0 := (cell_of_heap (hb3.block _ hq2)).trans e0; have q1 := (cell_of_heap (hb3.block _ hq2)).trans e1; have q2 := (cell_of_heap (hb3.block _ hq2)).trans e2; have q3 := (cell_of_heap (hb3.block _ hq2)).trans e3; have q4 := (cell_of_heap (hb3.block _ hq2)).trans e4; have z33 : w1.heap.size < w3.heap.size := (by omega); have zq3 : q < w3.heap.size := (by omega); obtain ⟨A3, ca3, B3, cb3, rfl, -⟩ := hrep3.open; have HR3 := Lib.hid hrep3; clear hrep3 hown3 hb3 hb3'))
      all_goals
        obtain ⟨xs', hN⟩ := (HI.out.later HB3.out).elem_at (q := q) rfl (i := j) (o := j * 5) (Nat.mul_comm _ _) (by omega) (HR3.out.agree (by
          rintro b ⟨h1, h2⟩ -
          have h1' : wr.heap.size ≤ b := h1
          refine ⟨rfl, by omega, h2, by omega, ?_, ?_⟩
          · intro e
            have : b = q := by simpa [Value.ownBlock] using e
            omega
          · intro e
            have := World.ownsRow.lt HI.out.names b e.symm
            omega))
        have HN := Lib.hid hN
        clear hN HR3 k3 kf3 q0 q1 q2 q3 q4
        go_wp2
        go_roundw
        case rel =>
          refine ⟨j + 1, _, _, hlt, by go_num, by simpa using hl', fun m h h' => ?_, HN.out⟩
          by_cases hmj : m = j
          · subst hmj; rw [if_pos (by omega), List.getElem_set_self]
          · rw [List.getElem_set_ne (fun e => hmj e.symm), HM.out m h (by simpa using h')]
            by_cases hmj2 : m < j
            · rw [if_pos hmj2, if_pos (by omega)]
            · rw [if_neg hmj2, if_neg (by omega)]
        case measure => simp [intOf]; omega
    · have hj3 : ¬ (j : Int) < (l.length : Int) := by omega
      obtain rfl : j = l.length := by omega
      obtain rfl : l' = l.map V.sorted := List.ext_getElem (by simp [hl']) (fun m h1 h2 => by rw [hm m (by omega) h1, if_pos (by omega)]; simp)
      have hbox := fun o => cell_of_row wr w.heap.size o _ 43 (0, 0) hI.box
      have h1r := fun o => cell_of_row wr (w.heap.size + 1) o _ 43 (0, 0) hI.res
      have f1r : ∀ o, wr.frozen? ⟨w.heap.size + 1, o, none⟩ = false := fun o => by simp [World.frozen?, hI.res]
      have z1 : w.heap.size < wr.heap.size := by omega
      have z2 : w.heap.size + 1 < wr.heap.size := by omega
      clear hm HM hI b3 HI0 HO
      by_cases hk : k = 5
      · subst hk
        by_cases hq : ns.length = l.length
        · have hq' : ((ns.length : Int) != (l.length : Int)) = false := by simp [hq]
          have HSO := Lib.hid (show (V.mk 5 t x l ns).sorted = .mk 5 t x (sinks ns (l.map V.sorted) ns.length).2 (sinks ns (l.map V.sorted) ns.length).1 by rw [V.sorted, if_pos ⟨rfl, hq⟩, V.sorteds_map])
          have HQ := Lib.hid hq
          clear hq
          go_wp2_with fail
          go_loopw [42] (fun i wr => ∃ (j : Nat) (xs : List Value), j ≤ ns.length ∧ i = .int .i64 j ∧ SoInv w (.int .i64 5) (.bool t) (.string x) #[.int .i64 5, .bool t, .string x, .slice A l.length ca, .slice B ns.length cb] w1.heap.size (.slice A' l.length c') (.slice B' ns.length d') (sinks ns (l.map V.sorted) j).1 (sinks ns (l.map V.sorted) j).2 xs wr) (fun i _ => ns.length - (intOf i).toNat)
          case atStart => exact ⟨0, xs, Nat.zero_le _, rfl, HI.out⟩
          case round =>
            clear HI c3 f3 z3 hbox h1r f1r z1 z2
            obtain ⟨j, xs, hj, rfl, hI⟩ := hrel
            have HI := Lib.hid hI
            have z3 : w1.heap.size < wr.heap.size := hI.hi
            have c3 := fun o => cell_of_row wr w1.heap.size o _ 43 (0, 0) hI.cur
            have f3 : ∀ o, wr.frozen? ⟨w1.heap.size, o, none⟩ = false := fun o => by simp [World.frozen?, hI.cur]
            have hj0 : (0 : Int) ≤ (j : Int) := Int.natCast_nonneg _
            by_cases hlt : j < ns.length
            · have hj1 : (j : Int) < (ns.length : Int) := by omega
              clear hI
              go_wp2_with fail
              go_loopw [6] (fun i wr => ∃ (m : Nat) (ns' : List ByteArray) (l' : List V) (xs : List Value), i = .int .i64 m ∧ m ≤ j ∧ ns'.length = ns.length ∧ l'.length = l.length ∧ sink ns' l' m = sinks ns (l.map V.sorted) (j + 1) ∧ SoInv w (.int .i64 5) (.bool t) (.string x) #[.int .i64 5, .bool t, .string x, .slice A l.length ca, .slice B ns.length cb] w1.heap.size (.slice A' l.length c') (.slice B' ns.length d') ns' l' xs wr) (fun i _ => (intOf i).toNat)
              case atStart => exact ⟨j, _, _, xs, rfl, Nat.le_refl _, (sinks_length _ _ _).1, by simp [sinks_length], rfl, HI.out⟩
              case round =>
                clear HI c3 f3 z3
                obtain ⟨m, ns', l', xs, rfl, hmj, hn', hl', hs, hI⟩ := hrel
                have HI := Lib.hid hI
                have z3 : w1.heap.size < wr.heap.size := hI.hi
                have c3 := fun o => cell_of_row wr w1.heap.size o _ 43 (0, 0) hI.cur
                have f3 : ∀ o, wr.frozen? ⟨w1.heap.size, o, none⟩ = false := fun o => by simp [World.frozen?, hI.cur]
                have hm0 : (0 : Int) ≤ (m : Int) := Int.natCast_nonneg _
                cases m with
                | zero =>
                  clear hI
                  go_wp2_with fail
                  go_quiet (fail)
                  go_wp2
                  go_roundw
                  case rel =>
                    have hs' : sinks ns (l.map V.sorted) (j + 1) = (ns', l') := hs.symm
                    exact ⟨j + 1, xs, hlt, by go_num, by rw [hs']; exact HI.out.later ⟨rfl, rfl, rfl, Nat.le_refl _, fun _ _ => rfl⟩⟩
                  case measure => simp [intOf]; omega
                | succ p =>
                  have hp1 : p + 1 < ns'.length := by omega
                  obtain ⟨_, _, eB, -, -, hrn⟩ := own_row hI.names
                  simp only [Value.slice.injEq] at eB
                  obtain ⟨rfl, -, -⟩ := eB
                  obtain ⟨bn, rfl, hb1, hb2, hrown, hfn⟩ := hrn.resolve_left (by rintro ⟨-, h0⟩; omega)
                  obtain ⟨_, _, eA, -, hlen, hrl⟩ := own_row hI.own
                  simp only [Value.slice.injEq] at eA
                  obtain ⟨rfl, -, -⟩ := eA
                  obtain ⟨q, rfl, hq1, hq2, hrow, hfz⟩ := hrl.resolve_left (by rintro ⟨-, h0⟩; have := HQ.out; omega)
                  have n0 : wr.cell? ⟨bn, p, none⟩ = some (.string ns'[p]) := by have := hrown p (by simp; omega); simpa using this
                  have n1 : wr.cell? ⟨bn, p + 1, none⟩ = some (.string ns'[p + 1]) := by have := hrown (p + 1) (by simp; omega); simpa using this
                  have hqn : ¬ q = bn := fun e => hI.apart bn rfl (by rw [e]; rfl)
                  have hqn' : ¬ bn = q := fun e => hqn e.symm
                  have hqg : ¬ q = w1.heap.size := fun e => hI.gu (by simp [Value.ownBlock, e])
                  have hqg' : ¬ w1.heap.size = q := fun e => hqg e.symm
                  have hbg : ¬ bn = w1.heap.size := fun e => hI.gn (by simp [Value.ownBlock, e])
                  have hbg' : ¬ w1.heap.size = bn := fun e => hbg e.symm
                  have hg1 : ns'.getD (p + 1) ⟨#[]⟩ = ns'[p + 1] := by simp [List.getD, List.getElem?_eq_getElem hp1]
                  have hg0 : ns'.getD p ⟨#[]⟩ = ns'[p] := by simp [List.getD, List.getElem?_eq_getElem (show p < ns'.length by omega)]
                  have hsk : sink ns' l' (p + 1) = if ltN ns'[p + 1] ns'[p] = true then sink (swp ns' p) (swp l' p) p else (ns', l') := by rw [sink, hg1, hg0]
                  rw [hsk] at hs
                  have hp0 : (0 : Int) ≤ (p : Int) := Int.natCast_nonneg _
                  have hp2 : (p : Int) + 1 < (ns.length : Int) := by omega
                  have hp3 : (p : Int) < (ns.length : Int) := by omega
                  have hp7 : (p : Int) + 1 < (l.length : Int) := by have := HQ.out; omega
                  have hp8 : (p : Int) < (l.length : Int) := by omega
                  have hp4 : (0 : Int) < (p : Int) + 1 := by omega
                  have hp5 : (0 : Int) ≤ (p : Int) + 1 := by omega
                  have hp6 : ((p : Int) + 1).toNat = p + 1 := by omega
                  clear hI hrown hg1 hg0 hsk
                  cases hd : ltN ns'[p + 1] ns'[p] with
                  | false =>
                    rw [hd, if_neg (by decide)] at hs
                    have hd' : Op.bytesLess ns'[p + 1].toList ns'[p].toList = false := hd
                    go_wp2_with fail
                    go_quiet (fail)
                    go_wp2
                    go_roundw
                    case rel =>
                      have hs' : sinks ns (l.map V.sorted) (j + 1) = (ns', l') := hs.symm
                      exact ⟨j + 1, xs, hlt, by go_num, by rw [hs']; exact HI.out.later ⟨rfl, rfl, rfl, Nat.le_refl _, fun _ _ => rfl⟩⟩
                    case measure => simp [intOf]; omega
                  | true =>
                    rw [hd, if_pos rfl] at hs
                    have hd' : Op.bytesLess ns'[p + 1].toList ns'[p].toList = true := hd
                    go_wp2_with fail
                    go_quiet (fail)
                    go_wp2_with fail
                    have hw1 : IntKind.i64.wrap ((p : Int) + 1 - 1) = (p : Int) := by rw [IntKind.wrap_i64]; omega
                    have hw2 : IntKind.i64.wrap (p : Int) = (p : Int) := by rw [IntKind.wrap_i64]; omega
                    generalize hW : wr.drewN nq = W
                    have hh : ∀ b : Nat, W.heap[b]? = wr.heap[b]? := fun b => by rw [← hW]; rfl
                    have HIW := Lib.hid (show SoInv w (.int .i64 5) (.bool t) (.string x) #[.int .i64 5, .bool t, .string x, .slice A l.length ca, .slice B ns.length cb] w1.heap.size (.slice (some ⟨q, 0, none⟩) l.length c') (.slice (some ⟨bn, 0, none⟩) ns.length d') ns' l' xs W from by rw [← hW]; exact HI.out.later ⟨rfl, rfl, rfl, Nat.le_refl _, fun _ _ => rfl⟩)
                    have n0W := (cell_of_heap (hh bn)).trans n0
                    have n1W := (cell_of_heap (hh bn)).trans n1
                    have hfnW : ∀ o, W.frozen? ⟨bn, o, none⟩ = false := fun o => (World.frozen?_of_block (a := ⟨bn, o, none⟩) (hh bn)).trans (hfn o)
                    have z3W : w1.heap.size < W.heap.size := HIW.out.hi
                    have hb2W : bn < W.heap.size := by rw [← hW]; exact hb2
                    have c3W := fun o => cell_of_row W w1.heap.size o _ 43 (0, 0) HIW.out.cur
                    clear n0 n1 hfn z3 hb2 c3 f3 HI
                    go_region
                    have hI2 := HIW.out.names2 (b := bn) rfl hp1
                    clear n0W n1W hfnW z3W hb2W c3W HIW hh hW
                    generalize hW2 : ((W.setCell ⟨bn, p + 1, none⟩ (.string ns'[p])).setCell ⟨bn, p, none⟩ (.string ns'[p + 1])) = W2 at hI2
                    have hI2 := hI2.later (w3 := W2.drew) ⟨rfl, rfl, rfl, Nat.le_refl _, fun _ _ => rfl⟩
                    generalize W2.drew = W3 at hI2
                    have hl1 : p + 1 < l'.length := by have := HQ.out; omega
                    have HI2 := Lib.hid hI2
                    obtain ⟨k1, t1, y1, A1, n1', ca1, B1, m1, cb1, x1, e0, e1, e2, e3, e4, hfzW⟩ := hI2.cells (q := q) rfl (i := p) (by omega)
                    obtain ⟨k2, t2, y2, A2, n2', ca2, B2, m2, cb2, x2, g0, g1, g2, g3, g4, -⟩ := hI2.cells (q := q) rfl hl1
                    have X1 := Lib.hid x1
                    have X2 := Lib.hid x2
                    have z3W : w1.heap.size < W3.heap.size := hI2.hi
                    have hq2W : q < W3.heap.size := (World.ownsRow.lt hI2.own q rfl).2
                    have c3W := fun o => cell_of_row W3 w1.heap.size o _ 43 (0, 0) hI2.cur
                    clear hI2 x1 x2 hW2
                    go_wp2_with fail
                    refine swap16 (g := w1.heap.size) (q := q) (p := p) (n := l.length) (c := c') (by kernel_rfl) (by simp) rfl rfl (by omega) (by omega) hqg' (c3W 3) hfzW e0 e1 e2 e3 e4 g0 g1 g2 g3 g4 ?_
                    (try simp only [Act.put, List.setIfInBounds_toArray, List.set_cons_zero, List.set_cons_succ])
                    obtain ⟨xs', hI4⟩ := (HI2.out.later (w3 := W3.drew) ⟨rfl, rfl, rfl, Nat.le_refl _, fun _ _ => rfl⟩).elems2 (q := q) rfl hl1 X1.out X2.out
                    rw [Nat.mul_comm 5 (p + 1), Nat.mul_comm 5 p] at hI4
                    clear e0 e1 e2 e3 e4 g0 g1 g2 g3 g4 c3W hfzW HI2 X1 X2
                    generalize hW5 : set5 (set5 W3.drew q _ _ _ _ _ _) q _ _ _ _ _ _ = W5 at hI4 ⊢
                    have HI5 := Lib.hid hI4
                    clear hI4 hW5
                    go_wp2
                    go_roundw
                    case rel => exact ⟨p, _, _, xs', (by first | rfl | go_num), by omega, by simp [swp_length, hn'], by simp [swp_length, hl'], hs, HI5.out⟩
                    case measure => simp [intOf]
            · have hj3 : ¬ (j : Int) < (ns.length : Int) := by omega
              obtain rfl : j = ns.length := by omega
              have h1r := fun o => cell_of_row wr (w.heap.size + 1) o _ 43 (0, 0) hI.res
              have f1r : ∀ o, wr.frozen? ⟨w.heap.size + 1, o, none⟩ = false := fun o => by simp [World.frozen?, hI.res]
              have z2 : w.heap.size + 1 < wr.heap.size := by omega
              clear hI
              go_wp2_with fail
              refine bodyPost_ret (v := .agg #[.int .i64 5, .bool t, .string x, .slice A' l.length c', .slice B' ns.length d']) (by simp [results, Tryz.results82, go_sem, h1r]) rfl ?_
              refine ⟨[.int .i64 5, .bool t, .string x, .slice A' l.length c', .slice B' ns.length d'], rfl, ?_, ?_⟩
              · rw [HSO.out]
                refine SoInv.own' HI.out rfl rfl rfl ?_
                (repeat (first | with_reducible refine Also.setCell ?_ (by simp) _))
                exact Also.refl _ _
              · (repeat (first | with_reducible refine Below.setCell ?_ (by simp) _))
                exact HI.out.below
        · have hq' : ((ns.length : Int) != (l.length : Int)) = true := by simp; omega
          have HSO := Lib.hid (show (V.mk 5 t x l ns).sorted = .mk 5 t x (l.map V.sorted) ns by rw [V.sorted, if_neg (fun h => hq h.2), V.sorteds_map])
          go_wp2_with fail
          refine bodyPost_ret (v := .agg #[.int .i64 5, .bool t, .string x, .slice A' l.length c', .slice B' ns.length d']) (by simp [results, Tryz.results82, go_sem, h1r]) rfl ?_
          refine ⟨[.int .i64 5, .bool t, .string x, .slice A' l.length c', .slice B' ns.length d'], rfl, ?_, ?_⟩
          · rw [HSO.out]
            refine SoInv.own' HI.out rfl rfl rfl ?_
            (repeat (first | with_reducible refine Also.setCell ?_ (by simp) _))
            exact Also.refl _ _
          · (repeat (first | with_reducible refine Below.setCell ?_ (by simp) _))
            exact HI.out.below
      · have hk' : (k != 5) = true := by simpa [bne] using hk
        have HSO := Lib.hid (show (V.mk k t x l ns).sorted = .mk k t x (l.map V.sorted) ns by rw [V.sorted, if_neg (fun h => hk h.1), V.sorteds_map])
        go_wp2_with fail
        refine bodyPost_ret (v := .agg #[.int .i64 k, .bool t, .string x, .slice A' l.length c', .slice B' ns.length d']) (by simp [results, Tryz.results82, go_sem, h1r]) rfl ?_
        refine ⟨[.int .i64 k, .bool t, .string x, .slice A' l.length c', .slice B' ns.length d'], rfl, ?_, ?_⟩
        · rw [HSO.out]
          refine SoInv.own' HI.out rfl rfl rfl ?_
          (repeat (first | with_reducible refine Also.setCell ?_ (by simp) _))
          exact Also.refl _ _
        · (repeat (first | with_reducible refine Below.setCell ?_ (by simp) _))
          exact HI.out.below
end Go.Proofs.YtoimjnmhinfbkaaGreatDoor

namespace Go.Proofs.YtoimjnmhinfbkaaGreatDoor
open Go.RowKit
set_option maxRecDepth 100000
theorem act30 {a : Act} (hs : a.tmps.size = 30) : a = ⟨#[a.eval (.tmp 0), a.eval (.tmp 1), a.eval (.tmp 2), a.eval (.tmp 3), a.eval (.tmp 4), a.eval (.tmp 5), a.eval (.tmp 6), a.eval (.tmp 7), a.eval (.tmp 8), a.eval (.tmp 9), a.eval (.tmp 10), a.eval (.tmp 11), a.eval (.tmp 12), a.eval (.tmp 13), a.eval (.tmp 14), a.eval (.tmp 15), a.eval (.tmp 16), a.eval (.tmp 17), a.eval (.tmp 18), a.eval (.tmp 19), a.eval (.tmp 20), a.eval (.tmp 21), a.eval (.tmp 22), a.eval (.tmp 23), a.eval (.tmp 24), a.eval (.tmp 25), a.eval (.tmp 26), a.eval (.tmp 27), a.eval (.tmp 28), a.eval (.tmp 29)], a.defers⟩ := act_ext rfl (by rw [hs]; rfl) (fun s h => by
  rw [hs] at h
  match s, h with
  | 0, _ => rfl
  | 1, _ => rfl
  | 2, _ => rfl
  | 3, _ => rfl
  | 4, _ => rfl
  | 5, _ => rfl
  | 6, _ => rfl
  | 7, _ => rfl
  | 8, _ => rfl
  | 9, _ => rfl
  | 10, _ => rfl
  | 11, _ => rfl
  | 12, _ => rfl
  | 13, _ => rfl
  | 14, _ => rfl
  | 15, _ => rfl
  | 16, _ => rfl
  | 17, _ => rfl
  | 18, _ => rfl
  | 19, _ => rfl
  | 20, _ => rfl
  | 21, _ => rfl
  | 22, _ => rfl
  | 23, _ => rfl
  | 24, _ => rfl
  | 25, _ => rfl
  | 26, _ => rfl
  | 27, _ => rfl
  | 28, _ => rfl
  | 29, _ => rfl
  | k + 30, h => exact absurd h (by omega))
theorem act55 {a : Act} (hs : a.tmps.size = 55) : a = ⟨#[a.eval (.tmp 0), a.eval (.tmp 1), a.eval (.tmp 2), a.eval (.tmp 3), a.eval (.tmp 4), a.eval (.tmp 5), a.eval (.tmp 6), a.eval (.tmp 7), a.eval (.tmp 8), a.eval (.tmp 9), a.eval (.tmp 10), a.eval (.tmp 11), a.eval (.tmp 12), a.eval (.tmp 13), a.eval (.tmp 14), a.eval (.tmp 15), a.eval (.tmp 16), a.eval (.tmp 17), a.eval (.tmp 18), a.eval (.tmp 19), a.eval (.tmp 20), a.eval (.tmp 21), a.eval (.tmp 22), a.eval (.tmp 23), a.eval (.tmp 24), a.eval (.tmp 25), a.eval (.tmp 26), a.eval (.tmp 27), a.eval (.tmp 28), a.eval (.tmp 29), a.eval (.tmp 30), a.eval (.tmp 31), a.eval (.tmp 32), a.eval (.tmp 33), a.eval (.tmp 34), a.eval (.tmp 35), a.eval (.tmp 36), a.eval (.tmp 37), a.eval (.tmp 38), a.eval (.tmp 39), a.eval (.tmp 40), a.eval (.tmp 41), a.eval (.tmp 42), a.eval (.tmp 43), a.eval (.tmp 44), a.eval (.tmp 45), a.eval (.tmp 46), a.eval (.tmp 47), a.eval (.tmp 48), a.eval (.tmp 49), a.eval (.tmp 50), a.eval (.tmp 51), a.eval (.tmp 52), a.eval (.tmp 53), a.eval (.tmp 54)], a.defers⟩ := act_ext rfl (by rw [hs]; rfl) (fun s h => by
  rw [hs] at h
  match s, h with
  | 0, _ => rfl
  | 1, _ => rfl
  | 2, _ => rfl
  | 3, _ => rfl
  | 4, _ => rfl
  | 5, _ => rfl
  | 6, _ => rfl
  | 7, _ => rfl
  | 8, _ => rfl
  | 9, _ => rfl
  | 10, _ => rfl
  | 11, _ => rfl
  | 12, _ => rfl
  | 13, _ => rfl
  | 14, _ => rfl
  | 15, _ => rfl
  | 16, _ => rfl
  | 17, _ => rfl
  | 18, _ => rfl
  | 19, _ => rfl
  | 20, _ => rfl
  | 21, _ => rfl
  | 22, _ => rfl
  | 23, _ => rfl
  | 24, _ => rfl
  | 25, _ => rfl
  | 26, _ => rfl
  | 27, _ => rfl
  | 28, _ => rfl
  | 29, _ => rfl
  | 30, _ => rfl
  | 31, _ => rfl
  | 32, _ => rfl
  | 33, _ => rfl
  | 34, _ => rfl
  | 35, _ => rfl
  | 36, _ => rfl
  | 37, _ => rfl
  | 38, _ => rfl
  | 39, _ => rfl
  | 40, _ => rfl
  | 41, _ => rfl
  | 42, _ => rfl
  | 43, _ => rfl
  | 44, _ => rfl
  | 45, _ => rfl
  | 46, _ => rfl
  | 47, _ => rfl
  | 48, _ => rfl
  | 49, _ => rfl
  | 50, _ => rfl
  | 51, _ => rfl
  | 52, _ => rfl
  | 53, _ => rfl
  | 54, _ => rfl
  | k + 55, h => exact absurd h (by omega))
theorem act70 {a : Act} (hs : a.tmps.size = 70) : a = ⟨#[a.eval (.tmp 0), a.eval (.tmp 1), a.eval (.tmp 2), a.eval (.tmp 3), a.eval (.tmp 4), a.eval (.tmp 5), a.eval (.tmp 6), a.eval (.tmp 7), a.eval (.tmp 8), a.eval (.tmp 9), a.eval (.tmp 10), a.eval (.tmp 11), a.eval (.tmp 12), a.eval (.tmp 13), a.eval (.tmp 14), a.eval (.tmp 15), a.eval (.tmp 16), a.eval (.tmp 17), a.eval (.tmp 18), a.eval (.tmp 19), a.eval (.tmp 20), a.eval (.tmp 21), a.eval (.tmp 22), a.eval (.tmp 23), a.eval (.tmp 24), a.eval (.tmp 25), a.eval (.tmp 26), a.eval (.tmp 27), a.eval (.tmp 28), a.eval (.tmp 29), a.eval (.tmp 30), a.eval (.tmp 31), a.eval (.tmp 32), a.eval (.tmp 33), a.eval (.tmp 34), a.eval (.tmp 35), a.eval (.tmp 36), a.eval (.tmp 37), a.eval (.tmp 38), a.eval (.tmp 39), a.eval (.tmp 40), a.eval (.tmp 41), a.eval (.tmp 42), a.eval (.tmp 43), a.eval (.tmp 44), a.eval (.tmp 45), a.eval (.tmp 46), a.eval (.tmp 47), a.eval (.tmp 48), a.eval (.tmp 49), a.eval (.tmp 50), a.eval (.tmp 51), a.eval (.tmp 52), a.eval (.tmp 53), a.eval (.tmp 54), a.eval (.tmp 55), a.eval (.tmp 56), a.eval (.tmp 57), a.eval (.tmp 58), a.eval (.tmp 59), a.eval (.tmp 60), a.eval (.tmp 61), a.eval (.tmp 62), a.eval (.tmp 63), a.eval (.tmp 64), a.eval (.tmp 65), a.eval (.tmp 66), a.eval (.tmp 67), a.eval (.tmp 68), a.eval (.tmp 69)], a.defers⟩ := act_ext rfl (by rw [hs]; rfl) (fun s h => by
  rw [hs] at h
  match s, h with
  | 0, _ => rfl
  | 1, _ => rfl
  | 2, _ => rfl
  | 3, _ => rfl
  | 4, _ => rfl
  | 5, _ => rfl
  | 6, _ => rfl
  | 7, _ => rfl
  | 8, _ => rfl
  | 9, _ => rfl
  | 10, _ => rfl
  | 11, _ => rfl
  | 12, _ => rfl
  | 13, _ => rfl
  | 14, _ => rfl
  | 15, _ => rfl
  | 16, _ => rfl
  | 17, _ => rfl
  | 18, _ => rfl
  | 19, _ => rfl
  | 20, _ => rfl
  | 21, _ => rfl
  | 22, _ => rfl
  | 23, _ => rfl
  | 24, _ => rfl
  | 25, _ => rfl
  | 26, _ => rfl
  | 27, _ => rfl
  | 28, _ => rfl
  | 29, _ => rfl
  | 30, _ => rfl
  | 31, _ => rfl
  | 32, _ => rfl
  | 33, _ => rfl
  | 34, _ => rfl
  | 35, _ => rfl
  | 36, _ => rfl
  | 37, _ => rfl
  | 38, _ => rfl
  | 39, _ => rfl
  | 40, _ => rfl
  | 41, _ => rfl
  | 42, _ => rfl
  | 43, _ => rfl
  | 44, _ => rfl
  | 45, _ => rfl
  | 46, _ => rfl
  | 47, _ => rfl
  | 48, _ => rfl
  | 49, _ => rfl
  | 50, _ => rfl
  | 51, _ => rfl
  | 52, _ => rfl
  | 53, _ => rfl
  | 54, _ => rfl
  | 55, _ => rfl
  | 56, _ => rfl
  | 57, _ => rfl
  | 58, _ => rfl
  | 59, _ => rfl
  | 60, _ => rfl
  | 61, _ => rfl
  | 62, _ => rfl
  | 63, _ => rfl
  | 64, _ => rfl
  | 65, _ => rfl
  | 66, _ => rfl
  | 67, _ => rfl
  | 68, _ => rfl
  | 69, _ => rfl
  | k + 70, h => exact absurd h (by omega))
theorem info_own {w : World} {base e size n : Nat} {A : Option Addr} {c : Nat} {xs : List Value} (h : w.ownsRow base e size (.slice A n c) n xs) (hn : 0 < n) : ∃ g, A = some ⟨g, 0, none⟩ ∧ base ≤ g ∧ g < w.heap.size := by
  obtain ⟨g, c', e, h1, h2⟩ := h.form hn
  simp only [Value.slice.injEq] at e
  exact ⟨g, e.1, h1, h2⟩
set_option maxHeartbeats 1600000 in
theorem plat_value (xa xo xv : ByteArray) (w : World) : Calls Tryz.prog 78 #[.agg #[.string xa, .string xo, .string xv]] w (PlatRes xa xo xv w) := by
  go_enter Tryz.func78, Tryz.ntmps78
  go_wp2_with fail
  rename_i Kf hKf
  refine reg78_1 (B := w.heap.size + 2) (p := w.heap.size) (xv := xv) (by kernel_rfl) (by simp) (by rw [alloc_before (by simp)]; exact alloc_at rfl) rfl rfl (fun L a w1 hJ hd hs hr hR => ?_)
  obtain ⟨b, U, uc, V, vc, e3, hb, hbox, hU, hV⟩ := hR 10 (by decide)
  obtain ⟨gU, rfl, hgU, hgU2⟩ := info_own hU (by decide)
  obtain ⟨gN, rfl, hgN, hgN2⟩ := info_own hV (by decide)
  have hX : w1.heap[w.heap.size]? = some (.cells #[.string xa, .string xo, .string xv] 60 (0, 0)) := hJ.2
  have hRv : w1.heap[w.heap.size + 1]? = some (.cells #[.int .i64 0, .bool false, .string ⟨#[]⟩, .slice none 0 0, .slice none 0 0] 27 (0, 0)) := (hJ.1.block _ (by omega)).trans (alloc_at (by simp))
  have hB1 : Below w.heap.size w w1 := (((Below.refl _ _).alloc (Nat.le_refl _) _).alloc (by simp) _).trans (hJ.1.mono (by omega))
  have hz1 := World.block_lt_of_cell? w1 _ ((cell_of_row w1 b 0 _ 27 (0, 0) hbox).trans rfl)
  have hz1 : b < w1.heap.size := hz1
  have hz0 : w.heap.size + 2 ≤ w1.heap.size := by have := hJ.1.size; simpa using this
  have HBOX := Lib.hid hbox
  have HX := Lib.hid hX
  have HRV := Lib.hid hRv
  have HU := Lib.hid hU
  have HV := Lib.hid hV
  have HB1 := Lib.hid hB1
  have y0 : a.eval (.tmp 0) = .agg #[.string xa, .string xo, .string xv] := hr 0 (by kernel_rfl)
  have y1 : a.eval (.tmp 1) = .pointer (some ⟨w.heap.size, 0, none⟩) := hr 1 (by kernel_rfl)
  have y2 : a.eval (.tmp 2) = .pointer (some ⟨w.heap.size + 1, 0, none⟩) := hr 2 (by kernel_rfl)
  have y3 : a.eval (.tmp 3) = .pointer (some ⟨b, 0, none⟩) := e3
  have y13 : a.eval (.tmp 13) = undef := hr 13 (by kernel_rfl)
  have y14 : a.eval (.tmp 14) = undef := hr 14 (by kernel_rfl)
  have y15 : a.eval (.tmp 15) = undef := hr 15 (by kernel_rfl)
  have y16 : a.eval (.tmp 16) = undef := hr 16 (by kernel_rfl)
  have y17 : a.eval (.tmp 17) = undef := hr 17 (by kernel_rfl)
  have y18 : a.eval (.tmp 18) = undef := hr 18 (by kernel_rfl)
  have y19 : a.eval (.tmp 19) = undef := hr 19 (by kernel_rfl)
  have y20 : a.eval (.tmp 20) = undef := hr 20 (by kernel_rfl)
  have y21 : a.eval (.tmp 21) = undef := hr 21 (by kernel_rfl)
  have y22 : a.eval (.tmp 22) = undef := hr 22 (by kernel_rfl)
  have y23 : a.eval (.tmp 23) = undef := hr 23 (by kernel_rfl)
  have y24 : a.eval (.tmp 24) = undef := hr 24 (by kernel_rfl)
  have y25 : a.eval (.tmp 25) = undef := hr 25 (by kernel_rfl)
  have y26 : a.eval (.tmp 26) = undef := hr 26 (by kernel_rfl)
  have y27 : a.eval (.tmp 27) = undef := hr 27 (by kernel_rfl)
  have y28 : a.eval (.tmp 28) = undef := hr 28 (by kernel_rfl)
  have y29 : a.eval (.tmp 29) = undef := hr 29 (by kernel_rfl)
  rw [act30 hs, hd, y0, y1, y2, y3, y13, y14, y15, y16, y17, y18, y19, y20, y21, y22, y23, y24, y25, y26, y27, y28, y29]
  generalize a.eval (.tmp 4) = x1_4
  generalize a.eval (.tmp 5) = x1_5
  generalize a.eval (.tmp 6) = x1_6
  generalize a.eval (.tmp 7) = x1_7
  generalize a.eval (.tmp 8) = x1_8
  generalize a.eval (.tmp 9) = x1_9
  generalize a.eval (.tmp 10) = x1_10
  generalize a.eval (.tmp 11) = x1_11
  generalize a.eval (.tmp 12) = x1_12
  clear hr hs hd y0 y1 y2 y3 y13 y14 y15 y16 y17 y18 y19 y20 y21 y22 y23 y24 y25 y26 y27 y28 y29
  clear hJ hR e3 hU hV hB1
  refine hKf _ _ ?_
  clear hKf
  have cX := fun o => cell_of_row w1 w.heap.size o _ 60 (0, 0) hX
  have cB := fun o => cell_of_row w1 b o _ 27 (0, 0) hbox
  have cR := fun o => cell_of_row w1 (w.heap.size + 1) o _ 27 (0, 0) hRv
  have fR : ∀ o, w1.frozen? ⟨w.heap.size + 1, o, none⟩ = false := fun o => by simp [World.frozen?, hRv]
  have lR : w.heap.size + 1 < w1.heap.size := by omega
  have nRb : ¬ w.heap.size + 1 = b := by omega
  have nbR : ¬ b = w.heap.size + 1 := by omega
  clear hX hbox hRv
  cases hv : xv.toList.isEmpty with
  | true =>
    go_wp2
    refine bodyPost_ret (v := .agg #[.int .i64 5, .bool false, .string ⟨#[]⟩, .slice (some ⟨gU, 0, none⟩) 2 uc, .slice (some ⟨gN, 0, none⟩) 2 vc]) (by simp [results, Tryz.results78, go_sem, cR, fR, lR]) rfl ?_
    simp only [PlatRes, platK, platXS, platNS, hv, if_true, List.append_nil]
    refine ⟨gU, uc, gN, vc, rfl, ?_, ?_, ?_⟩
    · (repeat (refine set_own ?_ (fun e => by simp [Value.ownBlock] at e; omega)))
      exact own_base HU.out (by omega)
    · (repeat (refine set_own ?_ (fun e => by simp [Value.ownBlock] at e; omega)))
      exact own_base HV.out (by omega)
    · (repeat (first | with_reducible refine Below.setCell ?_ (by simp) _))
      exact HB1.out
  | false =>
    go_wp2_with fail
    rename_i Kf hKf
    clear cX cB cR fR lR nRb nbR
    have hbU : b ≠ gU := fun e => own_ne_blk HU.out HBOX.out (.inr (by simp)) (by rw [e]; rfl)
    refine done78_3 (B := w.heap.size) (S0 := w1.heap.size) (b := b) (gN := gN) (gU := gU) (p := w.heap.size) (by kernel_rfl) rfl (by omega) (by omega) hz1 hbU HBOX.out (own_base HV.out (by omega)) (own_base HU.out (by omega)) (by omega) (by omega) (by omega) (by omega) HX.out rfl rfl rfl (fun a w2 g1 c1 g2 c2 hd hs hr hb2 hun hbox2 hg1 ho1 hg2 ho2 => ?_)
    have hz2 : w1.heap.size ≤ w2.heap.size := by have := World.ownsRow.lt ho1 g1 rfl; have := hb2.size; exact this
    have hRv2 := (hun (w.heap.size + 1) (by omega) (by omega) (by omega) (by omega)).trans HRV.out
    have HB2 := Lib.hid (HB1.out.trans (hb2.mono (Nat.le_refl _)))
    have HO1 := Lib.hid ho1
    have HO2 := Lib.hid ho2
    have y0 : a.eval (.tmp 0) = .agg #[.string xa, .string xo, .string xv] := hr 0 (by kernel_rfl)
    have y1 : a.eval (.tmp 1) = .pointer (some ⟨w.heap.size, 0, none⟩) := hr 1 (by kernel_rfl)
    have y2 : a.eval (.tmp 2) = .pointer (some ⟨w.heap.size + 1, 0, none⟩) := hr 2 (by kernel_rfl)
    have y3 : a.eval (.tmp 3) = .pointer (some ⟨b, 0, none⟩) := hr 3 (by kernel_rfl)
    have y4 : a.eval (.tmp 4) = x1_4 := hr 4 (by kernel_rfl)
    have y5 : a.eval (.tmp 5) = x1_5 := hr 5 (by kernel_rfl)
    have y6 : a.eval (.tmp 6) = x1_6 := hr 6 (by kernel_rfl)
    have y7 : a.eval (.tmp 7) = x1_7 := hr 7 (by kernel_rfl)
    have y8 : a.eval (.tmp 8) = x1_8 := hr 8 (by kernel_rfl)
    have y9 : a.eval (.tmp 9) = x1_9 := hr 9 (by kernel_rfl)
    have y10 : a.eval (.tmp 10) = x1_10 := hr 10 (by kernel_rfl)
    have y11 : a.eval (.tmp 11) = x1_11 := hr 11 (by kernel_rfl)
    have y12 : a.eval (.tmp 12) = x1_12 := hr 12 (by kernel_rfl)
    have y13 : a.eval (.tmp 13) = .pointer (some ⟨w.heap.size, 2, none⟩) := hr 13 (by kernel_rfl)
    have y14 : a.eval (.tmp 14) = .string xv := hr 14 (by kernel_rfl)
    have y15 : a.eval (.tmp 15) = .bool true := hr 15 (by kernel_rfl)
    have y29 : a.eval (.tmp 29) = undef := hr 29 (by kernel_rfl)
    rw [act30 hs, hd, y0, y1, y2, y3, y4, y5, y6, y7, y8, y9, y10, y11, y12, y13, y14, y15, y29]
    generalize a.eval (.tmp 16) = x2_16
    generalize a.eval (.tmp 17) = x2_17
    generalize a.eval (.tmp 18) = x2_18
    generalize a.eval (.tmp 19) = x2_19
    generalize a.eval (.tmp 20) = x2_20
    generalize a.eval (.tmp 21) = x2_21
    generalize a.eval (.tmp 22) = x2_22
    generalize a.eval (.tmp 23) = x2_23
    generalize a.eval (.tmp 24) = x2_24
    generalize a.eval (.tmp 25) = x2_25
    generalize a.eval (.tmp 26) = x2_26
    generalize a.eval (.tmp 27) = x2_27
    generalize a.eval (.tmp 28) = x2_28
    clear hr hs hd y0 y1 y2 y3 y4 y5 y6 y7 y8 y9 y10 y11 y12 y13 y14 y15 y29
    clear hb2 hun ho1 ho2
    refine hKf _ _ ?_
    clear hKf
    have cB := fun o => cell_of_row w2 b o _ 27 (0, 0) hbox2
    have cR := fun o => cell_of_row w2 (w.heap.size + 1) o _ 27 (0, 0) hRv2
    have fR : ∀ o, w2.frozen? ⟨w.heap.size + 1, o, none⟩ = false := fun o => by simp [World.frozen?, hRv2]
    have lR : w.heap.size + 1 < w2.heap.size := by omega
    have nRb : ¬ w.heap.size + 1 = b := by omega
    have nbR : ¬ b = w.heap.size + 1 := by omega
    clear hRv2 hbox2
    go_wp2
    refine bodyPost_ret (v := .agg #[.int .i64 5, .bool false, .string ⟨#[]⟩, .slice (some ⟨g2, 0, none⟩) 3 c2, .slice (some ⟨g1, 0, none⟩) 3 c1]) (by simp [results, Tryz.results78, go_sem, cR, fR, lR]) rfl ?_
    simp only [PlatRes, platK, platXS, platNS, hv, Bool.false_eq_true, if_false]
    refine ⟨g2, c2, g1, c1, rfl, ?_, ?_, ?_⟩
    · (repeat (refine set_own ?_ (fun e => by simp [Value.ownBlock] at e; omega)))
      exact HO2.out
    · (repeat (refine set_own ?_ (fun e => by simp [Value.ownBlock] at e; omega)))
      exact HO1.out
    · (repeat (first | with_reducible refine Below.setCell ?_ (by simp) _))
      exact HB2.out
end Go.Proofs.YtoimjnmhinfbkaaGreatDoor

namespace Go.Proofs.YtoimjnmhinfbkaaGreatDoor
open Go.RowKit
set_option maxRecDepth 100000
def txtV (s : ByteArray) : V := .mk 3 false s [] []
def numV (z : Nat) : V := .mk 2 false ⟨(Lib.decDigits z).toArray⟩ [] []
def eB (s : ByteArray) : Bool := s.toList.isEmpty
def platVal (a o v : ByteArray) : V := .mk 5 false ⟨#[]⟩ ([txtV a, txtV o] ++ if eB v = true then [] else [txtV v]) ([⟨#[97, 114, 99, 104, 105, 116, 101, 99, 116, 117, 114, 101]⟩, ⟨#[111, 115]⟩] ++ if eB v = true then [] else [⟨#[118, 97, 114, 105, 97, 110, 116]⟩])
def descVal (m n : ByteArray) (z : Nat) (a o v : ByteArray) : V := .mk 5 false ⟨#[]⟩ ([txtV n, txtV m] ++ (if eB a = true then [] else [platVal a o v]) ++ [numV z]) ([⟨#[100, 105, 103, 101, 115, 116]⟩, ⟨#[109, 101, 100, 105, 97, 84, 121, 112, 101]⟩] ++ (if eB a = true then [] else [⟨#[112, 108, 97, 116, 102, 111, 114, 109]⟩]) ++ [⟨#[115, 105, 122, 101]⟩])
def zeroV : V := .mk 0 false ⟨#[]⟩ [] []
theorem rep_leaf (w : World) (S : Nat → Prop) (k : Int) (t : Bool) (x : ByteArray) : (V.mk k t x [] []).Rep w S [.int .i64 k, .bool t, .string x, .slice none 0 0, .slice none 0 0] :=
  ⟨none, 0, none, 0, rfl, Nat.le_refl _, Nat.le_refl _, .inl rfl, .inl rfl⟩
theorem rep_of_own {w : World} {base e : Nat} {k : Int} {t : Bool} {x : ByteArray} {l : List V} {ns : List ByteArray} {u nv : Value} {XS : List Value} (h1 : w.ownsRow base e 5 u l.length XS) (h2 : w.ownsRow base 9 1 nv ns.length (ns.map Value.string))
    (h4 : ∀ i, ∀ hi : i < l.length, (l[i]).Rep w (fun _ => True) ((XS.drop (5 * i)).take 5)) : (V.mk k t x l ns).Rep w (fun _ => True) [.int .i64 k, .bool t, .string x, u, nv] := by
  obtain ⟨A', c', rfl, hc, hl, hr⟩ := own_row h1
  obtain ⟨B', d', rfl, hd, hm, hs⟩ := own_row h2
  refine ⟨A', c', B', d', rfl, hc, hd, ?_, ?_⟩
  · rcases hs with ⟨rfl, h0⟩ | ⟨g, rfl, hg1, hg2, hg3, -⟩
    · exact .inl (List.eq_nil_of_length_eq_zero h0)
    · exact .inr ⟨g, 0, rfl, trivial, hg3⟩
  · rcases hr with ⟨rfl, h0⟩ | ⟨g, rfl, hg1, hg2, hg3, -⟩
    · exact .inl (List.eq_nil_of_length_eq_zero h0)
    · exact .inr ⟨g, 0, rfl, trivial, V.Reps.mk fun i hi => ⟨_, row_part hg3 (5 * i) 5, h4 i hi⟩⟩
theorem rep_plat {w : World} {base : Nat} {xa xo xv : ByteArray} {u nv : Value} (h1 : w.ownsRow base 27 5 u (platK xv) (platXS xa xo xv)) (h2 : w.ownsRow base 9 1 nv (platK xv) (platNS xv)) : (platVal xa xo xv).Rep w (fun _ => True) [.int .i64 5, .bool false, .string ⟨#[]⟩, u, nv] := by
  unfold platVal
  unfold platK platXS at h1
  unfold platK platNS at h2
  unfold eB
  cases hv : xv.toList.isEmpty with
  | true =>
    rw [hv] at h1 h2
    refine rep_of_own (e := 27) h1 h2 fun i hi => ?_
    match i, hi with
    | 0, _ => exact rep_leaf _ _ _ _ _
    | 1, _ => exact rep_leaf _ _ _ _ _
    | k + 2, h => exact absurd h (by simp)
  | false =>
    rw [hv] at h1 h2
    refine rep_of_own (e := 27) h1 h2 fun i hi => ?_
    match i, hi with
    | 0, _ => exact rep_leaf _ _ _ _ _
    | 1, _ => exact rep_leaf _ _ _ _ _
    | 2, _ => exact rep_leaf _ _ _ _ _
    | k + 3, h => exact absurd h (by simp)
/-- Value's answer: the value, the error. -/
def ValRes (x : V) (c : Int) (w : World) (e : Ending) (w' : World) : Prop := ∃ cs : List Value, e = .returned (.tuple #[.agg cs.toArray, errnoV c]) ∧ x.Rep w' (fun _ => True) cs ∧ Below w.heap.size w w'
set_option maxHeartbeats 3200000 in
theorem value_bad (m n : ByteArray) (z : Int) (a o v : ByteArray) (w : World) (hg : Glob w) (lm : m.size ≤ 1073741824) (ln : n.size ≤ 1073741824) (la : a.size ≤ 1073741824) (lo : o.size ≤ 1073741824) (lv : v.size ≤ 1073741824) (hc : checkA m n z a o v ≠ 0) :
    Calls Tryz.prog 33 #[.agg #[.string m, .string n, .int .i64 z, .string a, .string o, .string v]] w (ValRes zeroV (checkA m n z a o v) w) := by
  have H := fun w hg => check_any m n z a o v w hg lm ln la lo lv
  have HG := Lib.hid hg
  generalize checkA m n z a o v = c at *
  have he : errnoV c = .iface 35 (.int .i64 c) := by unfold errnoV; rw [if_neg hc]
  rw [he] at H
  have HH := Lib.hid H
  have HE := Lib.hid he
  clear hg H he
  go_enter Tryz.func33, Tryz.ntmps33
  go_wp2_with fail
  refine (HH.out _ (HG.out.below (((Below.refl _ _).alloc (Nat.le_refl _) _).alloc (by simp) _))).mono ?_
  rintro e w1 ⟨rfl, hb1⟩
  have HB1 := Lib.hid hb1
  have hRv : w1.heap[w.heap.size + 1]? = some (.cells #[.int .i64 0, .bool false, .string ⟨#[]⟩, .slice none 0 0, .slice none 0 0] 27 (0, 0)) := (hb1.block _ (by simp)).trans (alloc_at (by simp))
  have cR := fun o => cell_of_row w1 (w.heap.size + 1) o _ 27 (0, 0) hRv
  have fR : ∀ o, w1.frozen? ⟨w.heap.size + 1, o, none⟩ = false := fun o => by simp [World.frozen?, hRv]
  have lR : w.heap.size + 1 < w1.heap.size := by have := hb1.size; simp at this; omega
  clear hb1 hRv
  go_wp2
  refine bodyPost_ret (v := .tuple #[.agg #[.int .i64 0, .bool false, .string ⟨#[]⟩, .slice none 0 0, .slice none 0 0], .iface 35 (.int .i64 c)]) (by simp [results, Tryz.results33, go_sem, cR, fR, lR]) rfl ?_
  refine ⟨[.int .i64 0, .bool false, .string ⟨#[]⟩, .slice none 0 0, .slice none 0 0], by rw [HE.out], rep_leaf _ _ _ _ _, ?_⟩
  (repeat (first | with_reducible refine Below.setCell ?_ (by simp) _))
  exact (((Below.refl _ _).alloc (Nat.le_refl _) _).alloc (by simp) _).trans (HB1.out.mono (by simp; omega))
theorem own_ne_head {w : World} {b1 e1 s1 n1 c1 g1 b2 e2 s2 n2 c2 g2 : Nat} {x y : Value} {xs ys : List Value} (h1 : w.ownsRow b1 e1 s1 (.slice (some ⟨g1, 0, none⟩) n1 c1) n1 (x :: xs)) (h2 : w.ownsRow b2 e2 s2 (.slice (some ⟨g2, 0, none⟩) n2 c2) n2 (y :: ys)) (hne : x ≠ y) : g1 ≠ g2 := by
  intro e
  subst e
  have k1 := h1.cells rfl 0 x rfl
  have k2 := h2.cells rfl 0 y rfl
  rw [k1] at k2
  exact hne (by simpa using k2)
set_option maxHeartbeats 6400000 in
theorem value_good (m n : ByteArray) (z : Nat) (a o v : ByteArray) (w : World) (hg : Glob w) (lm : m.size ≤ 1073741824) (ln : n.size ≤ 1073741824) (la : a.size ≤ 1073741824) (lo : o.size ≤ 1073741824) (lv : v.size ≤ 1073741824) (hz : z ≤ 1048576) (hc : checkA m n z a o v = 0)
    (hp : (a = ⟨#[]⟩ ∧ o = ⟨#[]⟩ ∧ v = ⟨#[]⟩) ∨ eB a = false) :
    Calls Tryz.prog 33 #[.agg #[.string m, .string n, .int .i64 (z : Int), .string a, .string o, .string v]] w (ValRes (descVal m n z a o v) 0 w) := by
  have H := fun w hg => check_any m n z a o v w hg lm ln la lo lv
  have HG := Lib.hid hg
  rw [hc, show errnoV 0 = .nilIface from rfl] at H
  have HH := Lib.hid H
  have hz0 : (0 : Int) ≤ (z : Int) := Int.natCast_nonneg _
  have HZ := Lib.hid hz
  have HP := Lib.hid hp
  clear hg H hc hz hp
  go_enter Tryz.func33, Tryz.ntmps33
  go_wp2_with fail
  refine (HH.out _ (HG.out.below (((Below.refl _ _).alloc (Nat.le_refl _) _).alloc (by simp) _))).mono ?_
  rintro e w1 ⟨rfl, hb1⟩
  have HB1 := Lib.hid (show Below w.heap.size w w1 from (((Below.refl _ _).alloc (Nat.le_refl _) _).alloc (by simp) _).trans (hb1.mono (by simp; omega)))
  have z1 : w.heap.size + 2 ≤ w1.heap.size := by have := hb1.size; simpa using this
  have hX : w1.heap[w.heap.size]? = some (.cells #[.string m, .string n, .int .i64 (z : Int), .string a, .string o, .string v] 62 (0, 0)) := (hb1.block _ (by simp; omega)).trans (by rw [alloc_before (by simp)]; exact alloc_at rfl)
  have hRv : w1.heap[w.heap.size + 1]? = some (.cells #[.int .i64 0, .bool false, .string ⟨#[]⟩, .slice none 0 0, .slice none 0 0] 27 (0, 0)) := (hb1.block _ (by simp)).trans (alloc_at (by simp))
  have HX := Lib.hid hX
  have HR := Lib.hid hRv
  have cX := fun o => cell_of_row w1 w.heap.size o _ 62 (0, 0) hX
  clear hb1 hX hRv
  go_wp2_with fail
  refine (itoa_any (z : Int) _ (HG.out.below HB1.out) (by omega) (by have := HZ.out; omega)).mono ?_
  rintro e w2 ⟨rfl, hb2⟩
  rw [show Lib.itoa (z : Int) = Lib.decDigits z from by unfold Lib.itoa; rw [if_neg (by omega)]; simp]
  have HB2 := Lib.hid (HB1.out.trans (hb2.mono (by omega)))
  have z2 : w.heap.size + 2 ≤ w2.heap.size := by have := hb2.size; omega
  have HX2 := Lib.hid ((hb2.block _ (by omega)).trans HX.out)
  have HR2 := Lib.hid ((hb2.block _ (by omega)).trans HR.out)
  clear hb2 cX HX HR HB1
  go_wp2_with fail
  rename_i Kf hKf
  refine reg33_5 (B := w2.heap.size + 1) (p := w.heap.size) (xm := m) (xn := n) (xz := z) (xa := a) (xo := o) (xv := v) (by kernel_rfl) (by simp) (by rw [alloc_before (by omega)]; exact HX2.out) rfl rfl (fun L A w3 hJ hd hs hr hR => ?_)
  obtain ⟨b, U, uc, V, vc, e3, hb, hbox, hU, hV⟩ := hR 10 (by decide)
  obtain ⟨gU, rfl, hgU, hgU2⟩ := info_own hU (by decide)
  obtain ⟨gN, rfl, hgN, hgN2⟩ := info_own hV (by decide)
  have HX3 := Lib.hid hJ.2
  have HR3 := Lib.hid ((hJ.1.block _ (by omega)).trans ((alloc_before (by omega)).trans HR2.out))
  have HT3 := Lib.hid (show w3.heap[w2.heap.size]? = some (.cells #[.int .i64 2, .bool false, .string ⟨(Lib.decDigits z).toArray⟩, .slice none 0 0, .slice none 0 0] 27 (0, 0)) from (hJ.1.block _ (by omega)).trans (alloc_at rfl))
  have HB3 := Lib.hid (show Below w.heap.size w w3 from (HB2.out.alloc (by omega) _).trans (hJ.1.mono (by omega)))
  have hz3 : b < w3.heap.size := World.block_lt_of_cell? w3 _ ((cell_of_row w3 b 0 _ 27 (0, 0) hbox).trans rfl)
  have HBOX := Lib.hid hbox
  have HU := Lib.hid hU
  have HV := Lib.hid hV
  have hbU : b ≠ gU := fun e => own_ne_blk HU.out HBOX.out (.inr (by simp)) (by rw [e]; rfl)
  have y0 : A.eval (.tmp 0) = .agg #[.string m, .string n, .int .i64 (z : Int), .string a, .string o, .string v] := hr 0 (by kernel_rfl)
  have y1 : A.eval (.tmp 1) = .pointer (some ⟨w.heap.size, 0, none⟩) := hr 1 (by kernel_rfl)
  have y2 : A.eval (.tmp 2) = .pointer (some ⟨w.heap.size + 1, 0, none⟩) := hr 2 (by kernel_rfl)
  have y3 : A.eval (.tmp 3) = .nilIface := hr 3 (by kernel_rfl)
  have y4 : A.eval (.tmp 4) = .nilIface := hr 4 (by kernel_rfl)
  have y5 : A.eval (.tmp 5) = .pointer (some ⟨w2.heap.size, 0, none⟩) := hr 5 (by kernel_rfl)
  have y6 : A.eval (.tmp 6) = .pointer (some ⟨b, 0, none⟩) := e3
  have y7 : A.eval (.tmp 7) = .agg #[.string m, .string n, .int .i64 (z : Int), .string a, .string o, .string v] := hr 7 (by kernel_rfl)
  have y8 : A.eval (.tmp 8) = .nilIface := hr 8 (by kernel_rfl)
  have y9 : A.eval (.tmp 9) = .nilIface := hr 9 (by kernel_rfl)
  have y10 : A.eval (.tmp 10) = .bool false := hr 10 (by kernel_rfl)
  have y11 : A.eval (.tmp 11) = undef := hr 11 (by kernel_rfl)
  have y12 : A.eval (.tmp 12) = undef := hr 12 (by kernel_rfl)
  have y13 : A.eval (.tmp 13) = .pointer (some ⟨w.heap.size, 2, none⟩) := hr 13 (by kernel_rfl)
  have y14 : A.eval (.tmp 14) = .int .i64 (z : Int) := hr 14 (by kernel_rfl)
  have y15 : A.eval (.tmp 15) = .string ⟨(Lib.decDigits z).toArray⟩ := hr 15 (by kernel_rfl)
  have y16 : A.eval (.tmp 16) = .agg #[.int .i64 2, .bool false, .string ⟨(Lib.decDigits z).toArray⟩, .slice none 0 0, .slice none 0 0] := hr 16 (by kernel_rfl)
  have y26 : A.eval (.tmp 26) = undef := hr 26 (by kernel_rfl)
  have y27 : A.eval (.tmp 27) = undef := hr 27 (by kernel_rfl)
  have y28 : A.eval (.tmp 28) = undef := hr 28 (by kernel_rfl)
  have y29 : A.eval (.tmp 29) = undef := hr 29 (by kernel_rfl)
  have y30 : A.eval (.tmp 30) = undef := hr 30 (by kernel_rfl)
  have y31 : A.eval (.tmp 31) = undef := hr 31 (by kernel_rfl)
  have y32 : A.eval (.tmp 32) = undef := hr 32 (by kernel_rfl)
  have y33 : A.eval (.tmp 33) = undef := hr 33 (by kernel_rfl)
  have y34 : A.eval (.tmp 34) = undef := hr 34 (by kernel_rfl)
  have y35 : A.eval (.tmp 35) = undef := hr 35 (by kernel_rfl)
  have y36 : A.eval (.tmp 36) = undef := hr 36 (by kernel_rfl)
  have y37 : A.eval (.tmp 37) = undef := hr 37 (by kernel_rfl)
  have y38 : A.eval (.tmp 38) = undef := hr 38 (by kernel_rfl)
  have y39 : A.eval (.tmp 39) = undef := hr 39 (by kernel_rfl)
  have y40 : A.eval (.tmp 40) = undef := hr 40 (by kernel_rfl)
  have y41 : A.eval (.tmp 41) = undef := hr 41 (by kernel_rfl)
  have y42 : A.eval (.tmp 42) = undef := hr 42 (by kernel_rfl)
  have y43 : A.eval (.tmp 43) = undef := hr 43 (by kernel_rfl)
  have y44 : A.eval (.tmp 44) = undef := hr 44 (by kernel_rfl)
  have y45 : A.eval (.tmp 45) = undef := hr 45 (by kernel_rfl)
  have y46 : A.eval (.tmp 46) = undef := hr 46 (by kernel_rfl)
  have y47 : A.eval (.tmp 47) = undef := hr 47 (by kernel_rfl)
  have y48 : A.eval (.tmp 48) = undef := hr 48 (by kernel_rfl)
  have y49 : A.eval (.tmp 49) = undef := hr 49 (by kernel_rfl)
  have y50 : A.eval (.tmp 50) = undef := hr 50 (by kernel_rfl)
  have y51 : A.eval (.tmp 51) = undef := hr 51 (by kernel_rfl)
  have y52 : A.eval (.tmp 52) = undef := hr 52 (by kernel_rfl)
  have y53 : A.eval (.tmp 53) = undef := hr 53 (by kernel_rfl)
  have y54 : A.eval (.tmp 54) = undef := hr 54 (by kernel_rfl)
  rw [act55 hs, hd, y0, y1, y2, y3, y4, y5, y6, y7, y8, y9, y10, y11, y12, y13, y14, y15, y16, y26, y27, y28, y29, y30, y31, y32, y33, y34, y35, y36, y37, y38, y39, y40, y41, y42, y43, y44, y45, y46, y47, y48, y49, y50, y51, y52, y53, y54]
  generalize A.eval (.tmp 17) = x1_17
  generalize A.eval (.tmp 18) = x1_18
  generalize A.eval (.tmp 19) = x1_19
  generalize A.eval (.tmp 20) = x1_20
  generalize A.eval (.tmp 21) = x1_21
  generalize A.eval (.tmp 22) = x1_22
  generalize A.eval (.tmp 23) = x1_23
  generalize A.eval (.tmp 24) = x1_24
  generalize A.eval (.tmp 25) = x1_25
  clear hr hs hd y0 y1 y2 y3 y4 y5 y6 y7 y8 y9 y10 y11 y12 y13 y14 y15 y16 y26 y27 y28 y29 y30 y31 y32 y33 y34 y35 y36 y37 y38 y39 y40 y41 y42 y43 y44 y45 y46 y47 y48 y49 y50 y51 y52 y53 y54
  clear hJ hR e3 hU hV hbox HX2 HR2 HB2
  refine hKf _ _ ?_
  clear hKf
  have cX := fun o => cell_of_row w3 w.heap.size o _ 62 (0, 0) HX3.out
  rcases HP.out with ⟨rfl, rfl, rfl⟩ | ha
  · clear HP
    go_wp2_with fail
    rename_i Kf hKf
    clear cX
    refine done33_8 (B := w.heap.size) (S0 := w3.heap.size) (b := b) (gN := gN) (gU := gU) (p := w2.heap.size) (xs := ⟨(Lib.decDigits z).toArray⟩) (by kernel_rfl) rfl (by omega) (by omega) hz3 hbU HBOX.out (own_base HV.out (by omega)) (own_base HU.out (by omega)) (by omega) (by omega) (by omega) (by omega) HT3.out rfl rfl rfl (fun A w4 g1 c1 g2 c2 hd hs hr hb2 hun hbox2 hg1 ho1 hg2 ho2 => ?_)
    have hz4 : w3.heap.size ≤ w4.heap.size := hb2.size
    have hRv2 := (hun (w.heap.size + 1) (by omega) (by omega) (by omega) (by omega)).trans HR3.out
    have HB4 := Lib.hid (HB3.out.trans (hb2.mono (Nat.le_refl _)))
    have HO1 := Lib.hid ho1
    have HO2 := Lib.hid ho2
    have y0 : A.eval (.tmp 0) = .agg #[.string m, .string n, .int .i64 (z : Int), .string ⟨#[]⟩, .string ⟨#[]⟩, .string ⟨#[]⟩] := hr 0 (by kernel_rfl)
    have y1 : A.eval (.tmp 1) = .pointer (some ⟨w.heap.size, 0, none⟩) := hr 1 (by kernel_rfl)
    have y2 : A.eval (.tmp 2) = .pointer (some ⟨w.heap.size + 1, 0, none⟩) := hr 2 (by kernel_rfl)
    have y3 : A.eval (.tmp 3) = .nilIface := hr 3 (by kernel_rfl)
    have y4 : A.eval (.tmp 4) = .nilIface := hr 4 (by kernel_rfl)
    have y5 : A.eval (.tmp 5) = .pointer (some ⟨w2.heap.size, 0, none⟩) := hr 5 (by kernel_rfl)
    have y6 : A.eval (.tmp 6) = .pointer (some ⟨b, 0, none⟩) := hr 6 (by kernel_rfl)
    have y7 : A.eval (.tmp 7) = .agg #[.string m, .string n, .int .i64 (z : Int), .string ⟨#[]⟩, .string ⟨#[]⟩, .string ⟨#[]⟩] := hr 7 (by kernel_rfl)
    have y8 : A.eval (.tmp 8) = .nilIface := hr 8 (by kernel_rfl)
    have y9 : A.eval (.tmp 9) = .nilIface := hr 9 (by kernel_rfl)
    have y10 : A.eval (.tmp 10) = .bool false := hr 10 (by kernel_rfl)
    have y11 : A.eval (.tmp 11) = undef := hr 11 (by kernel_rfl)
    have y12 : A.eval (.tmp 12) = undef := hr 12 (by kernel_rfl)
    have y13 : A.eval (.tmp 13) = .pointer (some ⟨w.heap.size, 2, none⟩) := hr 13 (by kernel_rfl)
    have y14 : A.eval (.tmp 14) = .int .i64 (z : Int) := hr 14 (by kernel_rfl)
    have y15 : A.eval (.tmp 15) = .string ⟨(Lib.decDigits z).toArray⟩ := hr 15 (by kernel_rfl)
    have y16 : A.eval (.tmp 16) = .agg #[.int .i64 2, .bool false, .string ⟨(Lib.decDigits z).toArray⟩, .slice none 0 0, .slice none 0 0] := hr 16 (by kernel_rfl)
    have y17 : A.eval (.tmp 17) = x1_17 := hr 17 (by kernel_rfl)
    have y18 : A.eval (.tmp 18) = x1_18 := hr 18 (by kernel_rfl)
    have y19 : A.eval (.tmp 19) = x1_19 := hr 19 (by kernel_rfl)
    have y20 : A.eval (.tmp 20) = x1_20 := hr 20 (by kernel_rfl)
    have y21 : A.eval (.tmp 21) = x1_21 := hr 21 (by kernel_rfl)
    have y22 : A.eval (.tmp 22) = x1_22 := hr 22 (by kernel_rfl)
    have y23 : A.eval (.tmp 23) = x1_23 := hr 23 (by kernel_rfl)
    have y24 : A.eval (.tmp 24) = x1_24 := hr 24 (by kernel_rfl)
    have y25 : A.eval (.tmp 25) = x1_25 := hr 25 (by kernel_rfl)
    have y26 : A.eval (.tmp 26) = .pointer (some ⟨w.heap.size, 3, none⟩) := hr 26 (by kernel_rfl)
    have y27 : A.eval (.tmp 27) = .agg #[.string ⟨#[]⟩, .string ⟨#[]⟩, .string ⟨#[]⟩] := hr 27 (by kernel_rfl)
    have y28 : A.eval (.tmp 28) = .agg #[.string ⟨#[]⟩, .string ⟨#[]⟩, .string ⟨#[]⟩] := hr 28 (by kernel_rfl)
    have y29 : A.eval (.tmp 29) = .bool false := hr 29 (by kernel_rfl)
    have y30 : A.eval (.tmp 30) = undef := hr 30 (by kernel_rfl)
    have y31 : A.eval (.tmp 31) = undef := hr 31 (by kernel_rfl)
    have y32 : A.eval (.tmp 32) = undef := hr 32 (by kernel_rfl)
    have y33 : A.eval (.tmp 33) = undef := hr 33 (by kernel_rfl)
    have y34 : A.eval (.tmp 34) = undef := hr 34 (by kernel_rfl)
    have y35 : A.eval (.tmp 35) = undef := hr 35 (by kernel_rfl)
    have y36 : A.eval (.tmp 36) = undef := hr 36 (by kernel_rfl)
    have y37 : A.eval (.tmp 37) = undef := hr 37 (by kernel_rfl)
    have y38 : A.eval (.tmp 38) = undef := hr 38 (by kernel_rfl)
    have y39 : A.eval (.tmp 39) = undef := hr 39 (by kernel_rfl)
    have y40 : A.eval (.tmp 40) = undef := hr 40 (by kernel_rfl)
    have y41 : A.eval (.tmp 41) = undef := hr 41 (by kernel_rfl)
    have y42 : A.eval (.tmp 42) = undef := hr 42 (by kernel_rfl)
    have y54 : A.eval (.tmp 54) = undef := hr 54 (by kernel_rfl)
    rw [act55 hs, hd, y0, y1, y2, y3, y4, y5, y6, y7, y8, y9, y10, y11, y12, y13, y14, y15, y16, y17, y18, y19, y20, y21, y22, y23, y24, y25, y26, y27, y28, y29, y30, y31, y32, y33, y34, y35, y36, y37, y38, y39, y40, y41, y42, y54]
    generalize A.eval (.tmp 43) = x2_43
    generalize A.eval (.tmp 44) = x2_44
    generalize A.eval (.tmp 45) = x2_45
    generalize A.eval (.tmp 46) = x2_46
    generalize A.eval (.tmp 47) = x2_47
    generalize A.eval (.tmp 48) = x2_48
    generalize A.eval (.tmp 49) = x2_49
    generalize A.eval (.tmp 50) = x2_50
    generalize A.eval (.tmp 51) = x2_51
    generalize A.eval (.tmp 52) = x2_52
    generalize A.eval (.tmp 53) = x2_53
    clear hr hs hd y0 y1 y2 y3 y4 y5 y6 y7 y8 y9 y10 y11 y12 y13 y14 y15 y16 y17 y18 y19 y20 y21 y22 y23 y24 y25 y26 y27 y28 y29 y30 y31 y32 y33 y34 y35 y36 y37 y38 y39 y40 y41 y42 y54
    clear hb2 hun ho1 ho2
    refine hKf _ _ ?_
    clear hKf
    have cB := fun o => cell_of_row w4 b o _ 27 (0, 0) hbox2
    have cR := fun o => cell_of_row w4 (w.heap.size + 1) o _ 27 (0, 0) hRv2
    have fR : ∀ o, w4.frozen? ⟨w.heap.size + 1, o, none⟩ = false := fun o => by simp [World.frozen?, hRv2]
    have lR : w.heap.size + 1 < w4.heap.size := by omega
    have nRb : ¬ w.heap.size + 1 = b := by omega
    have nbR : ¬ b = w.heap.size + 1 := by omega
    clear hRv2 hbox2
    go_wp2
    refine bodyPost_ret (v := .tuple #[.agg #[.int .i64 5, .bool false, .string ⟨#[]⟩, .slice (some ⟨g2, 0, none⟩) 3 c2, .slice (some ⟨g1, 0, none⟩) 3 c1], .nilIface]) (by simp [results, Tryz.results33, go_sem, cR, fR, lR]) rfl ?_
    refine ⟨[.int .i64 5, .bool false, .string ⟨#[]⟩, .slice (some ⟨g2, 0, none⟩) 3 c2, .slice (some ⟨g1, 0, none⟩) 3 c1], rfl, ?_, ?_⟩
    · unfold descVal
      rw [show eB _ = true from by first | rfl | (simp [eB]; done) | kernel_rfl | decide]
      refine rep_of_own (base := w.heap.size) (e := 27) (XS := [.int .i64 3, .bool false, .string n, .slice none 0 0, .slice none 0 0, .int .i64 3, .bool false, .string m, .slice none 0 0, .slice none 0 0, .int .i64 2, .bool false, .string ⟨(Lib.decDigits z).toArray⟩, .slice none 0 0, .slice none 0 0]) (by (repeat (refine set_own ?_ (fun e => by simp [Value.ownBlock] at e; omega))); exact HO2.out) (by (repeat (refine set_own ?_ (fun e => by simp [Value.ownBlock] at e; omega))); exact HO1.out) (fun i hi => ?_)
      match i, hi with
      | 0, _ => exact rep_leaf _ _ _ _ _
      | 1, _ => exact rep_leaf _ _ _ _ _
      | 2, _ => exact rep_leaf _ _ _ _ _
      | k + 3, h => exact absurd h (by simp)
    · (repeat (first | with_reducible refine Below.setCell ?_ (by simp) _))
      exact HB4.out
  · clear HP
    have ha' : a.toList.isEmpty = false := ha
    clear ha
    go_wp2_with fail
    rename_i Kf hKf
    clear cX
    refine done33_7 (B := w.heap.size) (S0 := w3.heap.size) (b := b) (gN := gN) (gU := gU) (p := w.heap.size) (xm := m) (xn := n) (xz := z) (xa := a) (xo := o) (xv := v) (kp := platK v) (XP := platXS a o v) (NP := platNS v) (by kernel_rfl) rfl (by omega) (by omega) hz3 hbU HBOX.out (own_base HV.out (by omega)) (own_base HU.out (by omega)) (by omega) (by omega) (by omega) (by omega) HX3.out (fun w => plat_value a o v w) rfl rfl rfl (fun A w4 gp cp gq cq g1 c1 g2 c2 hd hs hr hb2 hun hbox2 hg1 ho1 hg2 ho2 hE => ?_)
    have hz4 : w3.heap.size ≤ w4.heap.size := hb2.size
    have HR4 := Lib.hid ((hun (w.heap.size + 1) (by omega) (by omega) (by omega) (by omega)).trans HR3.out)
    have HT4 := Lib.hid ((hun w2.heap.size (by omega) (by omega) (by omega) (by omega)).trans HT3.out)
    have HB4 := Lib.hid (HB3.out.trans (hb2.mono (Nat.le_refl _)))
    have HBOX4 := Lib.hid hbox2
    have HO1 := Lib.hid ho1
    have HO2 := Lib.hid ho2
    have HE := Lib.hid hE
    have hl1 := World.ownsRow.lt ho1 g1 rfl
    have hl2 := World.ownsRow.lt ho2 g2 rfl
    have hlp := World.ownsRow.lt hE.1.1 gp rfl
    have hlq := World.ownsRow.lt hE.1.2 gq rfl
    have hp1 : gp ≠ g1 := fun e => own_ne_own hE.1.1 ho1 rfl (by decide) (by rw [e]; rfl)
    have hq2 : gq ≠ g2 := fun e => own_ne_own hE.1.2 ho2 rfl (by decide) (by rw [e]; rfl)
    have hq1 : gq ≠ g1 := by
      have h1 := hE.1.2
      unfold platNS at h1
      exact own_ne_head h1 ho1 (by intro e; injection e with e; exact absurd e (by decide))
    have y0 : A.eval (.tmp 0) = .agg #[.string m, .string n, .int .i64 (z : Int), .string a, .string o, .string v] := hr 0 (by kernel_rfl)
    have y1 : A.eval (.tmp 1) = .pointer (some ⟨w.heap.size, 0, none⟩) := hr 1 (by kernel_rfl)
    have y2 : A.eval (.tmp 2) = .pointer (some ⟨w.heap.size + 1, 0, none⟩) := hr 2 (by kernel_rfl)
    have y3 : A.eval (.tmp 3) = .nilIface := hr 3 (by kernel_rfl)
    have y4 : A.eval (.tmp 4) = .nilIface := hr 4 (by kernel_rfl)
    have y5 : A.eval (.tmp 5) = .pointer (some ⟨w2.heap.size, 0, none⟩) := hr 5 (by kernel_rfl)
    have y6 : A.eval (.tmp 6) = .pointer (some ⟨b, 0, none⟩) := hr 6 (by kernel_rfl)
    have y7 : A.eval (.tmp 7) = .agg #[.string m, .string n, .int .i64 (z : Int), .string a, .string o, .string v] := hr 7 (by kernel_rfl)
    have y8 : A.eval (.tmp 8) = .nilIface := hr 8 (by kernel_rfl)
    have y9 : A.eval (.tmp 9) = .nilIface := hr 9 (by kernel_rfl)
    have y10 : A.eval (.tmp 10) = .bool false := hr 10 (by kernel_rfl)
    have y11 : A.eval (.tmp 11) = undef := hr 11 (by kernel_rfl)
    have y12 : A.eval (.tmp 12) = undef := hr 12 (by kernel_rfl)
    have y13 : A.eval (.tmp 13) = .pointer (some ⟨w.heap.size, 2, none⟩) := hr 13 (by kernel_rfl)
    have y14 : A.eval (.tmp 14) = .int .i64 (z : Int) := hr 14 (by kernel_rfl)
    have y15 : A.eval (.tmp 15) = .string ⟨(Lib.decDigits z).toArray⟩ := hr 15 (by kernel_rfl)
    have y16 : A.eval (.tmp 16) = .agg #[.int .i64 2, .bool false, .string ⟨(Lib.decDigits z).toArray⟩, .slice none 0 0, .slice none 0 0] := hr 16 (by kernel_rfl)
    have y17 : A.eval (.tmp 17) = x1_17 := hr 17 (by kernel_rfl)
    have y18 : A.eval (.tmp 18) = x1_18 := hr 18 (by kernel_rfl)
    have y19 : A.eval (.tmp 19) = x1_19 := hr 19 (by kernel_rfl)
    have y20 : A.eval (.tmp 20) = x1_20 := hr 20 (by kernel_rfl)
    have y21 : A.eval (.tmp 21) = x1_21 := hr 21 (by kernel_rfl)
    have y22 : A.eval (.tmp 22) = x1_22 := hr 22 (by kernel_rfl)
    have y23 : A.eval (.tmp 23) = x1_23 := hr 23 (by kernel_rfl)
    have y24 : A.eval (.tmp 24) = x1_24 := hr 24 (by kernel_rfl)
    have y25 : A.eval (.tmp 25) = x1_25 := hr 25 (by kernel_rfl)
    have y26 : A.eval (.tmp 26) = .pointer (some ⟨w.heap.size, 3, none⟩) := hr 26 (by kernel_rfl)
    have y27 : A.eval (.tmp 27) = .agg #[.string a, .string o, .string v] := hr 27 (by kernel_rfl)
    have y28 : A.eval (.tmp 28) = .agg #[.string ⟨#[]⟩, .string ⟨#[]⟩, .string ⟨#[]⟩] := hr 28 (by kernel_rfl)
    have y29 : A.eval (.tmp 29) = .bool true := hr 29 (by kernel_rfl)
    have y43 : A.eval (.tmp 43) = undef := hr 43 (by kernel_rfl)
    have y44 : A.eval (.tmp 44) = undef := hr 44 (by kernel_rfl)
    have y45 : A.eval (.tmp 45) = undef := hr 45 (by kernel_rfl)
    have y46 : A.eval (.tmp 46) = undef := hr 46 (by kernel_rfl)
    have y47 : A.eval (.tmp 47) = undef := hr 47 (by kernel_rfl)
    have y48 : A.eval (.tmp 48) = undef := hr 48 (by kernel_rfl)
    have y49 : A.eval (.tmp 49) = undef := hr 49 (by kernel_rfl)
    have y50 : A.eval (.tmp 50) = undef := hr 50 (by kernel_rfl)
    have y51 : A.eval (.tmp 51) = undef := hr 51 (by kernel_rfl)
    have y52 : A.eval (.tmp 52) = undef := hr 52 (by kernel_rfl)
    have y53 : A.eval (.tmp 53) = undef := hr 53 (by kernel_rfl)
    have y54 : A.eval (.tmp 54) = undef := hr 54 (by kernel_rfl)
    rw [act55 hs, hd, y0, y1, y2, y3, y4, y5, y6, y7, y8, y9, y10, y11, y12, y13, y14, y15, y16, y17, y18, y19, y20, y21, y22, y23, y24, y25, y26, y27, y28, y29, y43, y44, y45, y46, y47, y48, y49, y50, y51, y52, y53, y54]
    generalize A.eval (.tmp 30) = x2_30
    generalize A.eval (.tmp 31) = x2_31
    generalize A.eval (.tmp 32) = x2_32
    generalize A.eval (.tmp 33) = x2_33
    generalize A.eval (.tmp 34) = x2_34
    generalize A.eval (.tmp 35) = x2_35
    generalize A.eval (.tmp 36) = x2_36
    generalize A.eval (.tmp 37) = x2_37
    generalize A.eval (.tmp 38) = x2_38
    generalize A.eval (.tmp 39) = x2_39
    generalize A.eval (.tmp 40) = x2_40
    generalize A.eval (.tmp 41) = x2_41
    generalize A.eval (.tmp 42) = x2_42
    clear hr hs hd y0 y1 y2 y3 y4 y5 y6 y7 y8 y9 y10 y11 y12 y13 y14 y15 y16 y17 y18 y19 y20 y21 y22 y23 y24 y25 y26 y27 y28 y29 y43 y44 y45 y46 y47 y48 y49 y50 y51 y52 y53 y54
    clear hb2 hun ho1 ho2 hE hbox2 HBOX HU HV
    refine hKf _ _ ?_
    clear hKf
    go_wp2_with fail
    rename_i Kf hKf
    refine done33_8' (B := w.heap.size) (S0 := w4.heap.size) (b := b) (gN := g1) (gU := g2) (p := w2.heap.size) (xs := ⟨(Lib.decDigits z).toArray⟩) (by kernel_rfl) rfl (by omega) (by omega) (by omega) (by omega) HBOX4.out HO1.out HO2.out (by omega) (by omega) (by omega) (by omega) HT4.out rfl rfl rfl (fun A w5 g1' c1' g2' c2' hd hs hr hb2 hun hbox2 hg1' ho1 hg2' ho2 => ?_)
    have hz5 : w4.heap.size ≤ w5.heap.size := hb2.size
    have hRv2 := (hun (w.heap.size + 1) (by omega) (by omega) (by omega) (by omega)).trans HR4.out
    have HB5 := Lib.hid (HB4.out.trans (hb2.mono (Nat.le_refl _)))
    have HO1' := Lib.hid ho1
    have HO2' := Lib.hid ho2
    have HEP := Lib.hid (show w5.ownsRow w3.heap.size 27 5 (.slice (some ⟨gp, 0, none⟩) (platK v) cp) (platK v) (platXS a o v) from HE.out.1.1.far fun k hk => by
      obtain rfl : gp = k := by simpa [Value.ownBlock] using hk
      exact hun gp hlp.2 (by omega) hp1 HE.out.2)
    have HEQ := Lib.hid (show w5.ownsRow w3.heap.size 9 1 (.slice (some ⟨gq, 0, none⟩) (platK v) cq) (platK v) (platNS v) from HE.out.1.2.far fun k hk => by
      obtain rfl : gq = k := by simpa [Value.ownBlock] using hk
      exact hun gq hlq.2 (by omega) hq1 hq2)
    have y0 : A.eval (.tmp 0) = .agg #[.string m, .string n, .int .i64 (z : Int), .string a, .string o, .string v] := hr 0 (by kernel_rfl)
    have y1 : A.eval (.tmp 1) = .pointer (some ⟨w.heap.size, 0, none⟩) := hr 1 (by kernel_rfl)
    have y2 : A.eval (.tmp 2) = .pointer (some ⟨w.heap.size + 1, 0, none⟩) := hr 2 (by kernel_rfl)
    have y3 : A.eval (.tmp 3) = .nilIface := hr 3 (by kernel_rfl)
    have y4 : A.eval (.tmp 4) = .nilIface := hr 4 (by kernel_rfl)
    have y5 : A.eval (.tmp 5) = .pointer (some ⟨w2.heap.size, 0, none⟩) := hr 5 (by kernel_rfl)
    have y6 : A.eval (.tmp 6) = .pointer (some ⟨b, 0, none⟩) := hr 6 (by kernel_rfl)
    have y7 : A.eval (.tmp 7) = .agg #[.string m, .string n, .int .i64 (z : Int), .string a, .string o, .string v] := hr 7 (by kernel_rfl)
    have y8 : A.eval (.tmp 8) = .nilIface := hr 8 (by kernel_rfl)
    have y9 : A.eval (.tmp 9) = .nilIface := hr 9 (by kernel_rfl)
    have y10 : A.eval (.tmp 10) = .bool false := hr 10 (by kernel_rfl)
    have y11 : A.eval (.tmp 11) = undef := hr 11 (by kernel_rfl)
    have y12 : A.eval (.tmp 12) = undef := hr 12 (by kernel_rfl)
    have y13 : A.eval (.tmp 13) = .pointer (some ⟨w.heap.size, 2, none⟩) := hr 13 (by kernel_rfl)
    have y14 : A.eval (.tmp 14) = .int .i64 (z : Int) := hr 14 (by kernel_rfl)
    have y15 : A.eval (.tmp 15) = .string ⟨(Lib.decDigits z).toArray⟩ := hr 15 (by kernel_rfl)
    have y16 : A.eval (.tmp 16) = .agg #[.int .i64 2, .bool false, .string ⟨(Lib.decDigits z).toArray⟩, .slice none 0 0, .slice none 0 0] := hr 16 (by kernel_rfl)
    have y17 : A.eval (.tmp 17) = x1_17 := hr 17 (by kernel_rfl)
    have y18 : A.eval (.tmp 18) = x1_18 := hr 18 (by kernel_rfl)
    have y19 : A.eval (.tmp 19) = x1_19 := hr 19 (by kernel_rfl)
    have y20 : A.eval (.tmp 20) = x1_20 := hr 20 (by kernel_rfl)
    have y21 : A.eval (.tmp 21) = x1_21 := hr 21 (by kernel_rfl)
    have y22 : A.eval (.tmp 22) = x1_22 := hr 22 (by kernel_rfl)
    have y23 : A.eval (.tmp 23) = x1_23 := hr 23 (by kernel_rfl)
    have y24 : A.eval (.tmp 24) = x1_24 := hr 24 (by kernel_rfl)
    have y25 : A.eval (.tmp 25) = x1_25 := hr 25 (by kernel_rfl)
    have y26 : A.eval (.tmp 26) = .pointer (some ⟨w.heap.size, 3, none⟩) := hr 26 (by kernel_rfl)
    have y27 : A.eval (.tmp 27) = .agg #[.string a, .string o, .string v] := hr 27 (by kernel_rfl)
    have y28 : A.eval (.tmp 28) = .agg #[.string ⟨#[]⟩, .string ⟨#[]⟩, .string ⟨#[]⟩] := hr 28 (by kernel_rfl)
    have y29 : A.eval (.tmp 29) = .bool true := hr 29 (by kernel_rfl)
    have y30 : A.eval (.tmp 30) = x2_30 := hr 30 (by kernel_rfl)
    have y31 : A.eval (.tmp 31) = x2_31 := hr 31 (by kernel_rfl)
    have y32 : A.eval (.tmp 32) = x2_32 := hr 32 (by kernel_rfl)
    have y33 : A.eval (.tmp 33) = x2_33 := hr 33 (by kernel_rfl)
    have y34 : A.eval (.tmp 34) = x2_34 := hr 34 (by kernel_rfl)
    have y35 : A.eval (.tmp 35) = x2_35 := hr 35 (by kernel_rfl)
    have y36 : A.eval (.tmp 36) = x2_36 := hr 36 (by kernel_rfl)
    have y37 : A.eval (.tmp 37) = x2_37 := hr 37 (by kernel_rfl)
    have y38 : A.eval (.tmp 38) = x2_38 := hr 38 (by kernel_rfl)
    have y39 : A.eval (.tmp 39) = x2_39 := hr 39 (by kernel_rfl)
    have y40 : A.eval (.tmp 40) = x2_40 := hr 40 (by kernel_rfl)
    have y41 : A.eval (.tmp 41) = x2_41 := hr 41 (by kernel_rfl)
    have y42 : A.eval (.tmp 42) = x2_42 := hr 42 (by kernel_rfl)
    have y54 : A.eval (.tmp 54) = undef := hr 54 (by kernel_rfl)
    rw [act55 hs, hd, y0, y1, y2, y3, y4, y5, y6, y7, y8, y9, y10, y11, y12, y13, y14, y15, y16, y17, y18, y19, y20, y21, y22, y23, y24, y25, y26, y27, y28, y29, y30, y31, y32, y33, y34, y35, y36, y37, y38, y39, y40, y41, y42, y54]
    generalize A.eval (.tmp 43) = x3_43
    generalize A.eval (.tmp 44) = x3_44
    generalize A.eval (.tmp 45) = x3_45
    generalize A.eval (.tmp 46) = x3_46
    generalize A.eval (.tmp 47) = x3_47
    generalize A.eval (.tmp 48) = x3_48
    generalize A.eval (.tmp 49) = x3_49
    generalize A.eval (.tmp 50) = x3_50
    generalize A.eval (.tmp 51) = x3_51
    generalize A.eval (.tmp 52) = x3_52
    generalize A.eval (.tmp 53) = x3_53
    clear hr hs hd y0 y1 y2 y3 y4 y5 y6 y7 y8 y9 y10 y11 y12 y13 y14 y15 y16 y17 y18 y19 y20 y21 y22 y23 y24 y25 y26 y27 y28 y29 y30 y31 y32 y33 y34 y35 y36 y37 y38 y39 y40 y41 y42 y54
    clear hb2 hun ho1 ho2
    refine hKf _ _ ?_
    clear hKf
    have cB := fun o => cell_of_row w5 b o _ 27 (0, 0) hbox2
    have cR := fun o => cell_of_row w5 (w.heap.size + 1) o _ 27 (0, 0) hRv2
    have fR : ∀ o, w5.frozen? ⟨w.heap.size + 1, o, none⟩ = false := fun o => by simp [World.frozen?, hRv2]
    have lR : w.heap.size + 1 < w5.heap.size := by omega
    have nRb : ¬ w.heap.size + 1 = b := by omega
    have nbR : ¬ b = w.heap.size + 1 := by omega
    clear hRv2 hbox2
    go_wp2
    refine bodyPost_ret (v := .tuple #[.agg #[.int .i64 5, .bool false, .string ⟨#[]⟩, .slice (some ⟨g2', 0, none⟩) 4 c2', .slice (some ⟨g1', 0, none⟩) 4 c1'], .nilIface]) (by simp [results, Tryz.results33, go_sem, cR, fR, lR]) rfl ?_
    refine ⟨[.int .i64 5, .bool false, .string ⟨#[]⟩, .slice (some ⟨g2', 0, none⟩) 4 c2', .slice (some ⟨g1', 0, none⟩) 4 c1'], rfl, ?_, ?_⟩
    · unfold descVal
      rw [show eB _ = false from ha']
      refine rep_of_own (base := w.heap.size) (e := 27) (XS := [.int .i64 3, .bool false, .string n, .slice none 0 0, .slice none 0 0, .int .i64 3, .bool false, .string m, .slice none 0 0, .slice none 0 0, .int .i64 5, .bool false, .string ⟨#[]⟩, .slice (some ⟨gp, 0, none⟩) (platK v) cp, .slice (some ⟨gq, 0, none⟩) (platK v) cq, .int .i64 2, .bool false, .string ⟨(Lib.decDigits z).toArray⟩, .slice none 0 0, .slice none 0 0]) (by (repeat (refine set_own ?_ (fun e => by simp [Value.ownBlock] at e; omega))); exact HO2'.out) (by (repeat (refine set_own ?_ (fun e => by simp [Value.ownBlock] at e; omega))); exact HO1'.out) (fun i hi => ?_)
      match i, hi with
      | 0, _ => exact rep_leaf _ _ _ _ _
      | 1, _ => exact rep_leaf _ _ _ _ _
      | 2, _ => exact rep_plat (base := w3.heap.size) (by (repeat (refine set_own ?_ (fun e => by simp [Value.ownBlock] at e; omega))); exact HEP.out) (by (repeat (refine set_own ?_ (fun e => by simp [Value.ownBlock] at e; omega))); exact HEQ.out)
      | 3, _ => exact rep_leaf _ _ _ _ _
      | k + 4, h => exact absurd h (by simp)
    · (repeat (first | with_reducible refine Below.setCell ?_ (by simp) _))
      exact HB5.out
end Go.Proofs.YtoimjnmhinfbkaaGreatDoor
