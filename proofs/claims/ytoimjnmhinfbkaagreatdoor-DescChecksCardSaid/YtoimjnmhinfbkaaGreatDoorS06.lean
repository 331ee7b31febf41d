import Derived.Deep.AppendLies
import Derived.OrdersHeld
import Derived.Test.YtoimjnmhinfbkaaGreatDoorS04
import Derived.Test.YtoimjnmhinfbkaaGreatDoorS05
namespace Go.Proofs.YtoimjnmhinfbkaaGreatDoor
open Go.RowKit
set_option maxRecDepth 100000
theorem to_met2 {J K : Go.Act → World → Prop} {P : Go.Act → World → Prop} {Q : Exit → Go.Act → World → Prop} {a : Go.Act} {w : World} (k : ∀ a w, Met J a w → K a w) (h : ∀ a w, P a w → J a w) (hp : P a w) : Exit.then K Q Exit.normal a w := k _ _ (Met.intro (h _ _ hp))
structure PMid (w : World) (v : V) (A : Option Addr) (ca : Nat) (B : Option Addr) (cb : Nat) (p a o : ByteArray) (g : Nat) (wx : World) : Prop where
  below : Below w.heap.size w wx
  lo : w.heap.size + 1 < g
  hi : g < wx.heap.size
  box : wx.heap[w.heap.size]? = some (.cells #[.int .i64 v.kind, .bool v.tr, .string v.text, .slice A v.list.length ca, .slice B v.names.length cb, .string p] 32 (0, 0))
  res : wx.heap[w.heap.size + 1]? = some (.cells #[.string ⟨#[]⟩, .string ⟨#[]⟩, .string ⟨#[]⟩] 60 (0, 0))
  cur : wx.heap[g]? = some (.cells #[.string a, .string o, .string ⟨#[]⟩] 60 (0, 0))
theorem pmid_alloc {w w2 : World} {v : V} {A : Option Addr} {ca : Nat} {B : Option Addr} {cb : Nat} {p a o : ByteArray} (hb : Below w.heap.size w w2) (hz : w.heap.size + 1 < w2.heap.size)
    (hk : w2.heap[w.heap.size]? = some (.cells #[.int .i64 v.kind, .bool v.tr, .string v.text, .slice A v.list.length ca, .slice B v.names.length cb, .string p] 32 (0, 0)))
    (hr : w2.heap[w.heap.size + 1]? = some (.cells #[.string ⟨#[]⟩, .string ⟨#[]⟩, .string ⟨#[]⟩] 60 (0, 0))) :
    PMid w v A ca B cb p a o w2.heap.size (w2.alloc (.cells #[.string a, .string o, .string ⟨#[]⟩] 60)) :=
  ⟨hb.alloc (by omega) _, hz, by simp, (alloc_before (by omega)).trans hk, (alloc_before (by omega)).trans hr, alloc_at rfl⟩
theorem pmid_set {w w2 : World} {v : V} {A : Option Addr} {ca : Nat} {B : Option Addr} {cb : Nat} {p a o : ByteArray} {g : Nat} (hb : Below w.heap.size w w2) (hz : w.heap.size + 1 < g)
    (hk : w2.heap[w.heap.size]? = some (.cells #[.int .i64 v.kind, .bool v.tr, .string v.text, .slice A v.list.length ca, .slice B v.names.length cb, .string p] 32 (0, 0)))
    (hr : w2.heap[w.heap.size + 1]? = some (.cells #[.string ⟨#[]⟩, .string ⟨#[]⟩, .string ⟨#[]⟩] 60 (0, 0)))
    (hp : w2.heap[g]? = some (.cells #[.string ⟨#[]⟩, .string ⟨#[]⟩, .string ⟨#[]⟩] 60 (0, 0))) :
    PMid w v A ca B cb p a o g (((w2.setCell ⟨g, 0, none⟩ (.string a)).setCell ⟨g, 1, none⟩ (.string o)).setCell ⟨g, 2, none⟩ (.string ⟨#[]⟩)) := by
  have hlt : g < w2.heap.size := (Array.getElem?_eq_some_iff.1 hp).1
  refine ⟨?_, hz, by simp only [setCell_size]; exact hlt, ?_, ?_, ?_⟩
  · exact ((hb.setCell (by show _ ≤ g; omega) _).setCell (by show _ ≤ g; omega) _).setCell (by show _ ≤ g; omega) _
  · rw [Below.heap_setCell _ _ _ _ (by show _ ≠ g; omega), Below.heap_setCell _ _ _ _ (by show _ ≠ g; omega), Below.heap_setCell _ _ _ _ (by show _ ≠ g; omega)]; exact hk
  · rw [Below.heap_setCell _ _ _ _ (by show _ ≠ g; omega), Below.heap_setCell _ _ _ _ (by show _ ≠ g; omega), Below.heap_setCell _ _ _ _ (by show _ ≠ g; omega)]; exact hr
  · exact blk_set (blk_set (blk_set hp 0 _) 1 _) 2 _
set_option maxHeartbeats 4000000 in
theorem plat_good (v : V) (cs : List Value) (p : ByteArray) (w : World) (S : Nat → Prop) (hv : v.Rep w S cs) (hb : v.bulk ≤ 4194304) (hp : p.size ≤ 1000000) (a : ByteArray) (h1 : filledA v p nArch 64 = .ok a) (o : ByteArray) (h2 : filledA v p nOs 64 = .ok o) :
    Calls Tryz.prog 31 #[.agg (cs ++ [Value.string p]).toArray] w (AnsL w IsPlat (platA v p)) := by
  generalize hr : platA v p = r
  have HR := Lib.hid hr
  have HV := Lib.hid hv
  have HK := Lib.hid (filledA_kind h1)
  have HPA := Lib.hid (show platA v p = (match varA v p with | .error b => .error b | .ok x => .ok (a, o, x)) by simp only [platA, h1, h2]; cases varA v p <;> rfl)
  obtain ⟨A, ca, B, cb, rfl, -⟩ := hv.open
  have HA := Lib.hid (fun W (hW : Below w.heap.size w W) => filled_ok v [.int .i64 v.kind, .bool v.tr, .string v.text, .slice A v.list.length ca, .slice B v.names.length cb] p ⟨#[97, 114, 99, 104, 105, 116, 101, 99, 116, 117, 114, 101]⟩ 64 W S (HV.out.agree fun b hb hlt => ⟨hW.block b hlt, hb⟩) hb (by omega) (by decide) a h1)
  have HB := Lib.hid (fun W (hW : Below w.heap.size w W) => filled_ok v [.int .i64 v.kind, .bool v.tr, .string v.text, .slice A v.list.length ca, .slice B v.names.length cb] p ⟨#[111, 115]⟩ 64 W S (HV.out.agree fun b hb hlt => ⟨hW.block b hlt, hb⟩) hb (by omega) (by decide) o h2)
  clear hv h1 h2 hr
  simp only [List.cons_append, List.nil_append] at HA HB ⊢
  go_enter Tryz.func31, Tryz.ntmps31
  go_upto_region 1 with (fail)
  have K0' := alloc_before (o := .cells #[.string ⟨#[]⟩, .string ⟨#[]⟩, .string ⟨#[]⟩] 60) (show w.heap.size < (w.alloc (.cells #[.int .i64 v.kind, .bool v.tr, .string v.text, .slice A v.list.length ca, .slice B v.names.length cb, .string p] 32)).heap.size by simp)
  rw [heap_alloc_new] at K0'
  have R0' := heap_alloc_new (w.alloc (.cells #[.int .i64 v.kind, .bool v.tr, .string v.text, .slice A v.list.length ca, .slice B v.names.length cb, .string p] 32)) (.cells #[.string ⟨#[]⟩, .string ⟨#[]⟩, .string ⟨#[]⟩] 60)
  have HW0 : Below w.heap.size w ((w.alloc (.cells #[.int .i64 v.kind, .bool v.tr, .string v.text, .slice A v.list.length ca, .slice B v.names.length cb, .string p] 32)).alloc (.cells #[.string ⟨#[]⟩, .string ⟨#[]⟩, .string ⟨#[]⟩] 60)) := ((Below.refl _ _).alloc (Nat.le_refl _) _).alloc (by simp) _
  have hs0 : ((w.alloc (.cells #[.int .i64 v.kind, .bool v.tr, .string v.text, .slice A v.list.length ca, .slice B v.names.length cb, .string p] 32)).alloc (.cells #[.string ⟨#[]⟩, .string ⟨#[]⟩, .string ⟨#[]⟩] 60)).heap.size = w.heap.size + 2 := by simp
  rw [show (w.alloc (.cells #[.int .i64 v.kind, .bool v.tr, .string v.text, .slice A v.list.length ca, .slice B v.names.length cb, .string p] 32)).heap.size = w.heap.size + 1 by simp] at R0'
  generalize (w.alloc (.cells #[.int .i64 v.kind, .bool v.tr, .string v.text, .slice A v.list.length ca, .slice B v.names.length cb, .string p] 32)).alloc (.cells #[.string ⟨#[]⟩, .string ⟨#[]⟩, .string ⟨#[]⟩] 60) = W at *
  have HW := Lib.hid HW0
  have K0 := Lib.hid K0'
  have R0 := Lib.hid R0'
  have c0 := fun o => cell_of_row W w.heap.size o _ 32 (0, 0) K0.out
  have n0 : ¬ w.heap.size = W.heap.size := by omega
  have m0 : ¬ W.heap.size = w.heap.size := by omega
  have l0 : w.heap.size < W.heap.size := by omega
  have z0 : w.heap.size + 1 < W.heap.size := by omega
  clear K0' R0' HW0 hs0
  go_cut [3] (fun u3 wx => ∃ g, u3 = .pointer (some ⟨g, 0, none⟩) ∧ PMid w v A ca B cb p a o g wx)
  case first =>
    go_region_held3 (fun w' => w'.cell? ⟨w.heap.size, 0, none⟩ = some (.int .i64 v.kind) ∧ w'.cell? ⟨w.heap.size, 1, none⟩ = some (.bool v.tr) ∧ w'.cell? ⟨w.heap.size, 2, none⟩ = some (.string v.text) ∧ w'.cell? ⟨w.heap.size, 3, none⟩ = some (.slice A v.list.length ca) ∧ w'.cell? ⟨w.heap.size, 4, none⟩ = some (.slice B v.names.length cb) ∧ w'.cell? ⟨w.heap.size, 5, none⟩ = some (.string p))
      (go_keep)
      ((first | (go_at_call 73; (with_reducible refine (HA.out _ ?_).mono ?_); (· ((repeat (first | with_reducible refine Below.drew ?_ | with_reducible refine Below.alloc ?_ (by first | omega | (simp; done) | (simp; omega)) _)); exact HW.out)); rintro e w1 ⟨rfl, hb1⟩; have HB1 := Lib.hid hb1; have z1 : w.heap.size + 1 < w1.heap.size := (by have := hb1.size; first | omega | (simp at this; omega)); have K1 := Lib.hid (show w1.heap[w.heap.size]? = some (.cells #[.int .i64 v.kind, .bool v.tr, .string v.text, .slice A v.list.length ca, .slice B v.names.length cb, .string p] 32 (0, 0)) from (hb1.block _ (by first | omega | (simp; done) | (simp; omega))).trans (by first | exact K0.out | exact ((alloc_before (by first | omega | (simp; done) | (simp; omega))).trans K0.out))); have R1 := Lib.hid (show w1.heap[w.heap.size + 1]? = some (.cells #[.string ⟨#[]⟩, .string ⟨#[]⟩, .string ⟨#[]⟩] 60 (0, 0)) from (hb1.block _ (by first | omega | (simp; done) | (simp; omega))).trans (by first | exact R0.out | exact ((alloc_before (by first | omega | (simp; done) | (simp; omega))).trans R0.out))); have n1 : ¬ w.heap.size = w1.heap.size := (by omega); have m1 : ¬ w1.heap.size = w.heap.size := (by omega); have c1 := (fun o => cell_of_row w1 w.heap.size o _ 32 (0, 0) K1.out); have l1 : w.heap.size < w1.heap.size := (by omega); have q1 := hb1.size; (try simp at q1); (try (have P1 : w1.heap[W.heap.size]? = some (.cells #[.string ⟨#[]⟩, .string ⟨#[]⟩, .string ⟨#[]⟩] 60 (0, 0)) := (hb1.block _ (by first | omega | (simp; done) | (simp; omega))).trans (by first | exact alloc_at rfl | exact P1); have pc1 := (fun o => cell_of_row w1 W.heap.size o _ 60 (0, 0) P1); have pf1 : ∀ o, w1.frozen? ⟨W.heap.size, o, none⟩ = false := (fun o => by simp [World.frozen?, P1]); have pn1 : ¬ w.heap.size = W.heap.size := (by omega))); clear hb1) | (go_at_call 73; (with_reducible refine (HB.out _ ?_).mono ?_); (· ((repeat (first | with_reducible refine Below.drew ?_ | with_reducible refine Below.alloc ?_ (by first | omega | (simp; done) | (simp; omega)) _)); refine Below.trans ?_ (HB1.out.mono (by first | omega | (simp; done) | (simp; omega))); (repeat (first | with_reducible refine Below.drew ?_ | with_reducible refine Below.alloc ?_ (by first | omega | (simp; done) | (simp; omega)) _)); exact HW.out)); rintro e w2 ⟨rfl, hb2⟩; have HB2 := Lib.hid hb2; have z2 : w.heap.size + 1 < w2.heap.size := (by have := hb2.size; first | omega | (simp at this; omega)); have K2 := Lib.hid (show w2.heap[w.heap.size]? = some (.cells #[.int .i64 v.kind, .bool v.tr, .string v.text, .slice A v.list.length ca, .slice B v.names.length cb, .string p] 32 (0, 0)) from (hb2.block _ (by first | omega | (simp; done) | (simp; omega))).trans (by first | exact K1.out | exact ((alloc_before (by first | omega | (simp; done) | (simp; omega))).trans K1.out))); have R2 := Lib.hid (show w2.heap[w.heap.size + 1]? = some (.cells #[.string ⟨#[]⟩, .string ⟨#[]⟩, .string ⟨#[]⟩] 60 (0, 0)) from (hb2.block _ (by first | omega | (simp; done) | (simp; omega))).trans (by first | exact R1.out | exact ((alloc_before (by first | omega | (simp; done) | (simp; omega))).trans R1.out))); have n2 : ¬ w.heap.size = w2.heap.size := (by omega); have m2 : ¬ w2.heap.size = w.heap.size := (by omega); have c2 := (fun o => cell_of_row w2 w.heap.size o _ 32 (0, 0) K2.out); have l2 : w.heap.size < w2.heap.size := (by omega); have q2 := hb2.size; (try simp at q2); (try (have P2 : w2.heap[W.heap.size]? = some (.cells #[.string ⟨#[]⟩, .string ⟨#[]⟩, .string ⟨#[]⟩] 60 (0, 0)) := (hb2.block _ (by first | omega | (simp; done) | (simp; omega))).trans (by first | exact alloc_at rfl | exact P1); have pc2 := (fun o => cell_of_row w2 W.heap.size o _ 60 (0, 0) P2); have pf2 : ∀ o, w2.frozen? ⟨W.heap.size, o, none⟩ = false := (fun o => by simp [World.frozen?, P2]); have pn2 : ¬ w.heap.size = W.heap.size := (by omega))); (try (have P2 : w2.heap[w1.heap.size]? = some (.cells #[.string ⟨#[]⟩, .string ⟨#[]⟩, .string ⟨#[]⟩] 60 (0, 0)) := (hb2.block _ (by first | omega | (simp; done) | (simp; omega))).trans (by exact alloc_at rfl); have pc2 := (fun o => cell_of_row w2 w1.heap.size o _ 60 (0, 0) P2); have pf2 : ∀ o, w2.frozen? ⟨w1.heap.size, o, none⟩ = false := (fun o => by simp [World.frozen?, P2]))); clear hb2)))
    all_goals
      refine to_met2 (by assumption) (by assumption) ?_
      (repeat apply Exists.intro)
      refine ⟨?_, rfl⟩
      refine ⟨_, rfl, ?_⟩
      first | exact pmid_alloc (by ((repeat (first | with_reducible refine Below.drew ?_ | with_reducible refine Below.alloc ?_ (by first | omega | (simp; done) | (simp; omega)) _)); refine Below.trans ?_ (HB2.out.mono (by first | omega | (simp; done) | (simp; omega))); (repeat (first | with_reducible refine Below.drew ?_ | with_reducible refine Below.alloc ?_ (by first | omega | (simp; done) | (simp; omega)) _)); refine Below.trans ?_ (HB1.out.mono (by first | omega | (simp; done) | (simp; omega))); (repeat (first | with_reducible refine Below.drew ?_ | with_reducible refine Below.alloc ?_ (by first | omega | (simp; done) | (simp; omega)) _)); exact HW.out)) z2 K2.out R2.out | exact pmid_set (by ((repeat (first | with_reducible refine Below.drew ?_ | with_reducible refine Below.alloc ?_ (by first | omega | (simp; done) | (simp; omega)) _)); refine Below.trans ?_ (HB2.out.mono (by first | omega | (simp; done) | (simp; omega))); (repeat (first | with_reducible refine Below.drew ?_ | with_reducible refine Below.alloc ?_ (by first | omega | (simp; done) | (simp; omega)) _)); refine Below.trans ?_ (HB1.out.mono (by first | omega | (simp; done) | (simp; omega))); (repeat (first | with_reducible refine Below.drew ?_ | with_reducible refine Below.alloc ?_ (by first | omega | (simp; done) | (simp; omega)) _)); exact HW.out)) (by omega) K2.out R2.out P2
  clear HA HB HW K0 R0 c0 n0 m0 l0 z0
  obtain ⟨g, rfl, hm⟩ := hcut
  have HM := Lib.hid hm
  have c0 := fun o => cell_of_row wc w.heap.size o _ 32 (0, 0) hm.box
  have c1 := fun o => cell_of_row wc (w.heap.size + 1) o _ 60 (0, 0) hm.res
  have c2 := fun o => cell_of_row wc g o _ 60 (0, 0) hm.cur
  have f1 : ∀ o, wc.frozen? ⟨w.heap.size + 1, o, none⟩ = false := fun o => by simp [World.frozen?, hm.res]
  have f2 : ∀ o, wc.frozen? ⟨g, o, none⟩ = false := fun o => by simp [World.frozen?, hm.cur]
  have l1 := hm.lo
  have l2 := hm.hi
  have n1 : ¬ w.heap.size = g := by omega
  have n2 : ¬ w.heap.size + 1 = g := by omega
  have HMB := Lib.hid (fun W (hW : Below w.heap.size w W) => (HV.out.agree fun b hb hlt => ⟨hW.block b hlt, hb⟩ : v.Rep W S [.int .i64 v.kind, .bool v.tr, .string v.text, .slice A v.list.length ca, .slice B v.names.length cb]))
  clear hm
  cases hmy : v.maybe nVar with
  | none =>
    have hr2 : r = .ok (a, o, ⟨#[]⟩) := by rw [← HR.out, HPA.out]; simp only [varA, hmy]
    have HR2 := Lib.hid hr2
    have HY := Lib.hid hmy
    clear hr2 hmy
    go_wp2_with fail
    refine (maybe_none v [.int .i64 v.kind, .bool v.tr, .string v.text, .slice A v.list.length ca, .slice B v.names.length cb] p ⟨#[118, 97, 114, 105, 97, 110, 116]⟩ _ S (HMB.out _ HM.out.below) hb HK.out (by omega) (by decide) HY.out).mono ?_
    rintro e w3 ⟨rfl, hb3⟩
    have HB3 := Lib.hid hb3
    have e2 := fun o => cell_of_row w3 g o _ 60 (0, 0) ((hb3.block g (by omega)).trans HM.out.cur)
    have e1b := (hb3.block (w.heap.size + 1) (by omega)).trans HM.out.res
    have e1 := fun o => cell_of_row w3 (w.heap.size + 1) o _ 60 (0, 0) e1b
    have g1 : ∀ o, w3.frozen? ⟨w.heap.size + 1, o, none⟩ = false := fun o => by simp [World.frozen?, e1b]
    have m1 : w.heap.size + 1 < w3.heap.size := by have := hb3.size; omega
    have m2 : g < w3.heap.size := by have := hb3.size; omega
    clear hb3 e1b c0 c1 c2 f1 f2
    go_wp2
    refine bodyPost_ret (v := .agg #[.string a, .string o, .string ⟨#[]⟩]) (by simp [results, Tryz.results31, go_sem, e1, e2, g1, m1, m2]) rfl ?_
    refine AnsL.ok (a, o, (⟨#[]⟩ : ByteArray)) _ HR2.out rfl ?_
    (repeat (first | with_reducible refine Below.setCell ?_ (by first | omega | (simp; done) | (simp; omega)) _ | with_reducible refine Below.drew ?_ | with_reducible refine Below.alloc ?_ (by first | omega | (simp; done) | (simp; omega)) _))
    exact HM.out.below.trans (HB3.out.mono (by omega))
  | some u =>
    have hub : u.bulk ≤ 4194304 := by have := V.get_bulk (V.maybe_get hmy); omega
    have HY := Lib.hid hmy
    have HPB := Lib.hid (show platA v p = (match textA u (fieldPlace p nVar) 64 with | .error b => .error b | .ok x => .ok (a, o, x)) by rw [HPA.out]; simp only [varA, hmy])
    clear hmy
    go_wp2_with fail
    refine (maybe_some v u [.int .i64 v.kind, .bool v.tr, .string v.text, .slice A v.list.length ca, .slice B v.names.length cb] p ⟨#[118, 97, 114, 105, 97, 110, 116]⟩ _ S (HMB.out _ HM.out.below) hb HK.out (by omega) (by decide) HY.out).mono ?_
    rintro e w3 ⟨cs3, rfl, hrep3, hb3⟩
    obtain ⟨A3, ca3, B3, cb3, rfl, -⟩ := hrep3.open
    have HB3 := Lib.hid hb3
    have e2b := (hb3.block g (by omega)).trans HM.out.cur
    have e1b := (hb3.block (w.heap.size + 1) (by omega)).trans HM.out.res
    have E2 := Lib.hid e2b
    have E1 := Lib.hid e1b
    have hsz3 : wc.heap.size ≤ w3.heap.size := hb3.size
    clear hb3 e1b e2b c0 c1 c2 f1 f2 hrep3
    go_wp2_with fail
    refine (ltext_any u A3 _ ca3 B3 _ cb3 (fieldPlace p ⟨#[118, 97, 114, 105, 97, 110, 116]⟩) 64 _ hub).mono ?_
    rintro e w4 h4
    cases ht : textA u (fieldPlace p ⟨#[118, 97, 114, 105, 97, 110, 116]⟩) 64 with
    | error b =>
      rw [ht] at h4
      obtain ⟨c, q⟩ := b
      have HR2 := Lib.hid (show r = .error (c, q) by rw [← HR.out, HPB.out]; unfold nVar; simp only [ht])
      obtain ⟨gg, rfl, hth⟩ := h4
      clear ht
      go_wp2
      exact ⟨rfl, AnsL.bad c q HR2.out (Threw.of ⟨gg, rfl, hth⟩ ((HM.out.below.trans (HB3.out.mono (by omega))).alloc (by omega) _))⟩
    | ok x =>
      rw [ht] at h4
      obtain ⟨val, rfl, rfl, hb4⟩ := h4
      have HR2 := Lib.hid (show r = .ok (a, o, x) by rw [← HR.out, HPB.out]; unfold nVar; simp only [ht])
      have HB4 := Lib.hid hb4
      have hs4 : w3.heap.size + 1 ≤ w4.heap.size := by have := hb4.size; simpa using this
      have d2b := (hb4.block g (by simp; omega)).trans ((alloc_before (by omega)).trans E2.out)
      have d1b := (hb4.block (w.heap.size + 1) (by simp; omega)).trans ((alloc_before (by omega)).trans E1.out)
      have d2 := fun o => cell_of_row w4 g o _ 60 (0, 0) d2b
      have d1 := fun o => cell_of_row w4 (w.heap.size + 1) o _ 60 (0, 0) d1b
      have y1 : ∀ o, w4.frozen? ⟨w.heap.size + 1, o, none⟩ = false := fun o => by simp [World.frozen?, d1b]
      have y2 : ∀ o, w4.frozen? ⟨g, o, none⟩ = false := fun o => by simp [World.frozen?, d2b]
      have n3 : ¬ g = w.heap.size + 1 := by omega
      clear ht hb4 d1b d2b
      go_wp2
      refine bodyPost_ret (v := .agg #[.string a, .string o, .string x]) (by simp [results, Tryz.results31, go_sem, d1, d2, y1, y2, n2, n3]) rfl ?_
      refine AnsL.ok (a, o, x) _ HR2.out rfl ?_
      (repeat (first | with_reducible refine Below.setCell ?_ (by first | omega | (simp; done) | (simp; omega)) _ | with_reducible refine Below.drew ?_ | with_reducible refine Below.alloc ?_ (by first | omega | (simp; done) | (simp; omega)) _))
      exact ((HM.out.below.trans (HB3.out.mono (by omega))).alloc (by omega) _).trans (HB4.out.mono (by simp; omega))
end Go.Proofs.YtoimjnmhinfbkaaGreatDoor

namespace Go.Proofs.YtoimjnmhinfbkaaGreatDoor
open Go.RowKit
set_option maxRecDepth 100000
/-- what holds behind Copy's first statement: the copy's own block g, its names in a row of their own. -/
structure CpStart (w : World) (k : Int) (t : Bool) (x : ByteArray) (A : Option Addr) (n ca : Nat) (B : Option Addr) (ns : List ByteArray) (cb : Nat) (g : Nat) (nv : Value) (wx : World) : Prop where
  below : Below w.heap.size w wx
  lo : w.heap.size + 1 < g
  hi : g < wx.heap.size
  box : wx.heap[w.heap.size]? = some (.cells #[.int .i64 k, .bool t, .string x, .slice A n ca, .slice B ns.length cb] 43 (0, 0))
  res : wx.heap[w.heap.size + 1]? = some (.cells #[.int .i64 0, .bool false, .string ⟨#[]⟩, .slice none 0 0, .slice none 0 0] 43 (0, 0))
  cur : wx.heap[g]? = some (.cells #[.int .i64 k, .bool t, .string x, .slice none 0 0, nv] 43 (0, 0))
  own : wx.ownsRow (w.heap.size + 2) 9 1 nv ns.length (ns.map Value.string)
  ne : some g ≠ nv.ownBlock
theorem _root_.Go.World.ownsRow.apart {w w' : World} {base : Nat} {e : TypeId} {size : Nat} {v : Value} {n : Nat} {xs : List Value} {T : Nat} (h : w.ownsRow base e size v n xs) (hne : v.ownBlock ≠ some T) (far : ∀ b, b ≠ T → w'.heap[b]? = w.heap[b]?) (hs : w.heap.size ≤ w'.heap.size) : w'.ownsRow base e size v n xs := by
  obtain ⟨hl, ⟨rfl, rfl⟩ | ⟨g, cap, cur, rfl, hb, hg, hn, hm, hc, ht⟩⟩ := h
  · exact ⟨hl, .inl ⟨rfl, rfl⟩⟩
  · exact ⟨hl, .inr ⟨g, cap, cur, rfl, hb, (far g (fun e => hne (by simp [Value.ownBlock, e]))).trans hg, hn, hm, hc, ht⟩⟩
section
variable {w W : World} {k : Int} {t : Bool} {x : ByteArray} {A : Option Addr} {n ca : Nat} {B : Option Addr} {cb : Nat} {ns : List ByteArray}
theorem cpstart_a (hb : Below w.heap.size w W) (hz : W.heap.size = w.heap.size + 2) (hx : W.heap[w.heap.size]? = some (.cells #[.int .i64 k, .bool t, .string x, .slice A n ca, .slice B 0 cb] 43 (0, 0)))
    (hr : W.heap[w.heap.size + 1]? = some (.cells #[.int .i64 0, .bool false, .string ⟨#[]⟩, .slice none 0 0, .slice none 0 0] 43 (0, 0))) :
    CpStart w k t x A n ca B [] cb (w.heap.size + 2 + 1) (.slice (some ⟨w.heap.size + 2, 0, none⟩) 0 0) (((W.alloc (.cells #[] 9)).alloc (.cells #[.int .i64 k, .bool t, .string x, .slice none 0 0, .slice (some ⟨w.heap.size + 2, 0, none⟩) 0 0] 43)).drew) := by
  have ho := World.ownsRow_made (base := w.heap.size + 2) (e := 9) (size := 1) W #[] 0 (by omega) (by decide) rfl
  rw [hz] at ho
  exact ⟨((hb.alloc (by omega) _).alloc (by simp; omega) _).drew, by omega, by show _ < ((W.alloc _).alloc _).heap.size; simp; omega,
    (alloc_before (by simp; omega)).trans ((alloc_before (by omega)).trans hx), (alloc_before (by simp; omega)).trans ((alloc_before (by omega)).trans hr), alloc_at (by simp; omega), (ho.alloc _).drew, by simp [Value.ownBlock]⟩
theorem cpstart_b (hb : Below w.heap.size w W) (hz : W.heap.size = w.heap.size + 2) (hx : W.heap[w.heap.size]? = some (.cells #[.int .i64 k, .bool t, .string x, .slice A n ca, .slice B 0 cb] 43 (0, 0)))
    (hr : W.heap[w.heap.size + 1]? = some (.cells #[.int .i64 0, .bool false, .string ⟨#[]⟩, .slice none 0 0, .slice none 0 0] 43 (0, 0))) :
    CpStart w k t x A n ca B [] cb (w.heap.size + 2) (.slice (some ⟨w.heap.size + 2 + 1, 0, none⟩) 0 0) (((W.alloc (.cells #[.int .i64 k, .bool t, .string x, .slice none 0 0, .slice (some ⟨w.heap.size + 2 + 1, 0, none⟩) 0 0] 43)).alloc (.cells #[] 9)).drew) := by
  have ho := World.ownsRow_made (base := w.heap.size + 2) (e := 9) (size := 1) (W.alloc (.cells #[.int .i64 k, .bool t, .string x, .slice none 0 0, .slice (some ⟨w.heap.size + 2 + 1, 0, none⟩) 0 0] 43)) #[] 0 (by simp; omega) (by decide) rfl
  rw [show (W.alloc (.cells #[.int .i64 k, .bool t, .string x, .slice none 0 0, .slice (some ⟨w.heap.size + 2 + 1, 0, none⟩) 0 0] 43)).heap.size = w.heap.size + 2 + 1 by simp; omega] at ho
  exact ⟨((hb.alloc (by omega) _).alloc (by simp; omega) _).drew, by omega, by show _ < ((W.alloc _).alloc _).heap.size; simp; omega,
    (alloc_before (by simp; omega)).trans ((alloc_before (by omega)).trans hx), (alloc_before (by simp; omega)).trans ((alloc_before (by omega)).trans hr), (alloc_before (by simp; omega)).trans (alloc_at (by omega)), ho.drew, by simp [Value.ownBlock]⟩
theorem cpstart_c {w4 : World} {nv : Value} (hb : Below w.heap.size w w4) (hz : w.heap.size + 1 < w4.heap.size) (hx : w4.heap[w.heap.size]? = some (.cells #[.int .i64 k, .bool t, .string x, .slice A n ca, .slice B ns.length cb] 43 (0, 0)))
    (hr : w4.heap[w.heap.size + 1]? = some (.cells #[.int .i64 0, .bool false, .string ⟨#[]⟩, .slice none 0 0, .slice none 0 0] 43 (0, 0))) (ho : w4.ownsRow (w.heap.size + 2) 9 1 nv ns.length (ns.map Value.string)) :
    CpStart w k t x A n ca B ns cb w4.heap.size nv (w4.alloc (.cells #[.int .i64 k, .bool t, .string x, .slice none 0 0, nv] 43)) :=
  ⟨hb.alloc (by omega) _, hz, by simp, (alloc_before (by omega)).trans hx, (alloc_before (by omega)).trans hr, alloc_at rfl, ho.alloc _, fun e => by have := (ho.lt _ e.symm).2; omega⟩
theorem cpstart_d {w4 : World} {nv : Value} {T : Nat} (hb : Below w.heap.size w w4) (hz : w.heap.size + 1 < T) (hx : w4.heap[w.heap.size]? = some (.cells #[.int .i64 k, .bool t, .string x, .slice A n ca, .slice B ns.length cb] 43 (0, 0)))
    (hr : w4.heap[w.heap.size + 1]? = some (.cells #[.int .i64 0, .bool false, .string ⟨#[]⟩, .slice none 0 0, .slice none 0 0] 43 (0, 0))) (hT : w4.heap[T]? = some (.cells #[.int .i64 0, .bool false, .string ⟨#[]⟩, .slice none 0 0, .slice none 0 0] 43 (0, 0))) (ho : w4.ownsRow (w.heap.size + 2) 9 1 nv ns.length (ns.map Value.string)) (hne : some T ≠ nv.ownBlock) :
    CpStart w k t x A n ca B ns cb T nv (((((w4.setCell ⟨T, 0, none⟩ (.int .i64 k)).setCell ⟨T, 1, none⟩ (.bool t)).setCell ⟨T, 2, none⟩ (.string x)).setCell ⟨T, 3, none⟩ (.slice none 0 0)).setCell ⟨T, 4, none⟩ nv) := by
  have hlt : T < w4.heap.size := (Array.getElem?_eq_some_iff.1 hT).1
  have far : ∀ b, b ≠ T → (((((w4.setCell ⟨T, 0, none⟩ (.int .i64 k)).setCell ⟨T, 1, none⟩ (.bool t)).setCell ⟨T, 2, none⟩ (.string x)).setCell ⟨T, 3, none⟩ (.slice none 0 0)).setCell ⟨T, 4, none⟩ nv).heap[b]? = w4.heap[b]? := fun b hb => by
    rw [Below.heap_setCell _ _ _ _ hb, Below.heap_setCell _ _ _ _ hb, Below.heap_setCell _ _ _ _ hb, Below.heap_setCell _ _ _ _ hb, Below.heap_setCell _ _ _ _ hb]
  refine ⟨?_, hz, by simp only [setCell_size]; exact hlt, (far _ (by omega)).trans hx, (far _ (by omega)).trans hr, blk_set (blk_set (blk_set (blk_set (blk_set hT 0 _) 1 _) 2 _) 3 _) 4 _, ?_, hne⟩
  · exact ((((hb.setCell (by show _ ≤ T; omega) _).setCell (by show _ ≤ T; omega) _).setCell (by show _ ≤ T; omega) _).setCell (by show _ ≤ T; omega) _).setCell (by show _ ≤ T; omega) _
  · exact ho.apart (fun e => hne e.symm) far (by simp only [setCell_size]; exact Nat.le_refl _)
end
/-- a value that owns its list and its names, each in a block of its own, from base on; its elements elsewhere, from base on. -/
def Own (base : Nat) (w : World) (v : V) (cs : List Value) : Prop :=
  ∃ u nv xs, cs = [.int .i64 v.kind, .bool v.tr, .string v.text, u, nv] ∧ w.ownsRow base 43 5 u v.list.length xs ∧ w.ownsRow base 9 1 nv v.names.length (v.names.map Value.string) ∧ (∀ b, nv.ownBlock = some b → u.ownBlock ≠ some b) ∧
    ∀ i, ∀ hi : i < v.list.length, (v.list[i]).Rep w (fun b => base ≤ b ∧ b < w.heap.size ∧ some b ≠ u.ownBlock ∧ some b ≠ nv.ownBlock) ((xs.drop (5 * i)).take 5)
theorem Own.rep {base : Nat} {w : World} {v : V} {cs : List Value} (h : Own base w v cs) : v.Rep w (fun b => base ≤ b ∧ b < w.heap.size) cs := by
  obtain ⟨u, nv, xs, rfl, h1, h2, -, h4⟩ := h
  obtain ⟨A', c', rfl, hc, hl, hr⟩ := own_row h1
  obtain ⟨B', d', rfl, hd, hm, hs⟩ := own_row h2
  cases v with
  | mk k t x l ns =>
    simp only [V.kind, V.tr, V.text, V.list, V.names] at *
    refine ⟨A', c', B', d', rfl, hc, hd, ?_, ?_⟩
    · rcases hs with ⟨rfl, h0⟩ | ⟨g, rfl, hg1, hg2, hg3, -⟩
      · exact .inl (List.eq_nil_of_length_eq_zero h0)
      · exact .inr ⟨g, 0, rfl, ⟨hg1, hg2⟩, hg3⟩
    · rcases hr with ⟨rfl, h0⟩ | ⟨g, rfl, hg1, hg2, hg3, -⟩
      · exact .inl (List.eq_nil_of_length_eq_zero h0)
      · refine .inr ⟨g, 0, rfl, ⟨hg1, hg2⟩, V.Reps.mk fun i hi => ⟨_, row_part hg3 (5 * i) 5, (h4 i hi).agree fun b hb _ => ⟨rfl, hb.1, hb.2.1⟩⟩⟩
def OwnRes (v : V) (w : World) (e : Ending) (w' : World) : Prop :=
  ∃ cs', e = .returned (.agg cs'.toArray) ∧ Own w.heap.size w' v cs' ∧ Below w.heap.size w w'
/-- what holds at the head of Copy's loop. -/
structure CpInv (w : World) (l : List V) (v0 v1 v2 nv : Value) (ns : List ByteArray) (cx : Array Value) (g base : Nat) (u : Value) (j : Nat) (xs : List Value) (wr : World) : Prop where
  below : Below w.heap.size w wr
  lo : w.heap.size + 1 < g
  hi : g < base
  le : base ≤ wr.heap.size
  box : wr.heap[w.heap.size]? = some (.cells cx 43 (0, 0))
  res : wr.heap[w.heap.size + 1]? = some (.cells #[.int .i64 0, .bool false, .string ⟨#[]⟩, .slice none 0 0, .slice none 0 0] 43 (0, 0))
  cur : wr.heap[g]? = some (.cells #[v0, v1, v2, u, nv] 43 (0, 0))
  own : wr.ownsRow base 43 5 u j xs
  names : wr.ownsRow (w.heap.size + 2) 9 1 nv ns.length (ns.map Value.string)
  nlt : ∀ b, nv.ownBlock = some b → b < base ∧ b ≠ g
  reps : ∀ i, i < j → ∀ hi : i < l.length, (l[i]).Rep wr (fun b => base ≤ b ∧ b < wr.heap.size ∧ some b ≠ u.ownBlock) ((xs.drop (5 * i)).take 5)
theorem _root_.Go.World.ownsRow.far {w w' : World} {base : Nat} {e : TypeId} {size : Nat} {v : Value} {n : Nat} {xs : List Value} (h : w.ownsRow base e size v n xs) (far : ∀ b, v.ownBlock = some b → w'.heap[b]? = w.heap[b]?) : w'.ownsRow base e size v n xs := by
  obtain ⟨hl, ⟨rfl, rfl⟩ | ⟨g, cap, cur, rfl, hb, hg, hn, hm, hc, ht⟩⟩ := h
  · exact ⟨hl, .inl ⟨rfl, rfl⟩⟩
  · exact ⟨hl, .inr ⟨g, cap, cur, rfl, hb, (far g (by simp [Value.ownBlock])).trans hg, hn, hm, hc, ht⟩⟩
theorem cp_round {w : World} {l : List V} {v0 v1 v2 nv : Value} {ns : List ByteArray} {cx : Array Value} {gg base : Nat} {u : Value} {j : Nat} {xs : List Value} {wr w3 w4 : World} {o o2 : Obj} {g cap : Nat} {cs : List Value}
    (hI : CpInv w l v0 v1 v2 nv ns cx gg base u j xs wr) (hlt : j < l.length) (hb : Below (wr.alloc o).drew.heap.size (wr.alloc o).drew w3)
    (hv : (l[j]).Rep w3 (fun b => wr.heap.size + 1 ≤ b ∧ b < w3.heap.size) cs) (hg : (w3.alloc o2).grownBy w4 u.ownBlock)
    (hown : w4.ownsRow base 43 5 (.slice (some ⟨g, 0, none⟩) (j + 1) cap) (j + 1) (xs ++ cs)) (hgg : u.ownBlock = some g ∨ g = w3.heap.size + 1) :
    CpInv w l v0 v1 v2 nv ns cx gg base (.slice (some ⟨g, 0, none⟩) (j + 1) cap) (j + 1) (xs ++ cs) (w4.setCell ⟨gg, 3, none⟩ (.slice (some ⟨g, 0, none⟩) (j + 1) cap)) := by
  obtain ⟨i1, i2, i3, i4, i5, i6, i7, i8, i9, i10, i11⟩ := hI
  have hlen := i8.1
  have hs := hb.size
  simp at hs
  have hs4 : w3.heap.size + 1 ≤ w4.heap.size := by have := hg.size; simp at this; exact this
  have hown' := World.ownsRow.lt i8
  have hgl := World.ownsRow.lt hown g rfl
  have b3 : Below w.heap.size w w3 := (((i1.alloc (by omega) o).drew).trans (hb.mono (by simp; omega)))
  have key : ∀ b, b < wr.heap.size → b ≠ gg → some b ≠ u.ownBlock → (w4.setCell ⟨gg, 3, none⟩ (.slice (some ⟨g, 0, none⟩) (j + 1) cap)).heap[b]? = wr.heap[b]? := fun b h1 h2 h3 => by
    rw [Below.heap_setCell _ _ _ b h2, hg.block b (by simp; omega) h3, Below.heap_alloc w3 o2 b (by omega)]
    exact (hb.block b (by simp; omega)).trans (Below.heap_alloc wr o b h1)
  have key3 : ∀ b, b < w3.heap.size → b ≠ gg → some b ≠ u.ownBlock → (w4.setCell ⟨gg, 3, none⟩ (.slice (some ⟨g, 0, none⟩) (j + 1) cap)).heap[b]? = w3.heap[b]? := fun b h1 h2 h3 => by
    rw [Below.heap_setCell _ _ _ b h2, hg.block b (by simp; omega) h3, Below.heap_alloc w3 o2 b (by omega)]
  have hno : ∀ b, b < base → some b ≠ u.ownBlock := fun b hb e => by have := (hown' b e.symm).1; omega
  have h43 : w4.heap[gg]? = some (.cells #[v0, v1, v2, u, nv] 43 (0, 0)) := by
    rw [hg.block _ (by simp; omega) (hno _ (by omega)), Below.heap_alloc w3 o2 _ (by omega)]
    exact (hb.block _ (by simp; omega)).trans ((Below.heap_alloc wr o _ (by omega)).trans i7)
  refine ⟨?_, i2, i3, by rw [setCell_size]; omega, ?_, ?_, ?_, ?_, ?_, i10, ?_⟩
  · exact ((b3.alloc (by omega) o2).grown hg (by simp; omega) (fun k hk => by have := (hown' k hk).1; omega)).setCell (by simp only; omega) _
  · rw [key _ (by omega) (by omega) (hno _ (by omega))]; exact i5
  · rw [key _ (by omega) (by omega) (hno _ (by omega))]; exact i6
  · simpa using blk_set h43 3 (.slice (some ⟨g, 0, none⟩) (j + 1) cap)
  · refine hown.far fun b hb => ?_
    have : b = g := by simpa [Value.ownBlock] using hb.symm
    exact Below.heap_setCell _ _ _ b (by simp only; omega)
  · refine i9.far fun b hb => ?_
    have := i10 b hb
    exact key b (by omega) this.2 (hno b this.1)
  · intro i hi hil
    by_cases hij : i < j
    · have hx : ((xs ++ cs).drop (5 * i)).take 5 = (xs.drop (5 * i)).take 5 := by
        rw [List.drop_append_of_le_length (by omega), List.take_append_of_le_length (by rw [List.length_drop]; omega)]
      rw [hx]
      refine (i11 i hij hil).agree ?_
      rintro b ⟨h1, h2, h3⟩ hlt'
      refine ⟨key b h2 (by omega) h3, h1, by rw [setCell_size]; omega, ?_⟩
      rcases hgg with h | h
      · rw [h] at h3; exact h3
      · intro e; have : b = g := by simpa [Value.ownBlock] using e
        omega
    · obtain rfl : i = j := by omega
      have hx : ((xs ++ cs).drop (5 * i)).take 5 = cs := by
        rw [show 5 * i = xs.length by omega, List.drop_left, List.take_of_length_le (by have := hv.len; omega)]
      rw [hx]
      refine hv.agree ?_
      rintro b ⟨h1, h2⟩ hlt'
      refine ⟨key3 b h2 (by omega) (fun e => by have := (hown' b e.symm).2; omega), by omega, by rw [setCell_size]; omega, ?_⟩
      intro e
      have hbg : b = g := by simpa [Value.ownBlock] using e
      rcases hgg with h | h
      · have := (hown' g h).2; omega
      · omega
/-- what Copy gives back. -/
theorem cp_done {w : World} {k : Int} {t : Bool} {x : ByteArray} {l : List V} {nv : Value} {ns : List ByteArray} {cx : Array Value} {g base : Nat} {u : Value} {xs : List Value} {wr w' : World}
    (hI : CpInv w l (.int .i64 k) (.bool t) (.string x) nv ns cx g base u l.length xs wr) (hal : Also (fun b => b ≠ w.heap.size + 1) wr w') : Own w.heap.size w' (.mk k t x l ns) [.int .i64 k, .bool t, .string x, u, nv] := by
  obtain ⟨i1, i2, i3, i4, i5, i6, i7, i8, i9, i10, i11⟩ := hI
  have hu := World.ownsRow.lt i8
  have hn := World.ownsRow.lt i9
  have hs := hal.size
  have h8 : wr.ownsRow w.heap.size 43 5 u l.length xs := by
    obtain ⟨q1, q2⟩ := i8
    exact ⟨q1, q2.imp id fun ⟨g', c', cur, e1, e2, e3⟩ => ⟨g', c', cur, e1, by omega, e3⟩⟩
  have h9 : wr.ownsRow w.heap.size 9 1 nv ns.length (ns.map Value.string) := by
    obtain ⟨q1, q2⟩ := i9
    exact ⟨q1, q2.imp id fun ⟨g', c', cur, e1, e2, e3⟩ => ⟨g', c', cur, e1, by omega, e3⟩⟩
  refine ⟨u, nv, xs, rfl, ?_, ?_, fun b hb e => by have := (hu b e).1; have := i10 b hb; omega, fun i hi => ?_⟩
  · exact h8.far fun b hb => hal.block b (by have := hu b hb; omega) (by have := hu b hb; omega)
  · exact h9.far fun b hb => hal.block b (by have := hn b hb; omega) (by have := hn b hb; omega)
  · refine (i11 i hi hi).agree ?_
    rintro b ⟨h1, h2, h3⟩ hlt
    exact ⟨hal.block b (by omega) h2, by omega, by omega, h3, fun e => by have := i10 b e.symm; omega⟩
set_option maxHeartbeats 4000000 in
theorem rcopy_step (k : Int) (t : Bool) (x : ByteArray) (l : List V) (ns : List ByteArray)
    (ih : ∀ v ∈ l, ∀ (cs : List Value) (w : World) (S : Nat → Prop), v.bulk ≤ 4194304 → v.Rep w S cs → Calls Tryz.prog 111 #[.agg cs.toArray] w (OwnRes v w)) (A : Option Addr) (ca : Nat) (B : Option Addr) (cb : Nat) (w : World) (S : Nat → Prop) (hcb : ns.length ≤ cb)
    (hS : Strs w S B ns) (hl : l = [] ∨ ∃ b o, A = some ⟨b, o, none⟩ ∧ S b ∧ V.Reps w S b o l) (hn : ns.length ≤ 4194304) (hll : l.length ≤ 4194304) (hlb : ∀ v ∈ l, v.bulk ≤ 4194304) :
    Calls Tryz.prog 111 #[.agg #[.int .i64 k, .bool t, .string x, .slice A l.length ca, .slice B ns.length cb]] w (OwnRes (.mk k t x l ns) w) := by
  have IH := Lib.hid ih
  have HL := Lib.hid hl
  clear ih hl
  obtain ⟨i0, hi0, hz0, hzz1, hzz2⟩ := info_parts info9
  have HS := Lib.hid hS
  clear hS
  go_enter Tryz.func111, Tryz.ntmps111
  go_upto_region 1 with (fail)
  generalize hW1 : ((w).alloc (.cells #[.int .i64 k, .bool t, .string x, .slice A l.length ca, .slice B ns.length cb] 43)).alloc (.cells #[.int .i64 0, .bool false, .string ⟨#[]⟩, .slice none 0 0, .slice none 0 0] 43) = W
  have HB1 := Lib.hid (show Below w.heap.size w W by rw [← hW1]; (repeat (first | with_reducible refine Below.setCell ?_ (by first | omega | (simp; done) | (simp; omega)) _ | with_reducible refine Below.drew ?_ | with_reducible refine Below.alloc ?_ (by first | omega | (simp; done) | (simp; omega)) _)); exact Below.refl _ _)
  have sz1 : W.heap.size = w.heap.size + 2 := by rw [← hW1]; simp
  have B1x := Lib.hid (show W.heap[w.heap.size]? = some (.cells #[.int .i64 k, .bool t, .string x, .slice A l.length ca, .slice B ns.length cb] 43 (0, 0)) from by rw [← hW1]; (try dsimp only [World.drew]); (repeat (first | rw [alloc_before (by first | omega | (simp; done) | (simp; omega))] | rw [Below.heap_setCell _ _ _ _ (by first | (simp only; omega) | (simp; omega))])); exact alloc_at (by simp))
  have B1r := Lib.hid (show W.heap[w.heap.size + 1]? = some (.cells #[.int .i64 0, .bool false, .string ⟨#[]⟩, .slice none 0 0, .slice none 0 0] 43 (0, 0)) from by rw [← hW1]; (try dsimp only [World.drew]); (repeat (first | rw [alloc_before (by first | omega | (simp; done) | (simp; omega))] | rw [Below.heap_setCell _ _ _ _ (by first | (simp only; omega) | (simp; omega))])); exact alloc_at (by simp))
  have c1x := fun o => cell_of_row W (w.heap.size) o _ 43 (0, 0) B1x.out
  have f1x : ∀ o, W.frozen? ⟨w.heap.size, o, none⟩ = false := fun o => by simp [World.frozen?, B1x.out]
  have l1x : w.heap.size < W.heap.size := by first | omega | (simp; omega)
  have c1r := fun o => cell_of_row W (w.heap.size + 1) o _ 43 (0, 0) B1r.out
  have f1r : ∀ o, W.frozen? ⟨w.heap.size + 1, o, none⟩ = false := fun o => by simp [World.frozen?, B1r.out]
  have l1r : w.heap.size + 1 < W.heap.size := by first | omega | (simp; omega)
  clear hW1
  go_cut [3] (fun u3 wx => ∃ g nv, u3 = .pointer (some ⟨g, 0, none⟩) ∧ CpStart w k t x A l.length ca B ns cb g nv wx)
  case first =>
    by_cases h0 : ns = []
    · subst h0
      cases B with
      | none =>
        go_region_held3 (fun w' => w'.cell? ⟨w.heap.size, 0, none⟩ = some (.int .i64 k) ∧ w'.cell? ⟨w.heap.size, 1, none⟩ = some (.bool t) ∧ w'.cell? ⟨w.heap.size, 2, none⟩ = some (.string x) ∧ w'.cell? ⟨w.heap.size, 4, none⟩ = some (.slice none 0 cb)) (go_keep) (fail)
        all_goals
          refine to_met2 (by assumption) (by assumption) ?_
          (repeat apply Exists.intro)
          refine ⟨?_, rfl⟩
          first | exact ⟨_, _, rfl, cpstart_a HB1.out sz1 B1x.out B1r.out⟩ | exact ⟨_, _, rfl, cpstart_b HB1.out sz1 B1x.out B1r.out⟩
      | some B =>
        go_region_held3 (fun w' => w'.cell? ⟨w.heap.size, 0, none⟩ = some (.int .i64 k) ∧ w'.cell? ⟨w.heap.size, 1, none⟩ = some (.bool t) ∧ w'.cell? ⟨w.heap.size, 2, none⟩ = some (.string x) ∧ w'.cell? ⟨w.heap.size, 4, none⟩ = some (.slice (some B) 0 cb)) (go_keep) (fail)
        all_goals
          refine to_met2 (by assumption) (by assumption) ?_
          (repeat apply Exists.intro)
          refine ⟨?_, rfl⟩
          first | exact ⟨_, _, rfl, cpstart_a HB1.out sz1 B1x.out B1r.out⟩ | exact ⟨_, _, rfl, cpstart_b HB1.out sz1 B1x.out B1r.out⟩
    · obtain ⟨b, o, rfl, hSb, hblt, hcell⟩ := HS.out.cell 0 (by exact List.length_pos_iff.2 h0)
      have hpos : 0 < ns.length := List.length_pos_iff.2 h0
      have HNEWS := Lib.hid (fun (X : World) (hX : X.heap[b]? = w.heap[b]?) => (fun j u hj => by
        obtain ⟨hj', rfl⟩ := List.getElem?_eq_some_iff.1 hj
        rw [Addr.add_mid, cell_of_heap hX]
        simpa using hcell j (by simpa using hj') : ∀ j u, (ns.map Value.string)[j]? = some u → X.cell? ((⟨b, o, none⟩ : Addr).add j) = some u))
      clear hcell h0
      have hbb := Lib.hid (HB1.out.block b hblt)
      have O1 := Lib.hid (show (W.alloc (.cells #[] 9)).ownsRow (w.heap.size + 2) 9 1 (.slice (some ⟨w.heap.size + 2, 0, none⟩) 0 0) 0 [] by have ho := World.ownsRow_made (base := w.heap.size + 2) (e := 9) (size := 1) W #[] 0 (by omega) (by decide) rfl; rw [sz1] at ho; exact ho)
      have O2 := Lib.hid (show ∀ c : Obj, ((W.alloc c).alloc (.cells #[] 9)).ownsRow (w.heap.size + 2) 9 1 (.slice (some ⟨w.heap.size + 2 + 1, 0, none⟩) 0 0) 0 [] from fun c => by have ho := World.ownsRow_made (base := w.heap.size + 2) (e := 9) (size := 1) (W.alloc c) #[] 0 (by simp; omega) (by decide) rfl; rw [show (W.alloc c).heap.size = w.heap.size + 2 + 1 by simp; omega] at ho; exact ho)
      have nn1 : ¬ w.heap.size = w.heap.size + 2 + 1 := by omega
      have nn2 : ¬ w.heap.size = w.heap.size + 2 := by omega
      go_region_held3 (fun w' => w'.cell? ⟨w.heap.size, 0, none⟩ = some (.int .i64 k) ∧ w'.cell? ⟨w.heap.size, 1, none⟩ = some (.bool t) ∧ w'.cell? ⟨w.heap.size, 2, none⟩ = some (.string x) ∧ w'.cell? ⟨w.heap.size, 4, none⟩ = some (.slice (some ⟨b, o, none⟩) ns.length cb)) ((first | go_keep | (refine ⟨?_, ?_, ?_, ?_⟩ <;> (rw [cell_of_heap (Below.heap_setCell _ _ _ _ (by first | (simp only; omega) | (simp; omega))), cell_of_heap (Below.heap_setCell _ _ _ _ (by first | (simp only; omega) | (simp; omega))), cell_of_heap (Below.heap_setCell _ _ _ _ (by first | (simp only; omega) | (simp; omega))), cell_of_heap (Below.heap_setCell _ _ _ _ (by first | (simp only; omega) | (simp; omega))), cell_of_heap (Below.heap_setCell _ _ _ _ (by first | (simp only; omega) | (simp; omega)))]; simp [cx4])))) ((first | (refine step_append_lies _ (by rfl) _ _ _ (by rfl) (w.heap.size + 2) 9 i0 (.string ⟨#[]⟩) 1 16 Tryz.underlying25 hi0 hz0 hzz1 hzz2 rfl (by omega) (.slice (some ⟨w.heap.size + 2, 0, none⟩) 0 0) 0 [] (by rfl) (O1.out.drew) ⟨b, o, none⟩ ns.length cb (ns.map Value.string) (by rfl) (by simp) (HNEWS.out _ ((alloc_before (by omega)).trans hbb.out)) (by simp [Value.oneCell']) hpos (by unfold maxLen; omega) (by omega) (by simp; omega) (w.heap.size + 2 + 1) (by simp; omega) ?_; intro gg cap w4 hown4 hgrow4 hat4 hlt4; (try simp only [Nat.zero_add, List.nil_append] at hown4); have s4 := hgrow4.size; (try simp at s4); have KX := Lib.hid (show w4.heap[w.heap.size]? = some (.cells #[.int .i64 k, .bool t, .string x, .slice A l.length ca, .slice (some ⟨b, o, none⟩) ns.length cb] 43 (0, 0)) from (hgrow4.block _ (by first | omega | (simp; omega)) (by simp [Value.ownBlock]; try omega)).trans (by (try dsimp only [World.drew]); (repeat (first | rw [alloc_before (by first | omega | (simp; done) | (simp; omega))])); exact B1x.out)); have KR := Lib.hid (show w4.heap[w.heap.size + 1]? = some (.cells #[.int .i64 0, .bool false, .string ⟨#[]⟩, .slice none 0 0, .slice none 0 0] 43 (0, 0)) from (hgrow4.block _ (by first | omega | (simp; omega)) (by simp [Value.ownBlock]; try omega)).trans (by (try dsimp only [World.drew]); (repeat (first | rw [alloc_before (by first | omega | (simp; done) | (simp; omega))])); exact B1r.out)); have cx4 := (fun o => cell_of_row w4 w.heap.size o _ 43 (0, 0) KX.out); have lx4 : w.heap.size < w4.heap.size := (by omega); have HB4 := Lib.hid (show Below w.heap.size w w4 from (((HB1.out.alloc (by omega) _).drew).grown hgrow4 (by first | omega | (simp; omega)) (by intro kk hkk; simp [Value.ownBlock] at hkk; omega))); have HAT := Lib.hid hat4; have HOW := Lib.hid hown4; clear hown4 hgrow4 hat4) | (refine step_append_lies _ (by rfl) _ _ _ (by rfl) (w.heap.size + 2) 9 i0 (.string ⟨#[]⟩) 1 16 Tryz.underlying25 hi0 hz0 hzz1 hzz2 rfl (by omega) (.slice (some ⟨w.heap.size + 2, 0, none⟩) 0 0) 0 [] (by rfl) ((O1.out.alloc _).drew) ⟨b, o, none⟩ ns.length cb (ns.map Value.string) (by rfl) (by simp) (HNEWS.out _ ((alloc_before (by simp; omega)).trans ((alloc_before (by omega)).trans hbb.out))) (by simp [Value.oneCell']) hpos (by unfold maxLen; omega) (by omega) (by simp; omega) (w.heap.size + 2 + 1 + 1) (by simp; omega) ?_; intro gg cap w4 hown4 hgrow4 hat4 hlt4; (try simp only [Nat.zero_add, List.nil_append] at hown4); have s4 := hgrow4.size; (try simp at s4); have KX := Lib.hid (show w4.heap[w.heap.size]? = some (.cells #[.int .i64 k, .bool t, .string x, .slice A l.length ca, .slice (some ⟨b, o, none⟩) ns.length cb] 43 (0, 0)) from (hgrow4.block _ (by first | omega | (simp; omega)) (by simp [Value.ownBlock]; try omega)).trans (by (try dsimp only [World.drew]); (repeat (first | rw [alloc_before (by first | omega | (simp; done) | (simp; omega))])); exact B1x.out)); have KR := Lib.hid (show w4.heap[w.heap.size + 1]? = some (.cells #[.int .i64 0, .bool false, .string ⟨#[]⟩, .slice none 0 0, .slice none 0 0] 43 (0, 0)) from (hgrow4.block _ (by first | omega | (simp; omega)) (by simp [Value.ownBlock]; try omega)).trans (by (try dsimp only [World.drew]); (repeat (first | rw [alloc_before (by first | omega | (simp; done) | (simp; omega))])); exact B1r.out)); have cx4 := (fun o => cell_of_row w4 w.heap.size o _ 43 (0, 0) KX.out); have lx4 : w.heap.size < w4.heap.size := (by omega); have KT := Lib.hid (show w4.heap[w.heap.size + 2 + 1]? = some (.cells #[.int .i64 0, .bool false, .string ⟨#[]⟩, .slice none 0 0, .slice none 0 0] 43 (0, 0)) from (hgrow4.block _ (by first | omega | (simp; omega)) (by simp [Value.ownBlock]; try omega)).trans (by (try dsimp only [World.drew]); (repeat (first | rw [alloc_before (by first | omega | (simp; done) | (simp; omega))])); exact alloc_at (by first | omega | (simp; omega)))); have ct4 := (fun o => cell_of_row w4 (w.heap.size + 2 + 1) o _ 43 (0, 0) KT.out); have ft4 : ∀ o, w4.frozen? ⟨w.heap.size + 2 + 1, o, none⟩ = false := (fun o => by simp [World.frozen?, KT.out]); have lt4 : w.heap.size + 2 + 1 < w4.heap.size := (by omega); have HB4 := Lib.hid (show Below w.heap.size w w4 from ((((HB1.out.alloc (by omega) _).alloc (by simp; omega) _).drew).grown hgrow4 (by first | omega | (simp; omega)) (by intro kk hkk; simp [Value.ownBlock] at hkk; omega))); have HAT := Lib.hid hat4; have HOW := Lib.hid hown4; clear hown4 hgrow4 hat4) | (refine step_append_lies _ (by rfl) _ _ _ (by rfl) (w.heap.size + 2) 9 i0 (.string ⟨#[]⟩) 1 16 Tryz.underlying25 hi0 hz0 hzz1 hzz2 rfl (by omega) (.slice (some ⟨w.heap.size + 2 + 1, 0, none⟩) 0 0) 0 [] (by rfl) (O2.out _).drew ⟨b, o, none⟩ ns.length cb (ns.map Value.string) (by rfl) (by simp) (HNEWS.out _ ((alloc_before (by simp; omega)).trans ((alloc_before (by omega)).trans hbb.out))) (by simp [Value.oneCell']) hpos (by unfold maxLen; omega) (by omega) (by simp; omega) (w.heap.size + 2 + 1 + 1) (by simp; omega) ?_; intro gg cap w4 hown4 hgrow4 hat4 hlt4; (try simp only [Nat.zero_add, List.nil_append] at hown4); have s4 := hgrow4.size; (try simp at s4); have KX := Lib.hid (show w4.heap[w.heap.size]? = some (.cells #[.int .i64 k, .bool t, .string x, .slice A l.length ca, .slice (some ⟨b, o, none⟩) ns.length cb] 43 (0, 0)) from (hgrow4.block _ (by first | omega | (simp; omega)) (by simp [Value.ownBlock]; try omega)).trans (by (try dsimp only [World.drew]); (repeat (first | rw [alloc_before (by first | omega | (simp; done) | (simp; omega))])); exact B1x.out)); have KR := Lib.hid (show w4.heap[w.heap.size + 1]? = some (.cells #[.int .i64 0, .bool false, .string ⟨#[]⟩, .slice none 0 0, .slice none 0 0] 43 (0, 0)) from (hgrow4.block _ (by first | omega | (simp; omega)) (by simp [Value.ownBlock]; try omega)).trans (by (try dsimp only [World.drew]); (repeat (first | rw [alloc_before (by first | omega | (simp; done) | (simp; omega))])); exact B1r.out)); have cx4 := (fun o => cell_of_row w4 w.heap.size o _ 43 (0, 0) KX.out); have lx4 : w.heap.size < w4.heap.size := (by omega); have KT := Lib.hid (show w4.heap[w.heap.size + 2]? = some (.cells #[.int .i64 0, .bool false, .string ⟨#[]⟩, .slice none 0 0, .slice none 0 0] 43 (0, 0)) from (hgrow4.block _ (by first | omega | (simp; omega)) (by simp [Value.ownBlock]; try omega)).trans (by (try dsimp only [World.drew]); (repeat (first | rw [alloc_before (by first | omega | (simp; done) | (simp; omega))])); exact alloc_at (by first | omega | (simp; omega)))); have ct4 := (fun o => cell_of_row w4 (w.heap.size + 2) o _ 43 (0, 0) KT.out); have ft4 : ∀ o, w4.frozen? ⟨w.heap.size + 2, o, none⟩ = false := (fun o => by simp [World.frozen?, KT.out]); have lt4 : w.heap.size + 2 < w4.heap.size := (by omega); have HB4 := Lib.hid (show Below w.heap.size w w4 from ((((HB1.out.alloc (by omega) _).alloc (by simp; omega) _).drew).grown hgrow4 (by first | omega | (simp; omega)) (by intro kk hkk; simp [Value.ownBlock] at hkk; omega))); have HAT := Lib.hid hat4; have HOW := Lib.hid hown4; clear hown4 hgrow4 hat4)))
      all_goals
        refine to_met2 (by assumption) (by assumption) ?_
        (repeat apply Exists.intro)
        refine ⟨?_, rfl⟩
        first | exact ⟨_, _, rfl, cpstart_c HB4.out (by omega) KX.out KR.out HOW.out⟩ | exact ⟨_, _, rfl, cpstart_d HB4.out (by omega) KX.out KR.out KT.out HOW.out (by have h9 := HAT.out; simp [Value.ownBlock] at h9 ⊢; omega)⟩
  have HLB := Lib.hid hlb
  clear hlb
  obtain ⟨g, nv, rfl, hC⟩ := hcut
  obtain ⟨p1, p2, p3, p4, p5, p6, p7, p8⟩ := hC
  have hnlt := World.ownsRow.lt p7
  have P0 : CpInv w l (.int .i64 k) (.bool t) (.string x) nv ns #[.int .i64 k, .bool t, .string x, .slice A l.length ca, .slice B ns.length cb] g wc.heap.size (.slice none 0 0) 0 [] wc :=
    ⟨p1, p2, p3, Nat.le_refl _, p4, p5, p6, World.ownsRow_nil _ _ _ _, p7, fun b hb => ⟨(hnlt b hb).2, fun e => p8 (by rw [hb, e])⟩, fun i hi => absurd hi (Nat.not_lt_zero _)⟩
  have HP := Lib.hid P0
  have c1x := fun o => cell_of_row wc w.heap.size o _ 43 (0, 0) p4
  have l1x : w.heap.size < wc.heap.size := by omega
  obtain ⟨i43, hi43, hz43, hzz43, hzb43⟩ := info_parts info43
  clear p4 p5 p6 p7 p8 P0 hnlt
  go_wp2_with fail
  go_loopw [20] (fun i wr => ∃ (j : Nat) (u : Value) (xs : List Value), j ≤ l.length ∧ i = .int .i64 j ∧ CpInv w l (.int .i64 k) (.bool t) (.string x) nv ns #[.int .i64 k, .bool t, .string x, .slice A l.length ca, .slice B ns.length cb] g wc.heap.size u j xs wr) (fun i _ => l.length - (intOf i).toNat)
  case atStart => exact ⟨0, _, _, Nat.zero_le _, rfl, HP.out⟩
  case round =>
    obtain ⟨j, u, xs, hj, rfl, hI⟩ := hrel
    have HI := Lib.hid hI
    obtain ⟨i1, i2, i3, i4, i5, i6, i7, i8, i9, i10, i11⟩ := hI
    have HB := Lib.hid i1
    have hown := Lib.hid i8
    have hj0 : (0 : Int) ≤ (j : Int) := Int.natCast_nonneg _
    by_cases hlt : j < l.length
    · have hj1 : (j : Int) < (l.length : Int) := by omega
      have k3 := cell_of_row wr g 3 _ 43 (0, 0) i7
      have kf : wr.frozen? ⟨g, 3, none⟩ = false := by simp [World.frozen?, i7]
      simp at k3
      have i2' : g < wr.heap.size := by omega
      obtain ⟨b, o, rfl, hSb, hr⟩ := HL.out.resolve_left (by rintro rfl; simp at hlt)
      obtain ⟨cs, hr0, hv⟩ := hr.get j hlt
      have hblt : b < w.heap.size := hr0.lt (by have := hv.len; rintro rfl; simp at this)
      have hr1 : Row wr b (o + 5 * j) cs := hr0.agree (HB.out.block b hblt)
      have HV := Lib.hid hv
      obtain ⟨A1, ca1, B1, cb1, rfl, -⟩ := hv.open
      have e0 := hr1 0 (by simp)
      have e1 := hr1 1 (by simp)
      have e2 := hr1 2 (by simp)
      have e3 := hr1 3 (by simp)
      have e4 := hr1 4 (by simp)
      simp at e0 e1 e2 e3 e4
      rw [Nat.mul_comm] at e0 e1 e2 e3 e4
      have hno : some g ≠ u.ownBlock := fun e => by have := (World.ownsRow.lt i8 _ e.symm).1; omega
      have HNO := Lib.hid hno
      clear hr hr0 hr1 hv i1 i5 i6 i7 i8 i9 i10 i11 hno
      go_wp2_with fail
      go_region_law (first | (refine step_append_lies _ (by rfl) _ _ _ (by rfl) wc.heap.size 43 i43 _ 5 80 Tryz.underlying41 hi43 hz43 hzz43 hzb43 rfl (by omega) u j xs (by rfl) ((own_below ((hown.out.alloc _)) (Below.mono ⟨hb3.os, hb3.tape, hb3.output, hb3.size, hb3.block⟩ (Nat.le_refl _))).alloc _) ⟨w3.heap.size, 0, none⟩ 1 1 [.int .i64 (l[j]).kind, .bool (l[j]).tr, .string (l[j]).text, .slice A3 (l[j]).list.length ca3, .slice B3 (l[j]).names.length cb3] (by rfl) (by rfl) (World.news_of_block (cs := #[.int .i64 (l[j]).kind, .bool (l[j]).tr, .string (l[j]).text, .slice A3 (l[j]).list.length ca3, .slice B3 (l[j]).names.length cb3]) (t := 43) (fr := (0, 0)) (heap_alloc_new w3 _)) (by simp [Value.oneCell']) (by omega) (by unfold maxLen; omega) (by omega) (by have := hb3.size; simp at this ⊢; omega) (w3.heap.size + 1) (by simp) ?_; intro gg cap w4 hown4 hgrow4 hat4 hlt4; have g3 := grow_keep hgrow4 kk3 HNO.out; have gf3 := (World.grownBy.frozen_far hgrow4 ⟨g, 3, none⟩ (by simp; omega) HNO.out).trans (keep_frozen hb3 i2' kf)) | (go_simp; go_at_call 111; refine (IH.out _ (List.getElem_mem hlt) _ _ (fun b => S b ∧ b < w.heap.size) (HLB.out _ (List.getElem_mem hlt)) (HV.out.agree fun b hb hlt => ⟨((HB.out.alloc HB.out.size _).drew).block b hlt, hb, hlt⟩)).mono ?_; rintro e w3 ⟨cs3, rfl, hown3, hb3⟩; have hrep3 := hown3.rep; have hz3 : wr.heap.size + 1 ≤ w3.heap.size := (by have := hb3.size; simp at this; omega); have kk3 := keep_cell hb3 k3; have nn1 : ¬ g = w3.heap.size := (by omega); have nn2 : g < w3.heap.size := (by omega); obtain ⟨A3, ca3, B3, cb3, rfl, -⟩ := hrep3.open; have HR3 := Lib.hid hrep3; clear hrep3 hown3))
      all_goals
        have HN := Lib.hid (cp_round HI.out hlt hb3 (HR3.out.agree fun b hb _ => ⟨rfl, by have := hb.1; simpa using this, hb.2⟩) hgrow4 hown4 hat4)
        clear hb3 hgrow4 hown4 hat4 hlt4 g3 gf3 kk3 HR3
        go_wp2
        go_roundw
        case rel => exact ⟨j + 1, _, _, hlt, by go_num, HN.out⟩
        case measure => simp [intOf]; omega
    · have hj3 : ¬ (j : Int) < (l.length : Int) := by omega
      have hx2 := fun o => cell_of_row wr g o _ 43 (0, 0) i7
      have hx1 := fun o => cell_of_row wr (w.heap.size + 1) o _ 43 (0, 0) i6
      have hz1 : ∀ o, wr.frozen? ⟨w.heap.size + 1, o, none⟩ = false := fun o => by simp [World.frozen?, i6]
      have hl1 : w.heap.size + 1 < wr.heap.size := by omega
      have hl2 : g < wr.heap.size := by omega
      have hf2 : ∀ o, wr.frozen? ⟨g, o, none⟩ = false := fun o => by simp [World.frozen?, i7]
      obtain rfl : j = l.length := by omega
      obtain ⟨A', c', rfl, -⟩ := own_row i8
      obtain ⟨B', d', rfl, -⟩ := own_row i9
      clear i1 i5 i6 i7 i8 i9 i10 i11 hown
      go_wp2_with fail
      refine bodyPost_ret (v := .agg #[.int .i64 k, .bool t, .string x, .slice A' l.length c', .slice B' ns.length d']) (by simp [results, Tryz.results111, go_sem, hx1]) rfl ?_
      refine ⟨[.int .i64 k, .bool t, .string x, .slice A' l.length c', .slice B' ns.length d'], rfl, ?_, ?_⟩
      · refine cp_done HI.out ?_
        (repeat (first | with_reducible refine Also.setCell ?_ (by simp) _))
        exact Also.refl _ _
      · (repeat (first | with_reducible refine Below.setCell ?_ (by simp) _))
        exact HB.out
/-- Copy: the same value, in memory of its own. -/
theorem rcopy_any (v : V) : ∀ (cs : List Value) (w : World) (S : Nat → Prop), v.bulk ≤ 4194304 → v.Rep w S cs → Calls Tryz.prog 111 #[.agg cs.toArray] w (OwnRes v w) := by
  induction v using V.ind with
  | h k t x l n ih =>
    intro cs w S hb ⟨A, ca, B, cb, hcs, h1, h2, h3, h4⟩
    subst hcs
    simp only [V.bulk] at hb
    have hn := names_length n
    have hl := V.bulks_length l
    exact rcopy_step k t x l n ih A ca B cb w S h2 h3 h4 (by omega) (by omega) fun v hv => by have := V.bulks_mem hv; omega
end Go.Proofs.YtoimjnmhinfbkaaGreatDoor

namespace Go.Proofs.YtoimjnmhinfbkaaGreatDoor
open Go.RowKit
set_option maxRecDepth 100000
/-- two neighbours change places. -/
def swp {α : Type} (l : List α) (k : Nat) : List α := match l[k]?, l[k + 1]? with | some a, some b => (l.set (k + 1) a).set k b | _, _ => l
def ltN (a b : ByteArray) : Bool := Op.bytesLess a.toList b.toList
/-- the k-th sinks to its place. -/
def sink (ns : List ByteArray) (l : List V) : Nat → List ByteArray × List V
  | 0 => (ns, l)
  | k + 1 => if ltN (ns.getD (k + 1) ⟨#[]⟩) (ns.getD k ⟨#[]⟩) = true then sink (swp ns k) (swp l k) k else (ns, l)
def sinks (ns : List ByteArray) (l : List V) : Nat → List ByteArray × List V
  | 0 => (ns, l)
  | n + 1 => sink (sinks ns l n).1 (sinks ns l n).2 n
mutual
def V.sorted : V → V
  | .mk k t x l ns => if k = 5 ∧ ns.length = l.length then .mk k t x (sinks ns (V.sorteds l) ns.length).2 (sinks ns (V.sorteds l) ns.length).1 else .mk k t x (V.sorteds l) ns
def V.sorteds : List V → List V
  | [] => []
  | v :: vs => v.sorted :: V.sorteds vs
end
theorem V.sorteds_map (l : List V) : V.sorteds l = l.map V.sorted := by
  induction l with
  | nil => simp [V.sorteds]
  | cons v vs ih => simp [V.sorteds, ih]
theorem swp_length {α : Type} (l : List α) (k : Nat) : (swp l k).length = l.length := by unfold swp; split <;> simp
theorem sink_length (k : Nat) : ∀ ns l, (sink ns l k).1.length = ns.length ∧ (sink ns l k).2.length = l.length := by
  induction k with
  | zero => intro ns l; exact ⟨rfl, rfl⟩
  | succ k ih =>
    intro ns l
    unfold sink
    split
    · have := ih (swp ns k) (swp l k); simpa [swp_length] using this
    · exact ⟨rfl, rfl⟩
theorem sinks_length (ns : List ByteArray) (l : List V) (n : Nat) : (sinks ns l n).1.length = ns.length ∧ (sinks ns l n).2.length = l.length := by
  induction n with
  | zero => exact ⟨rfl, rfl⟩
  | succ n ih => have := sink_length n (sinks ns l n).1 (sinks ns l n).2; unfold sinks; omega
theorem swp_at {α : Type} {l : List α} {k : Nat} (h : k + 1 < l.length) : swp l k = (l.set (k + 1) l[k]).set k l[k + 1] := by
  unfold swp
  rw [List.getElem?_eq_getElem (by omega : k < l.length), List.getElem?_eq_getElem h]
theorem _root_.Go.World.ownsRow.set {w : World} {base : Nat} {e : TypeId} {size : Nat} {v : Value} {n : Nat} {xs : List Value} (h : w.ownsRow base e size v n xs) {g : Nat} (hv : v.ownBlock = some g) (o : Nat) (u : Value) :
    (w.setCell ⟨g, o, none⟩ u).ownsRow base e size v n (xs.set o u) := by
  obtain ⟨hl, ⟨rfl, rfl⟩ | ⟨g', cap, cur, rfl, hb, hg, hn, hm, hc, ht⟩⟩ := h
  · simp [Value.ownBlock] at hv
  · obtain rfl : g' = g := by simpa [Value.ownBlock] using hv
    refine ⟨by simp [hl], .inr ⟨g', cap, _, rfl, hb, blk_set hg o u, hn, hm, by simp [hc], ?_⟩⟩
    rw [Array.toList_setIfInBounds, ← ht, List.take_set]
/-- five cells in a row. -/
def put5 (xs : List Value) (o : Nat) (a b c d e : Value) : List Value := ((((xs.set o a).set (o + 1) b).set (o + 2) c).set (o + 3) d).set (o + 4) e
def set5 (w : World) (g o : Nat) (a b c d e : Value) : World := ((((w.setCell ⟨g, o, none⟩ a).setCell ⟨g, o + 1, none⟩ b).setCell ⟨g, o + 2, none⟩ c).setCell ⟨g, o + 3, none⟩ d).setCell ⟨g, o + 4, none⟩ e
theorem put5_at (xs : List Value) (i j : Nat) (a b c d e : Value) (h : 5 * i + 5 ≤ xs.length) : ((put5 xs (5 * i) a b c d e).drop (5 * j)).take 5 = if j = i then [a, b, c, d, e] else (xs.drop (5 * j)).take 5 := by
  by_cases hj : j = i
  · subst hj
    rw [if_pos rfl]
    apply List.ext_getElem?
    intro r
    match r with
    | 0 => simp [put5, List.getElem?_take, List.getElem?_drop, List.getElem?_set]; omega
    | 1 => simp [put5, List.getElem?_take, List.getElem?_drop, List.getElem?_set]; omega
    | 2 => simp [put5, List.getElem?_take, List.getElem?_drop, List.getElem?_set]; omega
    | 3 => simp [put5, List.getElem?_take, List.getElem?_drop, List.getElem?_set]; omega
    | 4 => simp [put5, List.getElem?_take, List.getElem?_drop, List.getElem?_set]; omega
    | r + 5 => rw [List.getElem?_take, if_neg (by omega)]; rfl
  · rw [if_neg hj]
    apply List.ext_getElem?
    intro r
    by_cases hr : r < 5
    · simp only [put5, List.getElem?_take, List.getElem?_drop, List.getElem?_set, if_pos hr]
      rw [if_neg (by omega), if_neg (by omega), if_neg (by omega), if_neg (by omega), if_neg (by omega)]
    · simp [List.getElem?_take, hr]
theorem set5_far (w : World) (g o : Nat) (a b c d e : Value) (k : Nat) (h : k ≠ g) : (set5 w g o a b c d e).heap[k]? = w.heap[k]? := by
  unfold set5
  rw [Below.heap_setCell _ _ _ k h, Below.heap_setCell _ _ _ k h, Below.heap_setCell _ _ _ k h, Below.heap_setCell _ _ _ k h, Below.heap_setCell _ _ _ k h]
theorem set5_size (w : World) (g o : Nat) (a b c d e : Value) : (set5 w g o a b c d e).heap.size = w.heap.size := by simp [set5, setCell_size]
theorem set5_below {B : Nat} {w w0 : World} {g : Nat} (hb : Below B w0 w) (h : B ≤ g) (o : Nat) (a b c d e : Value) : Below B w0 (set5 w g o a b c d e) := by
  unfold set5
  exact ((((hb.setCell h _).setCell h _).setCell h _).setCell h _).setCell h _
theorem _root_.Go.World.ownsRow.set5 {w : World} {base : Nat} {e : TypeId} {size : Nat} {v : Value} {n : Nat} {xs : List Value} (h : w.ownsRow base e size v n xs) {g : Nat} (hv : v.ownBlock = some g) (o : Nat) (a b c d f : Value) :
    (set5 w g o a b c d f).ownsRow base e size v n (put5 xs o a b c d f) := ((((h.set hv _ _).set hv _ _).set hv _ _).set hv _ _).set hv _ _
/-- what Sorted holds: the out value at g, its list and its names each in a block of its own, the elements elsewhere. -/
structure SoInv (w : World) (v0 v1 v2 : Value) (cx : Array Value) (g : Nat) (u nv : Value) (ns : List ByteArray) (l : List V) (xs : List Value) (wr : World) : Prop where
  below : Below w.heap.size w wr
  lo : w.heap.size + 2 ≤ g
  hi : g < wr.heap.size
  box : wr.heap[w.heap.size]? = some (.cells cx 43 (0, 0))
  res : wr.heap[w.heap.size + 1]? = some (.cells #[.int .i64 0, .bool false, .string ⟨#[]⟩, .slice none 0 0, .slice none 0 0] 43 (0, 0))
  cur : wr.heap[g]? = some (.cells #[v0, v1, v2, u, nv] 43 (0, 0))
  own : wr.ownsRow (w.heap.size + 2) 43 5 u l.length xs
  names : wr.ownsRow (w.heap.size + 2) 9 1 nv ns.length (ns.map Value.string)
  apart : ∀ b, nv.ownBlock = some b → u.ownBlock ≠ some b
  gu : some g ≠ u.ownBlock
  gn : some g ≠ nv.ownBlock
  reps : ∀ i, ∀ hi : i < l.length, (l[i]).Rep wr (fun b => w.heap.size + 2 ≤ b ∧ b < wr.heap.size ∧ b ≠ g ∧ some b ≠ u.ownBlock ∧ some b ≠ nv.ownBlock) ((xs.drop (5 * i)).take 5)
section
variable {w : World} {v0 v1 v2 : Value} {cx : Array Value} {g : Nat} {u nv : Value} {ns : List ByteArray} {l : List V} {xs : List Value} {wr : World}
theorem SoInv.later (h : SoInv w v0 v1 v2 cx g u nv ns l xs wr) {w3 : World} (hb : Below wr.heap.size wr w3) : SoInv w v0 v1 v2 cx g u nv ns l xs w3 := by
  obtain ⟨i1, i2, i3, i4, i5, i6, i7, i8, i9, i10, i11, i12⟩ := h
  have hs := hb.size
  have hu := World.ownsRow.lt i7
  have hn := World.ownsRow.lt i8
  exact ⟨i1.trans (hb.mono i1.size), i2, by omega, (hb.block _ (by omega)).trans i4, (hb.block _ (by omega)).trans i5, (hb.block _ i3).trans i6, i7.far fun b hb' => hb.block b (hu b hb').2, i8.far fun b hb' => hb.block b (hn b hb').2, i9, i10, i11,
    fun i hi => (i12 i hi).agree fun b ⟨h1, h2, h3⟩ _ => ⟨hb.block b h2, h1, by omega, h3⟩⟩
/-- a name is put. -/
theorem SoInv.name (h : SoInv w v0 v1 v2 cx g u nv ns l xs wr) {b : Nat} (hb : nv.ownBlock = some b) (i : Nat) (s : ByteArray) : SoInv w v0 v1 v2 cx g u nv (ns.set i s) l xs (wr.setCell ⟨b, i, none⟩ (.string s)) := by
  obtain ⟨i1, i2, i3, i4, i5, i6, i7, i8, i9, i10, i11, i12⟩ := h
  have hn := World.ownsRow.lt i8 b hb
  have hg : g ≠ b := fun e => i11 (by rw [hb, e])
  have far : ∀ k, k ≠ b → (wr.setCell ⟨b, i, none⟩ (.string s)).heap[k]? = wr.heap[k]? := fun k hk => Below.heap_setCell _ _ _ k hk
  refine ⟨i1.setCell (by simp only; omega) _, i2, by rw [setCell_size]; exact i3, (far _ (by omega)).trans i4, (far _ (by omega)).trans i5, (far _ hg).trans i6, i7.far fun k hk => far k (fun e => i9 b hb (by rw [hk, e])), ?_, i9, i10, i11, fun j hj => (i12 j hj).agree ?_⟩
  · have := i8.set hb i (.string s)
    rw [List.length_set, List.map_set]; exact this
  · rintro k ⟨h1, h2, h3, h4, h5⟩ _
    exact ⟨far k (fun e => h5 (by rw [hb, e])), h1, by rw [setCell_size]; exact h2, h3, h4, h5⟩
/-- an element is put. -/
theorem SoInv.elem (h : SoInv w v0 v1 v2 cx g u nv ns l xs wr) {q : Nat} (hb : u.ownBlock = some q) {i : Nat} (hi : i < l.length) {v : V} {a b c d e : Value}
    (hv : v.Rep wr (fun b => w.heap.size + 2 ≤ b ∧ b < wr.heap.size ∧ b ≠ g ∧ some b ≠ u.ownBlock ∧ some b ≠ nv.ownBlock) [a, b, c, d, e]) : SoInv w v0 v1 v2 cx g u nv ns (l.set i v) (put5 xs (5 * i) a b c d e) (set5 wr q (5 * i) a b c d e) := by
  obtain ⟨i1, i2, i3, i4, i5, i6, i7, i8, i9, i10, i11, i12⟩ := h
  have hn := World.ownsRow.lt i7 q hb
  have hg : g ≠ q := fun e => i10 (by rw [hb, e])
  have hlen := i7.1
  have far := fun k hk => set5_far wr q (5 * i) a b c d e k hk
  refine ⟨set5_below i1 (by omega) _ _ _ _ _ _, i2, by rw [set5_size]; exact i3, (far _ (by omega)).trans i4, (far _ (by omega)).trans i5, (far _ hg).trans i6, ?_, i8.far fun k hk => far k (fun e => i9 k hk (by rw [hb, e])), i9, i10, i11, fun j hj => ?_⟩
  · have := i7.set5 hb (5 * i) a b c d e
    rw [List.length_set]; exact this
  · rw [put5_at xs i j a b c d e (by omega)]
    have hF : ∀ k, (w.heap.size + 2 ≤ k ∧ k < wr.heap.size ∧ k ≠ g ∧ some k ≠ u.ownBlock ∧ some k ≠ nv.ownBlock) → k < wr.heap.size → (set5 wr q (5 * i) a b c d e).heap[k]? = wr.heap[k]? ∧ (w.heap.size + 2 ≤ k ∧ k < (set5 wr q (5 * i) a b c d e).heap.size ∧ k ≠ g ∧ some k ≠ u.ownBlock ∧ some k ≠ nv.ownBlock) := by
      rintro k ⟨h1, h2, h3, h4, h5⟩ _
      exact ⟨far k (fun e => h4 (by rw [hb, e])), h1, by rw [set5_size]; exact h2, h3, h4, h5⟩
    by_cases hji : j = i
    · subst hji
      rw [if_pos rfl, List.getElem_set_self]
      exact hv.agree hF
    · rw [if_neg hji, List.getElem_set_ne (fun e => hji e.symm)]
      exact (i12 j (by simpa using hj)).agree hF
/-- two names change places. -/
theorem SoInv.names2 (h : SoInv w v0 v1 v2 cx g u nv ns l xs wr) {b : Nat} (hb : nv.ownBlock = some b) {k : Nat} (hk : k + 1 < ns.length) :
    SoInv w v0 v1 v2 cx g u nv (swp ns k) l xs ((wr.setCell ⟨b, k + 1, none⟩ (.string ns[k])).setCell ⟨b, k, none⟩ (.string ns[k + 1])) := by
  rw [swp_at hk]
  exact (h.name hb (k + 1) ns[k]).name hb k ns[k + 1]
/-- two elements change places. -/
theorem SoInv.elems2 (h : SoInv w v0 v1 v2 cx g u nv ns l xs wr) {q : Nat} (hb : u.ownBlock = some q) {k : Nat} (hk : k + 1 < l.length) {a b c d e a' b' c' d' e' : Value} (h1 : (xs.drop (5 * k)).take 5 = [a, b, c, d, e]) (h2 : (xs.drop (5 * (k + 1))).take 5 = [a', b', c', d', e']) :
    ∃ xs', SoInv w v0 v1 v2 cx g u nv ns (swp l k) xs' (set5 (set5 wr q (5 * (k + 1)) a b c d e) q (5 * k) a' b' c' d' e') := by
  rw [swp_at hk]
  have hr1 := h.reps k (by omega)
  have hr2 := h.reps (k + 1) hk
  rw [h1] at hr1
  rw [h2] at hr2
  refine ⟨_, (h.elem hb hk hr1).elem hb (by simp; omega) (hr2.agree ?_)⟩
  rintro j ⟨g1, g2, g3, g4, g5⟩ _
  exact ⟨set5_far _ _ _ _ _ _ _ _ _ (fun e => g4 (by rw [hb, e])), g1, by rw [set5_size]; exact g2, g3, g4, g5⟩
theorem SoInv.own' (hI : SoInv w v0 v1 v2 cx g u nv ns l xs wr) {k : Int} {t : Bool} {x : ByteArray} (e0 : v0 = .int .i64 k) (e1 : v1 = .bool t) (e2 : v2 = .string x) {w' : World} (hal : Also (fun b => b ≠ w.heap.size + 1) wr w') : Own w.heap.size w' (.mk k t x l ns) [.int .i64 k, .bool t, .string x, u, nv] := by
  obtain ⟨i1, i2, i3, i4, i5, i6, i7, i8, i9, i10, i11, i12⟩ := hI
  have hu := World.ownsRow.lt i7
  have hn := World.ownsRow.lt i8
  have hs := hal.size
  have h8 : wr.ownsRow w.heap.size 43 5 u l.length xs := by
    obtain ⟨q1, q2⟩ := i7
    exact ⟨q1, q2.imp id fun ⟨g', c', cur, e1, e2, e3⟩ => ⟨g', c', cur, e1, by omega, e3⟩⟩
  have h9 : wr.ownsRow w.heap.size 9 1 nv ns.length (ns.map Value.string) := by
    obtain ⟨q1, q2⟩ := i8
    exact ⟨q1, q2.imp id fun ⟨g', c', cur, e1, e2, e3⟩ => ⟨g', c', cur, e1, by omega, e3⟩⟩
  refine ⟨u, nv, xs, rfl, ?_, ?_, i9, fun i hi => ?_⟩
  · exact h8.far fun b hb => hal.block b (by have := hu b hb; omega) (by have := hu b hb; omega)
  · exact h9.far fun b hb => hal.block b (by have := hn b hb; omega) (by have := hn b hb; omega)
  · refine (i12 i hi).agree ?_
    rintro b ⟨h1, h2, h3, h4, h5⟩ hlt
    exact ⟨hal.block b (by omega) h2, by omega, by omega, h4, h5⟩
/-- what Copy gave, laid at g. -/
theorem SoInv.start {w W w1 : World} {k : Int} {t : Bool} {x : ByteArray} {l : List V} {ns : List ByteArray} {cx : Array Value} {u nv : Value} (hB : Below w.heap.size w W) (hz : W.heap.size = w.heap.size + 2) (hx : W.heap[w.heap.size]? = some (.cells cx 43 (0, 0)))
    (hr : W.heap[w.heap.size + 1]? = some (.cells #[.int .i64 0, .bool false, .string ⟨#[]⟩, .slice none 0 0, .slice none 0 0] 43 (0, 0))) (hb : Below W.heap.size W w1) (ho : Own W.heap.size w1 (.mk k t x l ns) [.int .i64 k, .bool t, .string x, u, nv]) :
    ∃ xs, SoInv w (.int .i64 k) (.bool t) (.string x) cx w1.heap.size u nv ns l xs (w1.alloc (.cells #[.int .i64 k, .bool t, .string x, u, nv] 43)) := by
  obtain ⟨u', nv', xs, e, o1, o2, o3, o4⟩ := ho
  simp only [V.kind, V.tr, V.text, V.list, V.names] at *
  simp only [List.cons.injEq, and_true, true_and] at e
  obtain ⟨rfl, rfl⟩ := e
  have hs := hb.size
  have hu := World.ownsRow.lt o1
  have hn := World.ownsRow.lt o2
  rw [hz] at *
  refine ⟨xs, (hB.trans (hb.mono (by omega))).alloc (by omega) _, by omega, by simp, (alloc_before (by omega)).trans ((hb.block _ (by omega)).trans hx), (alloc_before (by omega)).trans ((hb.block _ (by omega)).trans hr), alloc_at rfl, o1.alloc _, o2.alloc _, o3,
    fun e => by have := hu _ e.symm; omega, fun e => by have := hn _ e.symm; omega, fun i hi => (o4 i hi).agree ?_⟩
  rintro b ⟨h1, h2, h3, h4⟩ _
  exact ⟨alloc_before h2, by omega, by simp; omega, by omega, h3, h4⟩
end
end Go.Proofs.YtoimjnmhinfbkaaGreatDoor

namespace Go.Proofs.YtoimjnmhinfbkaaGreatDoor
open Go.RowKit
set_option maxRecDepth 100000
/-- till number c of a drawn region has come up, the world is W. -/
def lateAny (P : Program) (md : Region.Mode) (ops : Array Oper) (Q : Exit → Act → World → Prop) (S : World → Prop) (W : World) (c : Nat) : Nat → Array Bool → Act → World → Prop
  | 0, listed, a, w => Region.ready md ops listed = [] ∧ Q .normal a w
  | fuel + 1, listed, a, w => (Region.ready md ops listed = [] → Q .normal a w) ∧
    ∀ i ∈ Region.ready md ops listed, wpOp P ops Q i (fun a' w' => S w' ∧ (i ≠ c → listed.getD c false = false → w' = W) ∧ lateAny P md ops Q S W c fuel (listed.setIfInBounds i true) a' w') a w
section
variable {P : Program} {md : Region.Mode} {ops : Array Oper} {Q : Exit → Act → World → Prop} {S : World → Prop} {W : World} {c : Nat}
theorem any_of_late : ∀ (fuel : Nat) (listed : Array Bool) (a : Act) (w : World), lateAny P md ops Q S W c fuel listed a w → wpAny P md ops Q fuel listed a w
  | 0, _, _, _, h => h
  | fuel + 1, _, _, _, h => ⟨h.1, fun i hi => wpOp_mono (fun a' w' h' => any_of_late fuel _ a' w' h'.2.2) (h.2 i hi)⟩
theorem late_ready {rs : List Nat} {fuel : Nat} {listed : Array Bool} {a : Act} {w : World} (hr : Region.ready md ops listed = rs) (hne : rs ≠ [])
    (h : ∀ i ∈ rs, wpOp P ops Q i (fun a' w' => S w' ∧ (i ≠ c → listed.getD c false = false → w' = W) ∧ lateAny P md ops Q S W c fuel (listed.setIfInBounds i true) a' w') a w) : lateAny P md ops Q S W c (fuel + 1) listed a w :=
  ⟨fun h0 => absurd (hr ▸ h0) hne, hr ▸ h⟩
theorem late_done {listed : Array Bool} {a : Act} {w : World} (hr : Region.ready md ops listed = []) (h : Q .normal a w) : ∀ fuel, lateAny P md ops Q S W c fuel listed a w
  | 0 => ⟨hr, h⟩
  | _ + 1 => ⟨fun _ => h, by rw [hr]; simp⟩
/-- number i comes up alone, at c's turn or behind it. -/
theorem late_one {i : Nat} {o : Oper} {fuel : Nat} {listed : Array Bool} {a : Act} {w : World} (hr : Region.ready md ops listed = [i]) (ho : ops[i]? = some o) (hw : Region.wanted o (yielded ops a.tmps) = true) (hl : (i == c || listed.getD c false) = true)
    (h : ∀ K : Act → World → Prop, (∀ a' w', S w' → lateAny P md ops Q S W c fuel (listed.setIfInBounds i true) a' w' → K a' w') → Oper.wp P o a w K Q) : lateAny P md ops Q S W c (fuel + 1) listed a w :=
  late_ready hr (by simp) (fun j hj => by
    obtain rfl : j = i := by simpa using hj
    unfold wpOp
    simp only [ho, hw, if_true]
    refine .inl (h _ (fun a' w' hS hL => ⟨hS, fun h1 h2 => ?_, hL⟩))
    rw [h2, Bool.or_false, beq_iff_eq] at hl
    exact absurd hl h1)
/-- take number i first: it yields in every world with S. -/
theorem held_first {i : Nat} {oi : Oper} {v : Value} (hi : ops[i]? = some oi) (hsel : ∀ (j : Nat) (o : Oper) cs b, ops[j]? = some o → o.op ≠ .select cs b)
    (hQ : ∀ c a w, Q (.panic c) (a.put oi.dst v) w → Q (.panic c) a w) (hic : i ≠ c) :
    ∀ (fuel : Nat) (listed : Array Bool) (a : Act) (w : World),
      (∀ j oj, ops[j]? = some oj → j ≠ i → listed.getD j true = false → (∀ e ∈ oj.after, Region.binds md e = true → e.on ≠ i) → oi.apart ops oj = true) →
      i ∈ Region.ready md ops listed → (listed.getD c false = false → w = W) → YieldsIf P ops S oi v a → S w →
      lateAny P md ops Q S W c fuel (listed.setIfInBounds i true) (a.put oi.dst v) w → lateAny P md ops Q S W c (fuel + 1) listed a w := by
  intro fuel
  induction fuel with
  | zero =>
    intro listed a w _ hr hcl hy hS H
    refine ⟨fun h => (by rw [h] at hr; cases hr), fun j hj => ?_⟩
    by_cases hji : j = i
    · subst hji; exact hy.wpOp hi hS ⟨hS, fun _ h0 => hcl h0, H⟩
    · have := ready_mono hj hji
      rw [H.1] at this
      cases this
  | succ fuel ih =>
    intro listed a w hfree hr hcl hy hS H
    refine ⟨fun h => (by rw [h] at hr; cases hr), fun j hj => ?_⟩
    by_cases hji : j = i
    · subst hji; exact hy.wpOp hi hS ⟨hS, fun _ h0 => hcl h0, H⟩
    · have h1 := H.2 j (ready_mono hj hji)
      obtain ⟨hjun, oj, hoj, hall⟩ := mem_ready.1 hj
      have h0 := (mem_ready.1 hr).1
      have hi0 : listed.getD i false = false := by
        rcases Nat.lt_or_ge i listed.size with h' | h'
        · simp [h'] at h0 ⊢; exact h0
        · simp [Array.getElem?_eq_none h']
      have hnot : ∀ e ∈ oj.after, Region.binds md e = true → e.on ≠ i := fun e he hb heq => by
        have h1 := hall e he hb
        rw [heq, hi0] at h1
        cases h1
      have h2 := wpOp_putIf hoj (hfree j oj hoj hji hjun hnot) (fun cs b => hsel i oi cs b hi) (fun cs b => hsel j oj cs b hoj) hQ hy h1
      have hfree' : ∀ k ok, ops[k]? = some ok → k ≠ i → (listed.setIfInBounds j true).getD k true = false → (∀ e ∈ ok.after, Region.binds md e = true → e.on ≠ i) → oi.apart ops ok = true := fun k ok hk hki hun hno => by
        refine hfree k ok hk hki ?_ hno
        by_cases hjk : j = k
        · subst hjk; exact hjun
        · rw [getD_set_ne true hjk] at hun; exact hun
      refine wpOp_mono (fun a' w' h3 => ⟨h3.2.1, fun hjc h0 => h3.2.2.1 hjc ((getD_set_ne false hic).trans h0), ih (listed.setIfInBounds j true) a' w' hfree' (ready_mono hr (Ne.symm hji)) (fun h0 => ?_) h3.1 h3.2.1 ?_⟩) h2
      · by_cases hjc : j = c
        · subst hjc
          have hlt : j < listed.size := by
            rcases Nat.lt_or_ge j listed.size with h' | h'
            · exact h'
            · simp [Array.getElem?_eq_none h'] at hjun
          simp [hlt] at h0
        · exact h3.2.2.1 hjc ((getD_set_ne false hic).trans ((getD_set_ne false hjc).symm.trans h0))
      · rw [Array.setIfInBounds_comm _ _ hji]
        exact h3.2.2.2
/-- number c waits for number i. -/
def waits (md : Region.Mode) (ops : Array Oper) (c i : Nat) : Bool := match ops[c]? with | some oc => oc.after.any (fun e => Region.binds md e && e.on == i) | none => false
theorem late_first {i : Nat} {oi : Oper} {v : Value} (hi : ops[i]? = some oi) (hsel : ∀ (j : Nat) (o : Oper) cs b, ops[j]? = some o → o.op ≠ .select cs b)
    (hQ : ∀ c a w, Q (.panic c) (a.put oi.dst v) w → Q (.panic c) a w) (hic : i ≠ c) (hci : ∀ oc, ops[c]? = some oc → ∃ e ∈ oc.after, Region.binds md e = true ∧ e.on = i) :
    ∀ (fuel : Nat) (listed : Array Bool) (a : Act),
      (∀ j oj, ops[j]? = some oj → j ≠ i → listed.getD j true = false → (∀ e ∈ oj.after, Region.binds md e = true → e.on ≠ i) → oi.apart ops oj = true) →
      i ∈ Region.ready md ops listed → listed.getD c false = false → YieldsIf P ops (fun w' => w' = W) oi v a → S W →
      lateAny P md ops Q S W c fuel (listed.setIfInBounds i true) (a.put oi.dst v) W → lateAny P md ops Q S W c (fuel + 1) listed a W := by
  intro fuel
  induction fuel with
  | zero =>
    intro listed a _ hr _ hy hS H
    refine ⟨fun h => (by rw [h] at hr; cases hr), fun j hj => ?_⟩
    by_cases hji : j = i
    · subst hji; exact hy.wpOp hi rfl ⟨hS, fun _ _ => rfl, H⟩
    · have := ready_mono hj hji
      rw [H.1] at this
      cases this
  | succ fuel ih =>
    intro listed a hfree hr hcl hy hS H
    refine ⟨fun h => (by rw [h] at hr; cases hr), fun j hj => ?_⟩
    by_cases hji : j = i
    · subst hji; exact hy.wpOp hi rfl ⟨hS, fun _ _ => rfl, H⟩
    · have h1 := H.2 j (ready_mono hj hji)
      obtain ⟨hjun, oj, hoj, hall⟩ := mem_ready.1 hj
      have h0 := (mem_ready.1 hr).1
      have hi0 : listed.getD i false = false := by
        rcases Nat.lt_or_ge i listed.size with h' | h'
        · simp [h'] at h0 ⊢; exact h0
        · simp [Array.getElem?_eq_none h']
      have hnot : ∀ e ∈ oj.after, Region.binds md e = true → e.on ≠ i := fun e he hb heq => by
        have h1 := hall e he hb
        rw [heq, hi0] at h1
        cases h1
      have hjc : j ≠ c := fun e => by
        subst e
        obtain ⟨e, he, hb, ho⟩ := hci oj hoj
        exact hnot e he hb ho
      have h2 := wpOp_putIf hoj (hfree j oj hoj hji hjun hnot) (fun cs b => hsel i oi cs b hi) (fun cs b => hsel j oj cs b hoj) hQ hy h1
      have hfree' : ∀ k ok, ops[k]? = some ok → k ≠ i → (listed.setIfInBounds j true).getD k true = false → (∀ e ∈ ok.after, Region.binds md e = true → e.on ≠ i) → oi.apart ops ok = true := fun k ok hk hki hun hno => by
        refine hfree k ok hk hki ?_ hno
        by_cases hjk : j = k
        · subst hjk; exact hjun
        · rw [getD_set_ne true hjk] at hun; exact hun
      refine wpOp_mono (fun a' w' h3 => ?_) h2
      have hw : w' = W := h3.2.2.1 hjc ((getD_set_ne false hic).trans hcl)
      subst hw
      refine ⟨hS, fun _ _ => rfl, ih (listed.setIfInBounds j true) a' hfree' (ready_mono hr (Ne.symm hji)) ((getD_set_ne false hjc).trans hcl) h3.1 hS ?_⟩
      rw [Array.setIfInBounds_comm _ _ hji]
      exact h3.2.2.2
/-- take number i first, in the world W: number c waits for it. -/
theorem late_take {i : Nat} {oi : Oper} {v : Value} {fuel : Nat} {listed : Array Bool} {a : Act} (hi : ops[i]? = some oi) (hs : Region.noSelect ops = true) (hf : Region.free md ops listed i = true) (hr : (Region.ready md ops listed).contains i = true)
    (hw : waits md ops c i = true) (hic : (i == c) = false) (hl : listed.getD c false = false) (hQ : ∀ c a w, Q (.panic c) (a.put oi.dst v) w → Q (.panic c) a w) (hy : YieldsIf P ops (fun w' => w' = W) oi v a) (hS : S W)
    (h : lateAny P md ops Q S W c fuel (listed.setIfInBounds i true) (a.put oi.dst v) W) : lateAny P md ops Q S W c (fuel + 1) listed a W :=
  late_first hi (Region.noSelect_spec hs) hQ (by simpa using hic) (fun oc ho => by
    unfold waits at hw
    rw [ho] at hw
    obtain ⟨k, hk, hb⟩ := Array.any_eq_true.1 hw
    simp only [Bool.and_eq_true, beq_iff_eq] at hb
    exact ⟨_, Array.getElem_mem hk, hb.1, hb.2⟩) fuel listed a (Region.free_spec hi hf) (by simpa using hr) hl hy hS h
end
end Go.Proofs.YtoimjnmhinfbkaaGreatDoor
