import Derived.Test.YtoimjnmhinfbkaaGreatDoorDa
namespace Go.Proofs.YtoimjnmhinfbkaaGreatDoor
open Go.RowKit
set_option maxRecDepth 100000

def nArch : ByteArray := ⟨#[97, 114, 99, 104, 105, 116, 101, 99, 116, 117, 114, 101]⟩
def nOs : ByteArray := ⟨#[111, 115]⟩
def nVar : ByteArray := ⟨#[118, 97, 114, 105, 97, 110, 116]⟩

def varA (v : V) (p : ByteArray) : Except (Int × ByteArray) ByteArray :=
  match v.maybe nVar with
  | none => .ok ⟨#[]⟩
  | some u => textA u (fieldPlace p nVar) 64
def platA (v : V) (p : ByteArray) : Except (Int × ByteArray) (ByteArray × ByteArray × ByteArray) :=
  match filledA v p nArch 64 with
  | .error b => .error b
  | .ok a => match filledA v p nOs 64 with
    | .error b => .error b
    | .ok o => match varA v p with
      | .error b => .error b
      | .ok x => .ok (a, o, x)

theorem filledA_kind {v : V} {p name : ByteArray} {most : Int} {s : ByteArray} (h : filledA v p name most = .ok s) : v.kind = 5 := by
  unfold filledA at h
  split at h
  · cases h
  · rename_i hu
    exact (fieldA_ok hu).1

theorem filled_ok (v : V) (cs : List Value) (p name : ByteArray) (most : Int) (w : World) (S : Nat → Prop) (hv : v.Rep w S cs) (hb : v.bulk ≤ 4194304) (hp : p.size ≤ 1000000) (hn : name.size ≤ 1000000) (s : ByteArray) (h : filledA v p name most = .ok s) :
    Calls Tryz.prog 73 #[.agg (cs ++ [Value.string p]).toArray, .string name, .int .i64 most] w fun e w' => e = .returned (.string s) ∧ Below w.heap.size w w' :=
  (filled_any v cs p name most w S hv hb hp hn).mono fun e w' hh => by
    rw [h] at hh
    obtain ⟨val, h1, h2, h3⟩ := hh
    exact ⟨by rw [h1, h2], h3⟩
theorem filled_bad (v : V) (cs : List Value) (p name : ByteArray) (most : Int) (w : World) (S : Nat → Prop) (hv : v.Rep w S cs) (hb : v.bulk ≤ 4194304) (hp : p.size ≤ 1000000) (hn : name.size ≤ 1000000) (c : Int) (q : ByteArray) (h : filledA v p name most = .error (c, q)) :
    Calls Tryz.prog 73 #[.agg (cs ++ [Value.string p]).toArray, .string name, .int .i64 most] w (Threw w c q) :=
  (filled_any v cs p name most w S hv hb hp hn).mono fun e w' hh => by
    rw [h] at hh
    exact hh

def IsPlat (r : ByteArray × ByteArray × ByteArray) (_ : World) (val : Value) : Prop := val = .agg #[.string r.1, .string r.2.1, .string r.2.2]

theorem below_plain {w w1 : World} {n : Nat} (hb : Below n w.drew w1) : Below n w w1 := ⟨hb.os, hb.tape, hb.output, hb.size, hb.block⟩

set_option maxHeartbeats 1600000 in
theorem plat_bad1 (v : V) (cs : List Value) (p : ByteArray) (w : World) (S : Nat → Prop) (hv : v.Rep w S cs) (hb : v.bulk ≤ 4194304) (hp : p.size ≤ 1000000) (c : Int) (q : ByteArray) (h : filledA v p nArch 64 = .error (c, q)) :
    Calls Tryz.prog 31 #[.agg (cs ++ [Value.string p]).toArray] w (Threw w c q) := by
  have HV := Lib.hid hv
  obtain ⟨A, ca, B, cb, rfl, -⟩ := hv.open
  have HA := Lib.hid (fun W (hW : Below w.heap.size w W) => filled_bad v [.int .i64 v.kind, .bool v.tr, .string v.text, .slice A v.list.length ca, .slice B v.names.length cb] p ⟨#[97, 114, 99, 104, 105, 116, 101, 99, 116, 117, 114, 101]⟩ 64 W S (HV.out.agree fun b hb hlt => ⟨hW.block b hlt, hb⟩) hb (by omega) (by decide) c q h)
  clear hv h
  simp only [List.cons_append, List.nil_append] at HA ⊢
  go_enter Tryz.func31, Tryz.ntmps31
  go_wp2_with fail
  go_region_with (go_at_call 73; (with_reducible refine (HA.out _ ?_).mono ?_); (· ((repeat (first | with_reducible refine Below.drew ?_ | with_reducible refine Below.alloc ?_ (by first | (simp; done) | (simp; omega)) _)); exact Below.refl _ _)); rintro e w1 ⟨g, rfl, hth⟩; refine (fun (_ : wpAny Tryz.prog .any #[] (fun _ _ _ => True) 0 #[] ⟨#[], []⟩ w1) => ⟨rfl, Threw.of ⟨g, rfl, hth⟩ (by ((repeat (first | with_reducible refine Below.drew ?_ | with_reducible refine Below.alloc ?_ (by first | (simp; done) | (simp; omega)) _)); exact Below.refl _ _))⟩) ?_)
  all_goals trivial

set_option maxHeartbeats 1600000 in
theorem plat_bad2 (v : V) (cs : List Value) (p : ByteArray) (w : World) (S : Nat → Prop) (hv : v.Rep w S cs) (hb : v.bulk ≤ 4194304) (hp : p.size ≤ 1000000) (a : ByteArray) (h1 : filledA v p nArch 64 = .ok a) (c : Int) (q : ByteArray) (h : filledA v p nOs 64 = .error (c, q)) :
    Calls Tryz.prog 31 #[.agg (cs ++ [Value.string p]).toArray] w (Threw w c q) := by
  have HV := Lib.hid hv
  obtain ⟨A, ca, B, cb, rfl, -⟩ := hv.open
  have HA := Lib.hid (fun W (hW : Below w.heap.size w W) => filled_ok v [.int .i64 v.kind, .bool v.tr, .string v.text, .slice A v.list.length ca, .slice B v.names.length cb] p ⟨#[97, 114, 99, 104, 105, 116, 101, 99, 116, 117, 114, 101]⟩ 64 W S (HV.out.agree fun b hb hlt => ⟨hW.block b hlt, hb⟩) hb (by omega) (by decide) a h1)
  have HB := Lib.hid (fun W (hW : Below w.heap.size w W) => filled_bad v [.int .i64 v.kind, .bool v.tr, .string v.text, .slice A v.list.length ca, .slice B v.names.length cb] p ⟨#[111, 115]⟩ 64 W S (HV.out.agree fun b hb hlt => ⟨hW.block b hlt, hb⟩) hb (by omega) (by decide) c q h)
  clear hv h h1
  simp only [List.cons_append, List.nil_append] at HA HB ⊢
  go_enter Tryz.func31, Tryz.ntmps31
  go_wp2_with fail
  go_region_with (first | (go_at_call 73; (with_reducible refine (HA.out _ ?_).mono ?_); (· ((repeat (first | with_reducible refine Below.drew ?_ | with_reducible refine Below.alloc ?_ (by first | (simp; done) | (simp; omega)) _)); exact Below.refl _ _)); rintro e w1 ⟨rfl, hb1⟩; obtain ⟨hc1, hf1⟩ := bcell hb1; have z1 : w.heap.size + 1 < w1.heap.size := (by have := hb1.size; simp at this; omega); have z2 : w.heap.size < w1.heap.size := (by omega)) | (go_at_call 73; (with_reducible refine (HB.out _ ?_).mono ?_); (· ((repeat (first | with_reducible refine Below.drew ?_ | with_reducible refine Below.alloc ?_ (by first | omega | (simp; done) | (simp; omega)) _)); refine Below.trans ?_ (hb1.mono (by simp; omega)); (repeat (first | with_reducible refine Below.drew ?_ | with_reducible refine Below.alloc ?_ (by first | (simp; done) | (simp; omega)) _)); exact Below.refl _ _)); rintro e w2 ⟨g, rfl, hth⟩; refine (fun (_ : wpAny Tryz.prog .any #[] (fun _ _ _ => True) 0 #[] ⟨#[], []⟩ w2) => ⟨rfl, Threw.of ⟨g, rfl, hth⟩ (by ((repeat (first | with_reducible refine Below.drew ?_ | with_reducible refine Below.alloc ?_ (by first | omega | (simp; done) | (simp; omega)) _)); refine Below.trans ?_ (hb1.mono (by simp; omega)); (repeat (first | with_reducible refine Below.drew ?_ | with_reducible refine Below.alloc ?_ (by first | (simp; done) | (simp; omega)) _)); exact Below.refl _ _))⟩) ?_))
  all_goals trivial

end Go.Proofs.YtoimjnmhinfbkaaGreatDoor
