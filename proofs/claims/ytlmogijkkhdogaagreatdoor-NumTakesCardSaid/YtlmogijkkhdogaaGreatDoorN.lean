import Derived.Test.YtlmogijkkhdogaaGreatDoorFb
import Derived.Test.YtlmogijkkhdogaaGreatDoorShelf
import Derived.Lib.Hide
import Derived.WalkMore
import Derived.RegionTactic
import Derived.BigRegion
import Derived.Deep.QuietTactic
import Derived.BigQuiet
namespace Go.Proofs.YtlmogijkkhdogaaGreatDoor
open Go.RowKit
set_option maxRecDepth 100000

theorem bcell {B : Nat} {w w1 : World} (hb : Below B w w1) : (∀ b o, b < B → w1.cell? ⟨b, o, none⟩ = w.cell? ⟨b, o, none⟩) ∧ (∀ b o, b < B → w1.frozen? ⟨b, o, none⟩ = w.frozen? ⟨b, o, none⟩) :=
  ⟨fun b o h => hb.cell (p := ⟨b, o, none⟩) h, fun b o h => hb.frozen (p := ⟨b, o, none⟩) h⟩

def dig (c : UInt8) : Bool := 48 ≤ c && c ≤ 57
def digs (l : List UInt8) : List UInt8 := l.takeWhile dig
def rest (l : List UInt8) : List UInt8 := l.dropWhile dig

theorem ba_get (l : List UInt8) (k : Nat) (h : k < l.length) (h' : k < (⟨l.toArray⟩ : ByteArray).size) : (⟨l.toArray⟩ : ByteArray)[k] = l[k] := rfl
theorem ba_extract (l : List UInt8) (a b : Nat) : (⟨l.toArray⟩ : ByteArray).extract a b = ⟨((l.drop a).take (b - a)).toArray⟩ := by
  apply ByteArray.ext
  rw [ByteArray.data_extract]
  simp
theorem dig_iff (c : UInt8) : dig c = true ↔ 48 ≤ (c.toNat : Int) ∧ (c.toNat : Int) ≤ 57 := by
  unfold dig; simp [UInt8.le_iff_toNat_le]; omega
theorem digs_at (l : List UInt8) : ∀ (k : Nat), k ≤ l.length → (l.take k).all dig = true → (∀ h : k < l.length, dig l[k] = false) → digs l = l.take k ∧ rest l = l.drop k := by
  induction l with
  | nil => intro k hk _ _; simp [digs, rest]
  | cons c l ih =>
    intro k hk hd hn
    cases k with
    | zero =>
      have := hn (by simp)
      simp at this
      simp [digs, rest, this]
    | succ k =>
      simp at hd hk
      have := ih k hk (by simpa using hd.2) (fun h => by have := hn (by simpa using h); simpa using this)
      simp [digs, rest, hd.1] at this ⊢
      exact this

set_option maxHeartbeats 800000 in
theorem figures_any (l : List UInt8) (w : World) (hs : l.length ≤ 1073741824) :
    Calls Tryz.prog 96 #[.string ⟨l.toArray⟩] w fun e w' => e = .returned (.tuple #[.string ⟨(digs l).toArray⟩, .string ⟨(rest l).toArray⟩]) ∧ w' = w.drew := by
  go_enter Tryz.func96, Tryz.ntmps96
  go_wp2
  go_loop [4] (fun i => ∃ k : Nat, k ≤ l.length ∧ i = .int .i64 k ∧ (l.take k).all dig = true) (fun i => l.length - (intOf i).toNat)
  case atStart => exact ⟨0, Nat.zero_le _, rfl, rfl⟩
  case round =>
    obtain ⟨k, hk, rfl, hd⟩ := hrel
    have HD := Lib.hid hd
    clear hd
    by_cases hlt : k < l.length
    · have hk0 : (0 : Int) ≤ (k : Int) := Int.natCast_nonneg _
      have hk1 : (k : Int) ≤ (l.length : Int) := by omega
      have hsz : k < (⟨l.toArray⟩ : ByteArray).size := hlt
      by_cases ha : 48 ≤ (((⟨l.toArray⟩ : ByteArray)[k]'hsz).toNat : Int)
      · by_cases hb : (((⟨l.toArray⟩ : ByteArray)[k]'hsz).toNat : Int) ≤ 57
        · have hdk := Lib.hid ((dig_iff l[k]).2 ⟨ha, hb⟩)
          go_wp2
          go_round
          case rel =>
            refine ⟨k + 1, hlt, by go_num, ?_⟩
            rw [List.take_succ_eq_append_getElem hlt, List.all_append, HD.out]
            simp only [List.all_cons, List.all_nil, Bool.and_true, Bool.true_and]
            exact hdk.out
          case measure => simp [intOf]; omega
        · have hx := Lib.hid (digs_at l k hk HD.out fun h => by
            rw [← Bool.not_eq_true, dig_iff]; exact fun h3 => hb h3.2)
          have hb2 : 57 < (((⟨l.toArray⟩ : ByteArray)[k]'hsz).toNat : Int) := by omega
          go_wp2
          go_region
          go_wp2
          go_ret2
          refine ⟨?_, rfl⟩
          rw [hx.out.1, hx.out.2]
          show Ending.returned (.tuple #[.string _, .string _]) = _
          rw [ba_extract, ba_extract, List.drop_zero, Nat.sub_zero, List.take_of_length_le (l := List.drop k l) (by simp)]
      · have hx := Lib.hid (digs_at l k hk HD.out fun h => by
          rw [← Bool.not_eq_true, dig_iff]; exact fun h3 => ha h3.1)
        have ha2 : (((⟨l.toArray⟩ : ByteArray)[k]'hsz).toNat : Int) < 48 := by omega
        go_wp2
        go_region
        go_wp2
        go_ret2
        refine ⟨?_, rfl⟩
        rw [hx.out.1, hx.out.2]
        show Ending.returned (.tuple #[.string _, .string _]) = _
        rw [ba_extract, ba_extract, List.drop_zero, Nat.sub_zero, List.take_of_length_le (l := List.drop k l) (by simp)]
    · have hx := Lib.hid (digs_at l k hk HD.out fun h => absurd h hlt)
      have hk0 : (0 : Int) ≤ (k : Int) := Int.natCast_nonneg _
      have hk1 : (k : Int) ≤ (l.length : Int) := by omega
      go_wp2
      go_region
      go_wp2
      go_ret2
      refine ⟨?_, rfl⟩
      rw [hx.out.1, hx.out.2]
      show Ending.returned (.tuple #[.string _, .string _]) = _
      rw [ba_extract, ba_extract, List.drop_zero, Nat.sub_zero, List.take_of_length_le (l := List.drop k l) (by simp)]

end Go.Proofs.YtlmogijkkhdogaaGreatDoor
