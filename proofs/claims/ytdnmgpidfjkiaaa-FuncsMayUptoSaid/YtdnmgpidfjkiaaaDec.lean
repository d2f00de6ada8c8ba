/-
  PLAIN LAWS: digits of base 10; bytes as cells.
-/
import Derived.Below
import Derived.Calls
import Derived.Laws.Strings2
import Derived.Laws.BytesArg
import Derived.Test.YtdnmgpidfjkiaaaMem
namespace Go.Proofs.Ytdnmgpidfjkiaaa
open Go.RowKit
set_option linter.unusedVariables false

theorem hide {p : Prop} (h : p) : Hid p := h

theorem ret_int {k : IntKind} {a b : Int} (h : a = b) : Ending.returned (.int k a) = .returned (.int k b) := by rw [h]
theorem ret_bool {a b : Bool} (h : a = b) : Ending.returned (.bool a) = .returned (.bool b) := by rw [h]
theorem ret_str {a b : List UInt8} (h : a = b) : Ending.returned (.string ⟨a.toArray⟩) = .returned (.string ⟨b.toArray⟩) := by rw [h]
theorem ret_bs {a b : ByteArray} (h : a = b) : Ending.returned (.string a) = .returned (.string b) := by rw [h]

/-- A digit's octet. -/
def dig (n : Nat) : UInt8 := UInt8.ofNat (48 + n)
theorem dig_toNat (n : Nat) (h : n < 10) : (dig n).toNat = 48 + n := by
  unfold dig; rw [UInt8.toNat_ofNat']; omega

/-- The digits of a number. -/
def decs (u : Nat) : List UInt8 := if h : u < 10 then [dig u] else decs (u / 10) ++ [dig (u % 10)]
  termination_by u
  decreasing_by omega
theorem decs_small (u : Nat) (h : u < 10) : decs u = [dig u] := by rw [decs, dif_pos h]
theorem decs_big (u : Nat) (h : ¬ u < 10) : decs u = decs (u / 10) ++ [dig (u % 10)] := by rw [decs, dif_neg h]
theorem decs_len (k : Nat) : ∀ u, u < 10 ^ (k + 1) → (decs u).length ≤ k + 1 ∧ 1 ≤ (decs u).length := by
  induction k with
  | zero => intro u h; rw [decs_small u (by omega)]; simp
  | succ k ih =>
    intro u h
    by_cases hu : u < 10
    · rw [decs_small u hu]; simp
    · rw [decs_big u hu]
      have := ih (u / 10) (by rw [Nat.pow_succ] at h; omega)
      simp; omega
theorem decs_len20 (u : Nat) (h : u ≤ 18446744073709551615) : (decs u).length ≤ 20 ∧ 1 ≤ (decs u).length := decs_len 19 u (by omega)

/-- What number.Print answers. -/
def pInt (n : Int) : List UInt8 := if n < 0 then 45 :: decs n.natAbs else decs n.natAbs

/-- Octets as cells. -/
def bv (l : List UInt8) : List Value := l.map fun c => Value.int .u8 (c.toNat : Int)
theorem bv_length (l : List UInt8) : (bv l).length = l.length := by simp [bv]
theorem bv_ints (l : List UInt8) : bv l = (l.map fun c => (c.toNat : Int)).map (Value.int .u8) := by simp [bv]
theorem nums_bytes (l : List UInt8) : strOfNums (l.map fun c => (c.toNat : Int)) = ⟨l.toArray⟩ := by
  have h : (strOfNums (l.map fun c => (c.toNat : Int))).data.toList = l := by
    rw [strOfNums_data, List.map_map]
    exact (List.map_congr_left (fun c _ => by simp)).trans (List.map_id l)
  have h2 : (strOfNums (l.map fun c => (c.toNat : Int))).data = l.toArray := by apply Array.toList_inj.1; rw [h]
  show ByteArray.mk _ = _
  exact congrArg ByteArray.mk h2

/-- The octets that a slice holds, as a string. -/
theorem conv_str {P : Program} {w : World} {B : Nat} {A : Option Addr} {n c : Nat} {l : List UInt8} (src dst e : TypeId)
    (hs : P.underlying src = some (.slice e)) (he : P.underlying e = some (.int .u8)) (hd : P.underlying dst = some .string)
    (h : Reads w B 1 A n (bv l)) : (convert src dst (.slice A n c)).run P w = .ok (.string ⟨l.toArray⟩) w := by
  rw [run_convert_bytes_string w src dst e A n c hs he hd]
  have hl : l.length = n := by have := h.1; rw [bv_length] at this; omega
  rcases A with _ | ad
  · have hn : n = 0 := by
      rcases Nat.eq_zero_or_pos n with h0 | h0
      · exact h0
      · obtain ⟨ad, hh, _⟩ := h.2 h0; cases hh
    clear h
    obtain rfl : l = [] := List.eq_nil_of_length_eq_zero (by omega)
    simp [Conv.bytesToString]
    rfl
  · have hl' : (loadCells ad n).run P w = .ok ((l.map fun c => (c.toNat : Int)).map (Value.int .u8)).toArray w := by
      have := run_loadCells_list (P := P) w ad (bv l) (fun j v hj => by
        rcases Nat.eq_zero_or_pos n with h0 | h0
        · subst h0
          obtain rfl : l = [] := List.eq_nil_of_length_eq_zero hl
          simp [bv] at hj
        · obtain ⟨ad', hh, _, hc⟩ := h.2 h0
          injection hh with hh
          subst hh
          exact hc j v hj)
      rw [bv_length, hl, bv_ints] at this
      exact this
    rw [run_bytesToString w ad n c _ hl', foldl_push_bytes, ← nums_bytes l]
    simp [strOfNums, ByteArray.empty, ByteArray.emptyWithCapacity]
    rfl
end Go.Proofs.Ytdnmgpidfjkiaaa
