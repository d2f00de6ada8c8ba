/-
  PLAIN LAWS of many texts, in one.
-/
import Derived.Test.YtnepogddjinpoaaGreatDoorM1
import Derived.Test.YtnepogddjinpoaaGreatDoorQB
import Derived.Test.YtnepogddjinpoaaGreatDoorBytes
import Derived.Test.YtnepogddjinpoaaGreatDoorProg
import Derived.WalkKit
import Derived.Test.YtnepogddjinpoaaGreatDoorShelf
import Derived.OwnWalk
import Derived.Test.YtnepogddjinpoaaGreatDoorM9
import Derived.WalkSpells
import Derived.WalkLawsBesides
import Derived.Lib.SlBuf
import Derived.Test.YtnepogddjinpoaaGreatDoorStr
import Derived.Test.YtnepogddjinpoaaGreatDoorC1
import Derived.Test.YtnepogddjinpoaaGreatDoorM3
namespace Go.Proofs.YtnepogddjinpoaaGreatDoor
open Go.RowKit
set_option linter.unusedVariables false
set_option linter.unusedSimpArgs false

end Go.Proofs.YtnepogddjinpoaaGreatDoor

namespace Go.Proofs.YtnepogddjinpoaaGreatDoor
open Go.RowKit
set_option linter.unusedVariables false
set_option linter.unusedSimpArgs false

/-- Where a key stands. -/
def keyAt (name : List UInt8) : List (List UInt8) → Nat → Option Nat
  | [], _ => none
  | k :: r, i => if k == name then some i else keyAt name r (i + 1)
/-- A record's field, and the error. -/
def fieldR {n : Nat} (d : VN (VT n)) (name : List UInt8) : Option (VT n) × Int :=
  if d.k = 6 then (match (keyAt name d.ks 0).bind fun j => d.l[j]? with | some x => (some x, 0) | none => (none, 14)) else (none, 13)
/-- A list's place, and the error. -/
def indexR {n : Nat} (d : VN (VT n)) (i : Int) : Option (VT n) × Int :=
  if d.k = 5 then (if i < 0 then (none, 15) else match d.l[i.toNat]? with | some x => (some x, 0) | none => (none, 15)) else (none, 13)
end Go.Proofs.YtnepogddjinpoaaGreatDoor

namespace Go.Proofs.YtnepogddjinpoaaGreatDoor
open Go.RowKit
set_option linter.unusedVariables false
set_option linter.unusedSimpArgs false

/-- Prints, one behind the other, each behind what stands ahead of it, with blanks between. -/
def bodyFrom (f : Nat → List UInt8) : Nat → List (List UInt8) → List UInt8
  | _, [] => []
  | j, p :: r => (if j = 0 then [] else [32]) ++ f j ++ p ++ bodyFrom f (j + 1) r
/-- What stands ahead of a record's value, by its place. -/
def keyAhead (ks : List (List UInt8)) (j : Nat) : List UInt8 := (match ks[j]? with | some k => k | none => []) ++ [58]
def printV : (n : Nat) → VT n → List UInt8
  | 0, _ => []
  | n + 1, d =>
    if VN.k d = 0 then [110, 117, 108, 108]
    else if VN.k d = 1 then [102, 97, 108, 115, 101]
    else if VN.k d = 2 then [116, 114, 117, 101]
    else if VN.k d = 3 then pInt (VN.i d)
    else if VN.k d = 5 then [91] ++ bodyFrom (fun _ => []) 0 ((VN.l d).map (printV n)) ++ [93]
    else if VN.k d = 6 then [123] ++ bodyFrom (keyAhead (VN.ks d)) 0 ((VN.l d).map (printV n)) ++ [125]
    else VN.s d
theorem printV_mk {n : Nat} (k i : Int) (s : List UInt8) (l : List (VT n)) (ks : List (List UInt8)) : printV (n + 1) (⟨k, i, s, l, ks⟩ : VN (VT n)) =
    if k = 0 then [110, 117, 108, 108] else if k = 1 then [102, 97, 108, 115, 101] else if k = 2 then [116, 114, 117, 101] else if k = 3 then pInt i
    else if k = 5 then [91] ++ bodyFrom (fun _ => []) 0 (l.map (printV n)) ++ [93] else if k = 6 then [123] ++ bodyFrom (keyAhead ks) 0 (l.map (printV n)) ++ [125] else s := rfl
theorem pInt_le21 (n : Int) (h0 : -9223372036854775808 ≤ n) (h1 : n ≤ 9223372036854775807) : (pInt n).length ≤ 21 := by
  unfold pInt
  have := (decs_len20 n.natAbs (by omega)).1
  split
  · simp; omega
  · omega
theorem sumBy_mul {α : Type} (f : α → Nat) (c : Nat) : ∀ l : List α, sumBy (fun x => c * f x) l = c * sumBy f l := by
  intro l
  induction l with
  | nil => simp [sumBy]
  | cons x l ih => simp only [sumBy, ih, Nat.mul_add]
theorem sumBy_addc {α : Type} (f : α → Nat) (c : Nat) : ∀ l : List α, sumBy (fun x => f x + c) l = sumBy f l + c * l.length := by
  intro l
  induction l with
  | nil => simp [sumBy]
  | cons x l ih => simp only [sumBy, ih, List.length_cons, Nat.mul_succ]; omega
theorem body_len (f : Nat → List UInt8) (g : Nat → Nat) (hf : ∀ j, (f j).length ≤ g j) : ∀ (l : List (List UInt8)) (j : Nat), (bodyFrom f j l).length ≤ sumBy (fun p => p.length + 1) l + sumBy (fun r => g r) (List.range' j l.length) := by
  intro l
  induction l with
  | nil => intro j; simp [bodyFrom, sumBy]
  | cons p l ih =>
    intro j
    have h1 := ih (j + 1)
    have h2 := hf j
    simp only [bodyFrom, List.length_append, sumBy, List.length_cons, List.range'_succ]
    have h3 : (if j = 0 then ([] : List UInt8) else [32]).length ≤ 1 := by split <;> simp
    omega
theorem keys_sum (ks : List (List UInt8)) : ∀ (m j : Nat), sumBy (fun r => (keyAhead ks r).length) (List.range' j m) ≤ m + sumBy (fun k => k.length + 1) (ks.drop j) := by
  intro m
  induction m with
  | zero => intro j; simp [sumBy]
  | succ m ih =>
    intro j
    have h1 := ih (j + 1)
    rw [List.range'_succ]
    simp only [sumBy]
    rcases Nat.lt_or_ge j ks.length with h | h
    · rw [List.drop_eq_getElem_cons h]
      simp only [sumBy]
      have : (keyAhead ks j).length = (ks[j]'h).length + 1 := by unfold keyAhead; rw [List.getElem?_eq_getElem h]; simp
      omega
    · have : (keyAhead ks j).length = 1 := by unfold keyAhead; rw [List.getElem?_eq_none h]; simp
      rw [List.drop_of_length_le (by omega)] at h1 ⊢
      omega
theorem const_sum (c : Nat) : ∀ (m j : Nat), sumBy (fun _ => c) (List.range' j m) = c * m := by
  intro m
  induction m with
  | zero => intro j; simp [sumBy]
  | succ m ih => intro j; rw [List.range'_succ]; simp only [sumBy, ih, Nat.mul_succ]; omega
theorem print_len : ∀ (n : Nat) (d : VT n), NumV n d → (printV n d).length + 4 ≤ 25 * massV n d := by
  intro n
  induction n with
  | zero => intro d _; show 0 + 4 ≤ 25 * 1; omega
  | succ n ih =>
    intro d hn
    obtain ⟨k, i, s, l, ks⟩ := d
    obtain ⟨hi, hl⟩ := hn
    have hl : ∀ x ∈ l, NumV n x := hl
    rw [printV_mk, massV_succ]
    show _ ≤ 25 * (1 + s.length + sumBy (fun k => k.length + 1) ks + sumBy (massV n) l)
    have hsum : sumBy (fun x => (printV n x).length + 4) l ≤ sumBy (fun x => 25 * massV n x) l := sumBy_le l fun x hx => ih x (hl x hx)
    have hmul := sumBy_mul (massV n) 25 l
    have hB : ∀ (f : Nat → List UInt8) (c : Nat), sumBy (fun r => (f r).length) (List.range' 0 l.length) ≤ l.length + c → (bodyFrom f 0 (l.map (printV n))).length + 2 * l.length ≤ 25 * sumBy (massV n) l + c := by
      intro f c hc
      have h1 := body_len f (fun r => (f r).length) (fun j => Nat.le_refl _) (l.map (printV n)) 0
      rw [List.length_map, sumBy_map] at h1
      have h2 := sumBy_addc (fun x => (printV n x).length) 4 l
      have h3 := sumBy_addc (fun x => (printV n x).length) 1 l
      omega
    split
    · simp; omega
    split
    · simp; omega
    split
    · simp; omega
    split
    · have := pInt_le21 i hi.1 hi.2; omega
    split
    · have := hB (fun _ => []) 0 (by simp only [List.length_nil]; rw [const_sum]; omega)
      simp only [List.length_append, List.length_singleton]
      omega
    split
    · have := hB (keyAhead ks) (sumBy (fun k => k.length + 1) ks) (by have := keys_sum ks l.length 0; simpa using this)
      simp only [List.length_append, List.length_singleton]
      omega
    · omega
end Go.Proofs.YtnepogddjinpoaaGreatDoor

namespace Go.Proofs.YtnepogddjinpoaaGreatDoor
open Go.RowKit
set_option linter.unusedVariables false

/-- The room of 20 octets: zeros, then what has been written. -/
def room (p : Nat) (lo : List UInt8) : Array Value := (List.replicate p (Value.int .u8 0) ++ bv lo).toArray
theorem room_at (p : Nat) (lo : List UInt8) (h : 1 ≤ p) : (room p lo)[p - 1]? = some (.int .u8 0) := by
  unfold room
  rw [List.getElem?_toArray, List.getElem?_append_left (by simp; omega), List.getElem?_replicate, if_pos (by omega)]
theorem room_set (p : Nat) (lo : List UInt8) (h : 1 ≤ p) (c : UInt8) : (room p lo).setIfInBounds (p - 1) (.int .u8 (c.toNat : Int)) = room (p - 1) (c :: lo) := by
  unfold room
  rw [List.setIfInBounds_toArray]
  congr 1
  obtain ⟨m, rfl⟩ : ∃ m, p = m + 1 := ⟨p - 1, by omega⟩
  rw [List.replicate_succ', Nat.add_sub_cancel, List.append_assoc, List.set_append_right _ _ (by simp)]
  simp [bv]
theorem room_reads {w : World} {g : Nat} {t : TypeId} {p n : Nat} {lo : List UInt8} (h : Blk w g t (room p lo)) (hl : lo.length = n) : Reads w w.heap.size 1 (some ⟨g, p, none⟩) n (bv lo) := by
  refine ⟨by rw [bv_length]; omega, fun hn => ⟨_, rfl, h.lt, fun j u hu => ?_⟩⟩
  have hadd : (⟨g, p, none⟩ : Addr).add j = ⟨g, p + j, none⟩ := by unfold Addr.add; split <;> simp_all
  rw [hadd, h.cell]
  unfold room
  rw [List.getElem?_toArray, List.getElem?_append_right (by simp)]
  simpa using hu
end Go.Proofs.YtnepogddjinpoaaGreatDoor

namespace Go.Proofs.YtnepogddjinpoaaGreatDoor
open Go.RowKit
set_option linter.unusedVariables false

/-- What holds at the head of the loop: the digits of U are those of u and then lo. -/
def PrintRel (U B : Nat) (w0 : World) (p u : Nat) (lo : List UInt8) (wr : World) : Prop :=
  u ≤ 9223372036854775808 ∧ decs U = decs u ++ lo ∧ lo.length + p = 20 ∧ Blk wr B 213 (room p lo) ∧ Below w0.heap.size w0 wr
theorem PrintRel.p {U B p u w0 lo wr} (h : PrintRel U B w0 p u lo wr) (hU : U ≤ 18446744073709551615) : 1 ≤ p ∧ p ≤ 20 := by
  obtain ⟨h1, h2, h3, _⟩ := h
  have a := decs_len20 U hU
  have b := (decs_len20 u (by omega)).2
  rw [h2, List.length_append] at a
  omega
/-- One digit more. -/
theorem PrintRel.put {U B p u w0 lo wr} (h : PrintRel U B w0 p u lo wr) (hp : 1 ≤ p) (hB : w0.heap.size ≤ B) (hu : ¬ u < 10) :
    PrintRel U B w0 (p - 1) (u / 10) (dig (u % 10) :: lo) (wr.setCell ⟨B, p - 1, none⟩ (.int .u8 (48 + (u : Int) % 10))) := by
  obtain ⟨h1, h2, h3, h4, h5⟩ := h
  refine ⟨by omega, ?_, by simp; omega, ?_, h5.setCell (by simpa using hB) _⟩
  · rw [h2, decs_big u hu]; simp
  · have e : (48 + (u : Int) % 10) = ((dig (u % 10)).toNat : Int) := by rw [dig_toNat _ (by omega)]; omega
    rw [e, ← room_set p lo hp]
    exact h4.set_ _ _
/-- The last digit: the room holds all. -/
theorem PrintRel.last {U B p u w0 lo wr} (h : PrintRel U B w0 p u lo wr) (hp : 1 ≤ p) (hB : w0.heap.size ≤ B) (hu : u < 10) :
    Blk (wr.setCell ⟨B, p - 1, none⟩ (.int .u8 (48 + (u : Int) % 10))) B 213 (room (p - 1) (decs U)) ∧ Below w0.heap.size w0 (wr.setCell ⟨B, p - 1, none⟩ (.int .u8 (48 + (u : Int) % 10))) ∧ (decs U).length + (p - 1) = 20 := by
  obtain ⟨h1, h2, h3, h4, h5⟩ := h
  refine ⟨?_, h5.setCell (by simpa using hB) _, ?_⟩
  · have e : (48 + (u : Int) % 10) = ((dig u).toNat : Int) := by rw [dig_toNat _ (by omega)]; omega
    rw [e, h2, decs_small u hu, List.singleton_append, ← room_set p lo hp]
    exact h4.set_ _ _
  · rw [h2, decs_small u hu]; simp; omega

theorem slice_room (W : World) (B q m : Nat) (h : q + m = 20) (hm : 1 ≤ m) :
    (Instr.sliceAt 213 (.pointer (some ⟨B, 0, none⟩)) (some (.int .i64 (q : Int))) none none).run Tryz.prog W = .ok (.slice (some ⟨B, q, none⟩) m m) W := by
  have e : Tryz.prog.arrayLen 213 = 20 := by kernel_rfl
  have e2 : (sizeOf (Tryz.prog.elem 213)).run Tryz.prog W = .ok 1 W := by kernel_rfl
  rw [run_sliceAt_array_l W 213 ⟨B, 0, none⟩ (by kernel_rfl) .i64 (q : Int) (by omega) (by rw [e]; omega), e2, e]
  have e3 : 20 - q = m := by omega
  have e4 : (if 20 = q then (⟨B, 0, none⟩ : Addr) else (⟨B, 0, none⟩ : Addr).add (q * 1)) = ⟨B, q, none⟩ := by
    rw [if_neg (by omega)]; unfold Addr.add; split <;> simp_all
  simp only [Result.andThen, slicedAt, Int.toNat_natCast, e3, e4]

set_option maxRecDepth 100000 in
set_option maxHeartbeats 400000 in
theorem print_pos (n : Nat) (w : World) (h2 : n ≤ 9223372036854775807) :
    Calls Tryz.prog 129 #[.int .i64 n] w fun e w' => e = .returned (.string ⟨(decs n).toArray⟩) ∧ Below w.heap.size w w' := by
  have hn : ¬ (n : Int) < 0 := by omega
  go_enter Tryz.func129, Tryz.ntmps129
  go_wp2
  go_loopw [4, 5] (fun a v wr => ∃ (p u : Nat) (lo : List UInt8), a = .int .i64 (p : Int) ∧ v = .int .u64 (u : Int) ∧ PrintRel n w.heap.size w p u lo wr)
    (fun _ v _ => (intOf v).toNat)
  case atStart => exact ⟨20, n, [], rfl, rfl, by omega, by simp, rfl, Blk.new _ _ _, (Below.refl _ _).alloc (Nat.le_refl _) _⟩
  case round =>
    obtain ⟨p, u, lo, rfl, rfl, HR⟩ := hrel
    obtain ⟨hp1, hp2⟩ := HR.p (by omega)
    have hu : (u : Int) ≤ 18446744073709551615 := by have := HR.1; omega
    have hc : wr.cell? ⟨w.heap.size, p - 1, none⟩ = some (.int .u8 0) := by rw [HR.2.2.2.1.cell]; exact room_at p lo (by omega)
    have hf : wr.frozen? ⟨w.heap.size, p - 1, none⟩ = false := HR.2.2.2.1.frozen _
    by_cases hz : u < 10
    · have hq := HR.last hp1 (Nat.le_refl _) hz
      have HRR := hide HR; clear HR
      obtain ⟨q, rfl⟩ : ∃ q, p = q + 1 := ⟨p - 1, by omega⟩
      rw [Nat.add_sub_cancel] at hq hc hf
      have hcv := conv_str 119 9 5 Tryz.underlying119 Tryz.underlying5 Tryz.underlying9 (c := (decs n).length) (room_reads (n := (decs n).length) hq.1 rfl)
      have hsl := fun W => slice_room W w.heap.size q (decs n).length (by have := hq.2.2; omega) (by have := hq.2.2; omega)
      have HQ := hide hq; clear hq
      have HZ : ((u : Int) / 10 == 0) = true := by simp; omega
      go_wp2
      go_ret
      exact ⟨rfl, HQ.out.2.1⟩
    · have HQ := hide (HR.put hp1 (Nat.le_refl _) hz)
      have HRR := hide HR; clear HR
      have HZ : ((u : Int) / 10 == 0) = false := by simp; omega
      go_wp2
      go_roundw
      case rel => exact ⟨p - 1, u / 10, _, by go_num, by go_num, HQ.out⟩
      case measure => simp [intOf]; omega

/-- 'uint(n)' of a number below 0, and 0 less that. -/
theorem conv_neg (m : Nat) (h0 : 1 ≤ m) (h1 : m ≤ 9223372036854775808) : ∃ X : Int, (∀ W, (convert 3 214 (.int .i64 (-(m : Int)))).run Tryz.prog W = .ok (.int .u64 X) W) ∧ IntKind.u64.wrap (-X) = (m : Int) := by
  refine ⟨-(m : Int) + 18446744073709551616, fun W => ?_, ?_⟩
  · have e : IntKind.u64.wrap (-(m : Int)) = -(m : Int) + 18446744073709551616 := by simp [IntKind.wrap, IntKind.bits, IntKind.signed]; omega
    go_simp
  · simp [IntKind.wrap, IntKind.bits, IntKind.signed]; omega

/-- copy(b[q:], "-"). -/
theorem copy_dash {W : World} {B q m : Nat} {ty : TypeId} {v : Value} (hm : 1 ≤ m) (hc : W.cell? ⟨B, q, none⟩ = some v) (hf : W.frozen? ⟨B, q, none⟩ = false) :
    (Builtin.copy_ #[119, 9] ty #[.slice (some ⟨B, q, none⟩) m m, .string ⟨#[45]⟩]).run Tryz.prog W = .ok (.int .i64 1) (W.setCell ⟨B, q, none⟩ (.int .u8 45)) := by
  obtain ⟨m, rfl⟩ : ∃ k, m = k + 1 := ⟨m - 1, by omega⟩
  have hmin : Nat.min 1 (m + 1) = 1 := Nat.min_eq_left (by omega)
  have hs : (sizeOf 5).run Tryz.prog W = .ok 1 W := by kernel_rfl
  simp [Builtin.copy_, run_underlying Tryz.underlying119, Builtin.lenOf, Builtin.firstCells, hs, storeCells, go_sem, hc, hf, hmin]

set_option maxRecDepth 100000 in
set_option maxHeartbeats 400000 in
theorem print_neg (m : Nat) (w : World) (h0 : 1 ≤ m) (h1 : m ≤ 9223372036854775808) :
    Calls Tryz.prog 129 #[.int .i64 (-(m : Int))] w fun e w' => e = .returned (.string ⟨(45 :: decs m).toArray⟩) ∧ Below w.heap.size w w' := by
  obtain ⟨X, hX1, hX2⟩ := conv_neg m h0 h1
  have hn : -(m : Int) < 0 := by omega
  have HM := hide h1; clear h1
  go_enter Tryz.func129, Tryz.ntmps129
  go_wp2
  have HX1 := hide hX1; have HX2 := hide hX2; clear hX1 hX2
  go_loopw [4, 5] (fun a v wr => ∃ (p u : Nat) (lo : List UInt8), a = .int .i64 (p : Int) ∧ v = .int .u64 (u : Int) ∧ PrintRel m w.heap.size w p u lo wr)
    (fun _ v _ => (intOf v).toNat)
  case atStart => exact ⟨20, m, [], rfl, rfl, HM.out, by simp, rfl, Blk.new _ _ _, (Below.refl _ _).alloc (Nat.le_refl _) _⟩
  case round =>
    obtain ⟨p, u, lo, rfl, rfl, HR⟩ := hrel
    obtain ⟨hp1, hp2⟩ := HR.p (by have := HM.out; omega)
    have hu : (u : Int) ≤ 18446744073709551615 := by have := HR.1; omega
    have hc : wr.cell? ⟨w.heap.size, p - 1, none⟩ = some (.int .u8 0) := by rw [HR.2.2.2.1.cell]; exact room_at p lo (by omega)
    have hf : wr.frozen? ⟨w.heap.size, p - 1, none⟩ = false := HR.2.2.2.1.frozen _
    by_cases hz : u < 10
    · have hq := HR.last hp1 (Nat.le_refl _) hz
      have HRR := hide HR; clear HR
      have hl19 := (decs_len 18 m (by have := HM.out; omega)).1
      obtain ⟨q, rfl⟩ : ∃ q, p = q + 1 + 1 := ⟨p - 2, by have := hq.2.2; omega⟩
      rw [Nat.add_sub_cancel] at hq hc hf
      have hlt : w.heap.size < wr.heap.size := HRR.out.2.2.2.1.lt
      have hc2 : (wr.setCell ⟨w.heap.size, q + 1, none⟩ (.int .u8 (48 + (u : Int) % 10))).cell? ⟨w.heap.size, q, none⟩ = some (.int .u8 0) := by rw [hq.1.cell]; exact room_at (q + 1) _ (by omega)
      have hf2 : (wr.setCell ⟨w.heap.size, q + 1, none⟩ (.int .u8 (48 + (u : Int) % 10))).frozen? ⟨w.heap.size, q, none⟩ = false := hq.1.frozen _
      have hcp := copy_dash (m := (decs m).length + 1) (ty := 3) (by omega) hc2 hf2
      have hb2 : Blk ((wr.setCell ⟨w.heap.size, q + 1, none⟩ (.int .u8 (48 + (u : Int) % 10))).setCell ⟨w.heap.size, q, none⟩ (.int .u8 45)) w.heap.size 213 (room q (45 :: decs m)) := by
        rw [show room q (45 :: decs m) = room (q + 1 - 1) (45 :: decs m) from rfl, ← room_set (q + 1) (decs m) (by omega) 45]
        exact hq.1.set_ _ _
      have hbel := hq.2.1.setCell (p := ⟨w.heap.size, q, none⟩) (Nat.le_refl _) (.int .u8 45)
      have hcv := conv_str 119 9 5 Tryz.underlying119 Tryz.underlying5 Tryz.underlying9 (c := (decs m).length + 1) (room_reads (n := (decs m).length + 1) hb2 rfl)
      have hsl := fun W => slice_room W w.heap.size q ((decs m).length + 1) (by have := hq.2.2; omega) (by have := hq.2.2; omega)
      clear hc2 hf2 hb2
      have HQ := hide hbel; clear hq hbel
      have HZ : ((u : Int) / 10 == 0) = true := by simp; omega
      go_wp2_with (at_builtin; refine Lib.wpList_copy_run _ rfl _ _ 119 9 rfl _ _ rfl rfl hcp ?_)
      go_ret
      exact ⟨rfl, HQ.out⟩
    · have HQ := hide (HR.put hp1 (Nat.le_refl _) hz)
      have HRR := hide HR; clear HR
      have HZ : ((u : Int) / 10 == 0) = false := by simp; omega
      go_wp2
      go_roundw
      case rel => exact ⟨p - 1, u / 10, _, by go_num, by go_num, HQ.out⟩
      case measure => simp [intOf]; omega

theorem print_any (n : Int) (w : World) (h0 : -9223372036854775808 ≤ n) (h1 : n ≤ 9223372036854775807) :
    Calls Tryz.prog 129 #[.int .i64 n] w fun e w' => e = .returned (.string ⟨(pInt n).toArray⟩) ∧ Below w.heap.size w w' := by
  by_cases h : n < 0
  · obtain ⟨m, rfl⟩ : ∃ m : Nat, n = -(m : Int) := ⟨n.natAbs, by omega⟩
    rw [show pInt (-(m : Int)) = 45 :: decs m by unfold pInt; rw [if_pos h]; simp]
    exact print_neg m w (by omega) (by omega)
  · obtain ⟨m, rfl⟩ := Int.eq_ofNat_of_zero_le (show 0 ≤ n by omega)
    rw [show pInt (m : Int) = decs m by unfold pInt; rw [if_neg h]; simp]
    exact print_pos m w (by omega)
end Go.Proofs.YtnepogddjinpoaaGreatDoor

namespace Go.Proofs.YtnepogddjinpoaaGreatDoor
open Go.RowKit
set_option linter.unusedVariables false

end Go.Proofs.YtnepogddjinpoaaGreatDoor

namespace Go.Proofs.YtnepogddjinpoaaGreatDoor
open Go.RowKit
set_option linter.unusedVariables false
set_option linter.unusedSimpArgs false

end Go.Proofs.YtnepogddjinpoaaGreatDoor

namespace Go.Proofs.YtnepogddjinpoaaGreatDoor
open Go.RowKit
set_option linter.unusedVariables false
set_option linter.unusedSimpArgs false

end Go.Proofs.YtnepogddjinpoaaGreatDoor

namespace Go.Proofs.YtnepogddjinpoaaGreatDoor
open Go.RowKit
set_option linter.unusedVariables false
set_option linter.unusedSimpArgs false

/-- Texts with one between, from the j-th on. -/
def sepFrom (sep : List UInt8) : Nat → List (List UInt8) → List UInt8
  | _, [] => []
  | j, p :: r => (if j = 0 then [] else sep) ++ p ++ sepFrom sep (j + 1) r
end Go.Proofs.YtnepogddjinpoaaGreatDoor

namespace Go.Proofs.YtnepogddjinpoaaGreatDoor
open Go.RowKit
set_option linter.unusedVariables false
set_option linter.unusedSimpArgs false

/-- A value as one of a greater depth. -/
def liftV : (n : Nat) → VT n → VT (n + 1)
  | 0, x => x.elim
  | n + 1, d => (⟨VN.k d, VN.i d, VN.s d, (VN.l d).map (liftV n), VN.ks d⟩ : VN (VT (n + 1)))
theorem lift_mass : ∀ (n : Nat) (d : VT n), massV (n + 1) (liftV n d) = massV n d := by
  intro n
  induction n with
  | zero => intro d; exact d.elim
  | succ n ih =>
    intro d
    have h : ∀ l : List (VT n), sumBy (massV (n + 1)) (l.map (liftV n)) = sumBy (massV n) l := by
      intro l
      induction l with
      | nil => rfl
      | cons x l ihl => simp only [List.map_cons, sumBy, ih, ihl]
    show 1 + (VN.s d).length + sumBy (fun k => k.length + 1) (VN.ks d) + sumBy (massV (n + 1)) ((VN.l d).map (liftV n)) = 1 + (VN.s d).length + sumBy (fun k => k.length + 1) (VN.ks d) + sumBy (massV n) (VN.l d)
    rw [h]
theorem lift_num : ∀ (n : Nat) (d : VT n), NumV n d → NumV (n + 1) (liftV n d) := by
  intro n
  induction n with
  | zero => intro d _; exact d.elim
  | succ n ih =>
    intro d h
    refine ⟨h.1, fun x hx => ?_⟩
    have hx : x ∈ (VN.l d).map (liftV n) := hx
    obtain ⟨y, hy, rfl⟩ := List.mem_map.1 hx
    exact ih y (h.2 y hy)
section
variable {n : Nat}
abbrev VD (n : Nat) := VN (VT n)
def nullD : VD n := ⟨0, 0, [], [], []⟩
def textD (s : List UInt8) : VD n := ⟨4, 0, s, [], []⟩
def intD (i : Int) : VD n := ⟨3, i, [], [], []⟩
def truthD (b : Bool) : VD n := ⟨if b then 2 else 1, 0, [], [], []⟩
/-- What is told: a value and no error, or an error. -/
abbrev ResD (n : Nat) := Option (VD n) × Int
def isTrue (d : VD n) : Bool := truthC d.k d.i ⟨d.s.toArray⟩ d.l.length
def madeD (s : List UInt8) : ResD n := if 4096 < s.length then (none, 5) else (some (textD s), 0)
def upD (r : Option (VT n) × Int) : ResD n := (r.1.map (liftV n), r.2)
def twoR (name : List UInt8) (a b : VD n) : ResD n :=
  if name = [101, 113] then (some (truthD (eqV (n + 1) a b)), 0)
  else if name = [108, 116] then
    (if a.k = 3 ∧ b.k = 3 then (some (truthD (decide (a.i < b.i))), 0) else if a.k = 4 ∧ b.k = 4 then (some (truthD (Op.bytesLess a.s b.s)), 0) else (none, 13))
  else if name = [97, 110, 100] then (some (if isTrue a then b else a), 0)
  else if name = [111, 114] then (some (if isTrue a then a else b), 0)
  else if name = [100, 101, 102, 97, 117, 108, 116] then (some (if isTrue b then b else a), 0)
  else if name = [105, 110, 100, 101, 120] then
    (if a.k = 5 ∧ b.k = 3 then upD (indexR a b.i) else if a.k = 6 ∧ b.k = 4 then upD (fieldR a b.s) else (none, 13))
  else if a.k = 5 ∧ b.k = 4 then madeD (sepFrom b.s 0 (a.l.map (printV n))) else (none, 13)
def callR (name : List UInt8) (l : List (VD n)) : ResD n :=
  let r := arityB ⟨name.toArray⟩
  if r.2.2 = false then (none, 31)
  else if (l.length : Int) < r.1 ∨ r.2.1 < (l.length : Int) then (none, 3)
  else match l with
    | [] => (none, 3)
    | a :: t =>
      if name = [108, 101, 110] then (let q := lenC a.k ⟨a.s.toArray⟩ a.l.length; if q.2 = 0 then (some (intD q.1), 0) else (none, q.2))
      else if name = [110, 111, 116] then (some (truthD (!isTrue a)), 0)
      else if name = [112, 114, 105, 110, 116] then madeD (sepFrom [32] 0 (l.map (printV (n + 1))))
      else if name = [117, 112, 112, 101, 114] then (if a.k = 4 then (some (textD (a.s.map greatB)), 0) else (none, 13))
      else if name = [108, 111, 119, 101, 114] then (if a.k = 4 then (some (textD (a.s.map smallB)), 0) else (none, 13))
      else match t with
        | [] => (none, 3)
        | b :: _ => twoR name a b
/-- What names stand for. -/
structure EnvD (n : Nat) where
  root : VD n
  dot : VD n
  vars : List (List UInt8 × VD n)
/-- The value of the last variable of a name. -/
def lastOf (name : List UInt8) : List (List UInt8 × VD n) → Option (VD n) → Option (VD n)
  | [], r => r
  | x :: l, r => lastOf name l (if x.1 = name then some x.2 else r)
def pathR : List (List UInt8) → VD n → ResD n
  | [], v => (some v, 0)
  | p :: r, v => match upD (fieldR v p) with
    | (some x, 0) => pathR r x
    | (_, e) => (none, e)
def argR (e : EnvD n) (a : ArgD) : ResD n :=
  if a.k = 1 then pathR a.path e.dot
  else if a.k = 2 then
    (match (if a.nm = [] then some e.root else lastOf a.nm e.vars none) with
    | some v => pathR a.path v
    | none => (none, 31))
  else if a.k = 3 then (some (intD a.i), 0)
  else if a.k = 4 then (some (textD a.s), 0)
  else if a.k = 5 then (some (truthD true), 0)
  else if a.k = 6 then (some (truthD false), 0)
  else if a.k = 7 then (some nullD, 0)
  else (none, 9)
def argsR (e : EnvD n) : List ArgD → Option (List (VD n)) × Int
  | [] => (some [], 0)
  | a :: r => match argR e a with
    | (some v, 0) => (match argsR e r with | (some l, 0) => (some (v :: l), 0) | (_, f) => (none, f))
    | (_, f) => (none, f)
/-- One call, with what the one ahead told. -/
def stepR (e : EnvD n) (c : CallD) (last : Option (VD n)) : ResD n :=
  match argsR e c.args with
  | (some l, 0) =>
    (let l := l ++ last.toList
     if c.nm ≠ [] then callR c.nm l else match l with | [v] => (some v, 0) | _ => (none, 9))
  | (_, f) => (none, f)
def pipeFrom (e : EnvD n) : List CallD → Option (VD n) → ResD n
  | [], last => (last, 0)
  | c :: r, last => match stepR e c last with
    | (some v, 0) => pipeFrom e r (some v)
    | (_, f) => (none, f)
def pipeR (e : EnvD n) (l : List CallD) : ResD n := if l = [] then (none, 9) else pipeFrom e l none
end
end Go.Proofs.YtnepogddjinpoaaGreatDoor

namespace Go.Proofs.YtnepogddjinpoaaGreatDoor
open Go.RowKit
set_option linter.unusedVariables false
set_option linter.unusedSimpArgs false

section
variable {n : Nat}
def GoodD (d : VD n) : Prop := massV (n + 1) d ≤ 1048576 ∧ NumV (n + 1) d
def FineR (r : ResD n) : Prop := (∃ d, r = (some d, 0) ∧ GoodD d) ∨ (∃ f, r = (none, f) ∧ f ≠ 0)
theorem fine_err {f : Int} (h : f ≠ 0) : FineR (n := n) (none, f) := .inr ⟨f, rfl, h⟩
theorem fine_val {d : VD n} (h : GoodD d) : FineR (some d, 0) := .inl ⟨d, rfl, h⟩
theorem good_flat (k i : Int) (s : List UInt8) (hs : s.length ≤ 1048575) (h1 : -9223372036854775808 ≤ i) (h2 : i ≤ 9223372036854775807) : GoodD (⟨k, i, s, [], []⟩ : VD n) := by
  refine ⟨?_, ⟨h1, h2⟩, fun x hx => by cases hx⟩
  rw [massV_succ]
  simp only [sumBy]
  omega
theorem good_text {s : List UInt8} (hs : s.length ≤ 1048575) : GoodD (textD (n := n) s) := good_flat _ _ _ hs (by decide) (by decide)
theorem good_int {i : Int} (h1 : -9223372036854775808 ≤ i) (h2 : i ≤ 9223372036854775807) : GoodD (intD (n := n) i) := good_flat _ _ _ (by decide) h1 h2
theorem good_truth (b : Bool) : GoodD (truthD (n := n) b) := good_flat _ _ _ (by decide) (by decide) (by decide)
theorem good_null : GoodD (nullD (n := n)) := good_flat _ _ _ (by decide) (by decide) (by decide)
theorem good_len {d : VD n} (h : GoodD d) : d.s.length ≤ 1048575 ∧ d.l.length ≤ 1048575 := by
  have h1 := h.1
  rw [massV_succ] at h1
  have h2 := sumBy_len (massV n) (massV_pos n) d.l
  omega
theorem good_part {d : VD n} (h : GoodD d) {x : VT n} (hx : x ∈ d.l) : GoodD (liftV n x) := by
  refine ⟨?_, lift_num n x (h.2.2 x hx)⟩
  rw [lift_mass]
  have h1 := h.1
  rw [massV_succ] at h1
  have h2 := sumBy_mem (massV n) d.l x hx
  omega
theorem made_fine (s : List UInt8) : FineR (madeD (n := n) s) := by
  unfold madeD
  split
  · exact fine_err (by decide)
  · exact fine_val (good_text (by omega))
theorem field_fine {d : VD n} (h : GoodD d) (name : List UInt8) : FineR (upD (fieldR d name)) := by
  unfold fieldR
  split
  · split
    · rename_i x hx
      obtain ⟨j, _, hj⟩ := Option.bind_eq_some_iff.1 hx
      exact fine_val (good_part h (List.mem_of_getElem? hj))
    · exact fine_err (f := 14) (by decide)
  · exact fine_err (f := 13) (by decide)
theorem index_fine {d : VD n} (h : GoodD d) (i : Int) : FineR (upD (indexR d i)) := by
  unfold indexR
  split
  · split
    · exact fine_err (f := 15) (by decide)
    · split
      · rename_i x hx
        exact fine_val (good_part h (List.mem_of_getElem? hx))
      · exact fine_err (f := 15) (by decide)
  · exact fine_err (f := 13) (by decide)
theorem len_range (k : Int) (s : List UInt8) (m : Nat) (hs : s.length ≤ 1048575) (hm : m ≤ 1048575) : -9223372036854775808 ≤ (lenC k ⟨s.toArray⟩ m).1 ∧ (lenC k ⟨s.toArray⟩ m).1 ≤ 9223372036854775807 := by
  have hz : (⟨s.toArray⟩ : ByteArray).size = s.length := mkSize s
  unfold lenC
  split
  · constructor <;> (show _ ≤ _) <;> simp only [] <;> omega
  · split
    · rw [hz]
      constructor <;> (show _ ≤ _) <;> simp only [] <;> omega
    · constructor <;> decide
theorem two_fine (name : List UInt8) {a b : VD n} (ha : GoodD a) (hb : GoodD b) : FineR (twoR name a b) := by
  unfold twoR
  split
  · exact fine_val (good_truth _)
  · split
    · split
      · exact fine_val (good_truth _)
      · split
        · exact fine_val (good_truth _)
        · exact fine_err (by decide)
    · split
      · exact fine_val (by split <;> assumption)
      · split
        · exact fine_val (by split <;> assumption)
        · split
          · exact fine_val (by split <;> assumption)
          · split
            · split
              · exact index_fine ha _
              · split
                · exact field_fine ha _
                · exact fine_err (by decide)
            · split
              · exact made_fine _
              · exact fine_err (by decide)
theorem call_fine (name : List UInt8) (l : List (VD n)) (h : ∀ x ∈ l, GoodD x) : FineR (callR name l) := by
  unfold callR
  simp only []
  split
  · exact fine_err (by decide)
  · split
    · exact fine_err (by decide)
    · cases l with
      | nil => exact fine_err (by decide)
      | cons a t =>
        have ha := h a (by simp)
        have hl := good_len ha
        simp only []
        split
        · split
          · exact fine_val (good_int (len_range _ _ _ hl.1 hl.2).1 (len_range _ _ _ hl.1 hl.2).2)
          · rename_i h2
            exact fine_err h2
        · split
          · exact fine_val (good_truth _)
          · split
            · exact made_fine _
            · split
              · split
                · exact fine_val (good_text (by rw [List.length_map]; omega))
                · exact fine_err (by decide)
              · split
                · split
                  · exact fine_val (good_text (by rw [List.length_map]; omega))
                  · exact fine_err (by decide)
                · cases t with
                  | nil => exact fine_err (by decide)
                  | cons b r => exact two_fine _ ha (h b (by simp))
theorem path_fine : ∀ (p : List (List UInt8)) {v : VD n}, GoodD v → FineR (pathR p v) := by
  intro p
  induction p with
  | nil => intro v h; exact fine_val h
  | cons x p ih =>
    intro v h
    unfold pathR
    rcases field_fine h x with ⟨d, e, g⟩ | ⟨f, e, g⟩
    · rw [e]; exact ih g
    · rw [e]; exact fine_err g
def GoodA (a : ArgD) : Prop := (-9223372036854775808 ≤ a.i ∧ a.i ≤ 9223372036854775807) ∧ a.s.length ≤ 1048575
structure GoodE (e : EnvD n) : Prop where
  root : GoodD e.root
  dot : GoodD e.dot
  vars : ∀ x ∈ e.vars, GoodD x.2
theorem last_good (name : List UInt8) : ∀ (l : List (List UInt8 × VD n)) (r : Option (VD n)), (∀ x ∈ l, GoodD x.2) → (∀ d, r = some d → GoodD d) → ∀ d, lastOf name l r = some d → GoodD d := by
  intro l
  induction l with
  | nil => intro r _ hr d h; exact hr d h
  | cons x l ih =>
    intro r hl hr d h
    unfold lastOf at h
    refine ih _ (fun y hy => hl y (by simp [hy])) ?_ d h
    intro d' h'
    split at h'
    · injection h' with h'; rw [← h']; exact hl x (by simp)
    · exact hr d' h'
theorem arg_fine {e : EnvD n} (he : GoodE e) {a : ArgD} (ha : GoodA a) : FineR (argR e a) := by
  unfold argR
  split
  · exact path_fine _ he.dot
  · split
    · split
      · rename_i v hv
        refine path_fine _ ?_
        split at hv
        · injection hv with hv; rw [← hv]; exact he.root
        · exact last_good _ _ _ he.vars (by intro d h; cases h) _ hv
      · exact fine_err (by decide)
    · split
      · exact fine_val (good_int ha.1.1 ha.1.2)
      · split
        · exact fine_val (good_text ha.2)
        · split
          · exact fine_val (good_truth _)
          · split
            · exact fine_val (good_truth _)
            · split
              · exact fine_val good_null
              · exact fine_err (by decide)
def FineL (r : Option (List (VD n)) × Int) (m : Nat) : Prop := (∃ l, r = (some l, 0) ∧ (∀ x ∈ l, GoodD x) ∧ l.length = m) ∨ (∃ f, r = (none, f) ∧ f ≠ 0)
theorem args_fine {e : EnvD n} (he : GoodE e) : ∀ (l : List ArgD), (∀ a ∈ l, GoodA a) → FineL (argsR e l) l.length := by
  intro l
  induction l with
  | nil => intro _; exact .inl ⟨[], rfl, fun x hx => (by cases hx), rfl⟩
  | cons a l ih =>
    intro h
    unfold argsR
    rcases arg_fine he (h a (by simp)) with ⟨d, e1, g⟩ | ⟨f, e1, g⟩
    · rw [e1]
      rcases ih (fun x hx => h x (by simp [hx])) with ⟨r, e2, g2, g3⟩ | ⟨f, e2, g2⟩
      · simp only [e2]
        exact .inl ⟨d :: r, rfl, fun x hx => by rcases List.mem_cons.1 hx with h1 | h1; exact h1 ▸ g; exact g2 x h1, by simp [g3]⟩
      · simp only [e2]
        exact .inr ⟨f, rfl, g2⟩
    · rw [e1]
      exact .inr ⟨f, rfl, g⟩
theorem step_fine {e : EnvD n} (he : GoodE e) {c : CallD} (hc : ∀ a ∈ c.args, GoodA a) {last : Option (VD n)} (hl : ∀ d, last = some d → GoodD d) : FineR (stepR e c last) := by
  unfold stepR
  rcases args_fine he c.args hc with ⟨l, e1, g, _⟩ | ⟨f, e1, g⟩
  · rw [e1]
    have hg : ∀ x ∈ l ++ last.toList, GoodD x := by
      intro x hx
      rcases List.mem_append.1 hx with h1 | h1
      · exact g x h1
      · exact hl x (by simpa using h1)
    simp only []
    split
    · exact call_fine _ _ hg
    · split
      · rename_i v hv
        exact fine_val (hg v (by rw [hv]; simp))
      · exact fine_err (by decide)
  · rw [e1]
    exact fine_err g
theorem from_fine {e : EnvD n} (he : GoodE e) : ∀ (l : List CallD), (∀ c ∈ l, ∀ a ∈ c.args, GoodA a) → ∀ {last : Option (VD n)}, (∀ d, last = some d → GoodD d) → (l = [] → last.isSome = true) → FineR (pipeFrom e l last) := by
  intro l
  induction l with
  | nil =>
    intro _ last hl hs
    obtain ⟨d, rfl⟩ := Option.isSome_iff_exists.1 (hs rfl)
    exact fine_val (hl d rfl)
  | cons c l ih =>
    intro h last hl _
    unfold pipeFrom
    rcases step_fine he (h c (by simp)) hl with ⟨d, e1, g⟩ | ⟨f, e1, g⟩
    · rw [e1]
      exact ih (fun x hx => h x (by simp [hx])) (by intro d' h'; injection h' with h'; rw [← h']; exact g) (fun _ => rfl)
    · rw [e1]
      exact fine_err g
theorem pipe_fine {e : EnvD n} (he : GoodE e) {l : List CallD} (h : ∀ c ∈ l, ∀ a ∈ c.args, GoodA a) : FineR (pipeR e l) := by
  unfold pipeR
  split
  · exact fine_err (by decide)
  · exact from_fine he l h (by intro d h; cases h) (fun h1 => absurd h1 (by assumption))
end
end Go.Proofs.YtnepogddjinpoaaGreatDoor
