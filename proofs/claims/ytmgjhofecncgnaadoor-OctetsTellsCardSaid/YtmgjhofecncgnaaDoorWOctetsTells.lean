/-
  OctetsTells: what any octet is, any text in small and great letters, whether it is a name, begins with another one, and it trimmed, are as the page says. THE WALK.
-/
import Derived.Test.YtmgjhofecncgnaaDoorRefName
namespace Go.Proofs.YtmgjhofecncgnaaDoor
open Go.RowKit
set_option linter.unusedVariables false
set_option linter.unusedSimpArgs false

set_option maxHeartbeats 2000000 in
set_option maxRecDepth 100000 in
theorem octetsTells_gen (x : Int) (a1 a2 : ByteArray) (b1 b2 b3 b4 : Bool) (lo up tr : ByteArray) (w : World)
    (c1 : Hid (∀ w, Calls Tryd.prog 5 #[.int .u8 x] w fun e w' => e = .returned (.bool b1) ∧ w = w'))
    (d1 : Hid (∀ w, Calls Tryd.prog 6 #[.int .u8 x] w fun e w' => e = .returned (.bool b1) ∧ w = w'))
    (c2 : Hid (∀ w, Calls Tryd.prog 7 #[.int .u8 x] w fun e w' => e = .returned (.bool b2) ∧ w = w'))
    (d2 : Hid (∀ w, Calls Tryd.prog 8 #[.int .u8 x] w fun e w' => e = .returned (.bool b2) ∧ w = w'))
    (c3 : Hid (∀ w, Calls Tryd.prog 9 #[.string a1] w fun e w' => e = .returned (.string lo) ∧ Below w.heap.size w w'))
    (d3 : Hid (∀ w, Calls Tryd.prog 10 #[.string a1] w fun e w' => e = .returned (.string lo) ∧ Below w.heap.size w w'))
    (c4 : Hid (∀ w, Calls Tryd.prog 11 #[.string a1] w fun e w' => e = .returned (.string up) ∧ Below w.heap.size w w'))
    (d4 : Hid (∀ w, Calls Tryd.prog 12 #[.string a1] w fun e w' => e = .returned (.string up) ∧ Below w.heap.size w w'))
    (c5 : Hid (∀ w, Calls Tryd.prog 13 #[.string a1] w fun e w' => e = .returned (.bool b3) ∧ Below w.heap.size w w'))
    (d5 : Hid (∀ w, Calls Tryd.prog 14 #[.string a1] w fun e w' => e = .returned (.bool b3) ∧ w = w'))
    (c6 : Hid (∀ w, Calls Tryd.prog 15 #[.string a1, .string a2] w fun e w' => e = .returned (.bool b4) ∧ Below w.heap.size w w'))
    (d6 : Hid (∀ w, Calls Tryd.prog 16 #[.string a1, .string a2] w fun e w' => e = .returned (.bool b4) ∧ Below w.heap.size w w'))
    (c7 : Hid (∀ w, Calls Tryd.prog 17 #[.string a1] w fun e w' => e = .returned (.string tr) ∧ Below w.heap.size w w'))
    (d7 : Hid (∀ w, Calls Tryd.prog 18 #[.string a1] w fun e w' => e = .returned (.string tr) ∧ w = w')) :
    Calls Tryd.prog 3 #[.int .u8 x, .string a1, .string a2] w fun e w' => e = .returned (.bool true) ∧ Below w.heap.size w w' := by
  go_enter Tryd.func3, Tryd.ntmps3
  go_wp2_with fail
  refine (c1.out _).mono ?_
  rintro e w1 ⟨rfl, rfl⟩
  go_wp2_with fail
  refine (d1.out _).mono ?_
  rintro e w1 ⟨rfl, rfl⟩
  go_wp2_with fail
  refine (c2.out _).mono ?_
  rintro e w1 ⟨rfl, rfl⟩
  go_wp2_with fail
  refine (d2.out _).mono ?_
  rintro e w1 ⟨rfl, rfl⟩
  go_wp2_with fail
  refine (c3.out _).mono ?_
  rintro e w1 ⟨rfl, hb⟩
  go_wp2_with fail
  refine (d3.out _).mono ?_
  rintro e w2 ⟨rfl, hb2⟩
  have hb := below_step hb hb2
  go_wp2_with fail
  refine (c4.out _).mono ?_
  rintro e w3 ⟨rfl, hb3⟩
  have hb := below_step hb hb3
  go_wp2_with fail
  refine (d4.out _).mono ?_
  rintro e w4 ⟨rfl, hb4⟩
  have hb := below_step hb hb4
  go_wp2_with fail
  refine (c5.out _).mono ?_
  rintro e w5 ⟨rfl, hb5⟩
  have hb := below_step hb hb5
  go_wp2_with fail
  refine (d5.out _).mono ?_
  rintro e w6 ⟨rfl, rfl⟩
  go_wp2_with fail
  refine (c6.out _).mono ?_
  rintro e w6 ⟨rfl, hb6⟩
  have hb := below_step hb hb6
  go_wp2_with fail
  refine (d6.out _).mono ?_
  rintro e w7 ⟨rfl, hb7⟩
  have hb := below_step hb hb7
  go_wp2_with fail
  refine (c7.out _).mono ?_
  rintro e w8 ⟨rfl, hb8⟩
  have hb := below_step hb hb8
  go_wp2_with fail
  refine (d7.out _).mono ?_
  rintro e w9 ⟨rfl, rfl⟩
  go_wp2_with (go_at_call 19; refine (alive01 _).mono ?_; rintro e w9 ⟨rfl, hb9⟩)
  go_ret
  exact ⟨rfl, below_step hb hb9⟩

theorem octetsTells_walk (a0 : Int) (lo0 : 0 ≤ a0) (hi0 : a0 ≤ 255) (a1 : ByteArray) (s1 : a1.size ≤ 140737488351232) (a2 : ByteArray) (s2 : a2.size ≤ 140737488351232) (w : World) (hu : True) :
    Calls Tryd.prog 3 #[.int .u8 a0, .string a1, .string a2] w fun e w' => e = .returned (.bool true) ∧ Below w.heap.size w w' := by
  obtain ⟨c, rfl⟩ : ∃ c : UInt8, a0 = (c.toNat : Int) := ⟨UInt8.ofNat a0.toNat, by rw [UInt8.toNat_ofNat']; omega⟩
  exact octetsTells_gen _ a1 a2 _ _ _ _ _ _ _ w (fun w => blank_any c w) (fun w => refBlank_any c w) (fun w => letter_any c w) (fun w => refLetter_any c w)
    (fun w => octLower_any a1 w (by omega)) (fun w => refLower_any a1 w s1) (fun w => upper_any a1 w (by omega)) (fun w => refUpper_any a1 w s1)
    (fun w => name_any a1 w (by omega)) (fun w => refName_any a1 w s1) (fun w => starts_any a1 a2 w (by omega) (by omega)) (fun w => refStarts_any a1 a2 w s1 s2)
    (fun w => octTrim_all a1 w (by omega)) (fun w => refTrim_any a1 w s1)
end Go.Proofs.YtmgjhofecncgnaaDoor
