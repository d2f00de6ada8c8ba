/-
  OctetsCases: small letters of great ones are small ones; a text begins with itself, however it is written; trimmed twice is as once. THE WALK.
-/
import Derived.Test.YtmgjhofecncgnaaDoorTrim
import Derived.Test.YtmgjhofecncgnaaDoorLaw01
namespace Go.Proofs.YtmgjhofecncgnaaDoor
open Go.RowKit
set_option linter.unusedVariables false
set_option linter.unusedSimpArgs false

theorem small_great (c : UInt8) : smallB (greatB c) = smallB c := by
  have := allBytes (fun c => smallB (greatB c) == smallB c) (by decide +kernel) c
  simpa using this
theorem drop_snoc_no (r : List UInt8) (c : UInt8) (h : isBlank c = false) : (r ++ [c]).dropWhile isBlank = r.dropWhile isBlank ++ [c] := by
  induction r with
  | nil => simp [h]
  | cons b r ih =>
    cases hb : isBlank b
    · simp [hb]
    · simp [hb, ih]
theorem drop_snoc_blank (r : List UInt8) (c : UInt8) (h : isBlank c = true) : (r ++ [c]).dropWhile isBlank = if r.dropWhile isBlank = [] then [] else r.dropWhile isBlank ++ [c] := by
  induction r with
  | nil => simp [h]
  | cons b r ih =>
    cases hb : isBlank b
    · simp [hb]
    · simp [hb, ih]
theorem drop_drop (l : List UInt8) : (l.dropWhile isBlank).dropWhile isBlank = l.dropWhile isBlank := by
  induction l with
  | nil => rfl
  | cons b r ih =>
    cases hb : isBlank b
    · simp [hb]
    · simp [hb, ih]
theorem drop_form (l : List UInt8) : l.dropWhile isBlank = [] ∨ ∃ c r, l.dropWhile isBlank = c :: r ∧ isBlank c = false := by
  induction l with
  | nil => exact .inl rfl
  | cons b r ih =>
    cases hb : isBlank b
    · exact .inr ⟨b, r, by simp [hb], hb⟩
    · simpa [hb] using ih
theorem trimR_form (l : List UInt8) : trimR l = [] ∨ ∃ r c, trimR l = r ++ [c] ∧ isBlank c = false := by
  unfold trimR
  rcases drop_form l.reverse with h | ⟨c, r, h, hc⟩
  · exact .inl (by rw [h]; rfl)
  · exact .inr ⟨r.reverse, c, by rw [h]; simp, hc⟩
theorem trimL_twice (l : List UInt8) : trimL (trimL l) = trimL l := by
  unfold trimL
  have h1 : trimR ((trimR l).dropWhile isBlank) = (trimR l).dropWhile isBlank := by
    rcases trimR_form l with h | ⟨r, c, h, hc⟩
    · rw [h]; rfl
    · rw [h, drop_snoc_no _ _ hc, trimR_other _ _ hc]
  rw [h1, drop_drop]
theorem trimL_wide (l : List UInt8) : trimL (32 :: (l ++ [10])) = trimL l := by
  unfold trimL
  rw [show 32 :: (l ++ [10]) = (32 :: l) ++ [10] by rfl, trimR_blank _ _ (by decide)]
  have h1 : trimR (32 :: l) = if trimR l = [] then [] else 32 :: trimR l := by
    unfold trimR
    rw [List.reverse_cons, drop_snoc_blank _ _ (by decide)]
    by_cases h : List.dropWhile isBlank l.reverse = []
    · simp [h]
    · simp [h]
  rw [h1]
  by_cases h : trimR l = []
  · rw [if_pos h, h]
  · rw [if_neg h, List.dropWhile_cons, if_pos (by decide)]

theorem ba_ext {t : ByteArray} {l : List UInt8} (h : t.data.toList = l) : t = ⟨l.toArray⟩ := by
  subst h
  cases t
  simp
theorem octTrim_all (s : ByteArray) (w : World) (hs : s.size ≤ 4611686018427387903) :
    Calls Tryd.prog 17 #[.string s] w fun e w' => e = .returned (.string ⟨(trimL s.data.toList).toArray⟩) ∧ Below w.heap.size w w' :=
  (octTrim_any s w hs).mono fun e w' ⟨t, he, hb, ht⟩ => ⟨by rw [he, ba_ext ht], hb⟩
theorem octLower_any (s : ByteArray) (w : World) (hs : s.size ≤ 9223372036854775807) :
    Calls Tryd.prog 9 #[.string s] w fun e w' => e = .returned (.string ⟨(s.data.toList.map smallB).toArray⟩) ∧ Below w.heap.size w w' := by
  have hc := hide (lower_any s w hs)
  go_enter Tryd.func9, Tryd.ntmps9
  go_wp2_with (go_at_call 20; refine (hc.out).mono ?_; rintro e w1 ⟨rfl, hb⟩)
  go_ret
  exact ⟨rfl, hb⟩

/-- Does s begin with p, however they are written? -/
def startsK (s p : List UInt8) : Bool := decide (p.length ≤ s.length) && ((s.take p.length).map smallB == p.map smallB)
theorem starts_any (s p : ByteArray) (w : World) (hs : s.size ≤ 4611686018427387903) (hp : p.size ≤ 4611686018427387903) :
    Calls Tryd.prog 15 #[.string s, .string p] w fun e w' => e = .returned (.bool (startsK s.data.toList p.data.toList)) ∧ Below w.heap.size w w' := by
  have hsp : p.data.toList.length = p.size := size_list p
  have hss : s.data.toList.length = s.size := size_list s
  by_cases h : (p.size : Int) ≤ (s.size : Int)
  · have c1 := hide (fun w => octLower_any (s.extract 0 p.size) w (by rw [ByteArray.size_extract]; omega))
    have c2 := hide (fun w => octLower_any p w (by omega))
    have hk : startsK s.data.toList p.data.toList = (((s.extract 0 p.size).data.toList.map smallB) == (p.data.toList.map smallB)) := by
      unfold startsK
      rw [show decide (p.data.toList.length ≤ s.data.toList.length) = true by simp; omega, Lib.extract_eq, hsp]
      simp
    rw [hk]
    obtain ⟨x, hx⟩ : ∃ x : ByteArray, x = ⟨((s.extract 0 p.size).data.toList.map smallB).toArray⟩ := ⟨_, rfl⟩
    obtain ⟨y, hy⟩ : ∃ y : ByteArray, y = ⟨(p.data.toList.map smallB).toArray⟩ := ⟨_, rfl⟩
    rw [← hx] at c1
    rw [← hy] at c2
    rw [show ((s.extract 0 p.size).data.toList.map smallB) = x.toList by rw [hx, ByteArray.toList_eq], show (p.data.toList.map smallB) = y.toList by rw [hy, ByteArray.toList_eq]]
    obtain ⟨b, hb⟩ : ∃ b, (x.toList == y.toList) = b := ⟨_, rfl⟩
    rw [hb]
    clear hx hy hk hsp hss
    go_enter Tryd.func15, Tryd.ntmps15
    go_wp2_with fail
    refine (c1.out _).mono ?_
    rintro e w1 ⟨rfl, hb1⟩
    go_wp2_with fail
    refine (c2.out _).mono ?_
    rintro e w2 ⟨rfl, hb2⟩
    go_wp2_with fail
    go_ret
    exact ⟨rfl, below_step hb1 hb2⟩
  · have hk : startsK s.data.toList p.data.toList = false := by
      unfold startsK
      rw [show decide (p.data.toList.length ≤ s.data.toList.length) = false by simp; omega]
      rfl
    rw [hk]
    have h2 : decide ((p.size : Int) ≤ (s.size : Int)) = false := by simpa using h
    have h3 : (s.size : Int) < (p.size : Int) := by omega
    clear h hk hsp hss
    go_enter Tryd.func15, Tryd.ntmps15
    go_wp2_with fail
    go_ret
    exact ⟨rfl, Below.refl _ _⟩
theorem starts_great (l : List UInt8) : startsK l (l.map greatB) = true := by
  unfold startsK
  rw [List.length_map, List.take_of_length_le (Nat.le_refl _), List.map_map]
  rw [show (smallB ∘ greatB) = smallB from funext small_great]
  simp

set_option maxHeartbeats 1000000 in
set_option maxRecDepth 100000 in
theorem octetsCases_walk (a0 : ByteArray) (s0 : a0.size ≤ 140737488351232) (w : World) (hu : True) :
    Calls Tryd.prog 4 #[.string a0] w fun e w' => e = .returned (.bool true) ∧ Below w.heap.size w w' := by
  have hs0 : (a0.size : Int) ≤ 140737488351232 := by omega
  obtain ⟨T, hT⟩ : ∃ T : ByteArray, T = ⟨(trimL a0.data.toList).toArray⟩ := ⟨_, rfl⟩
  obtain ⟨U, hU⟩ : ∃ U : ByteArray, U = ⟨(a0.data.toList.map greatB).toArray⟩ := ⟨_, rfl⟩
  obtain ⟨M, hM⟩ : ∃ M : ByteArray, M = ⟨(a0.data.toList.map smallB).toArray⟩ := ⟨_, rfl⟩
  have hUd : U.data.toList = a0.data.toList.map greatB := by rw [hU]
  have hTd : T.data.toList = trimL a0.data.toList := by rw [hT]
  have hUs : U.size = a0.size := by rw [← size_list, hUd, List.length_map, size_list]
  have hTs : T.size ≤ a0.size := by
    rw [← size_list, hTd, ← size_list a0]
    exact Nat.le_trans (List.dropWhile_sublist _).length_le (trimR_len _)
  have c1 := hide (fun w => octTrim_all a0 w (by omega))
  rw [← hT] at c1
  have c2 := hide (fun w => upper_any a0 w (by omega))
  rw [← hU] at c2
  have c3 := hide (fun w => octLower_any U w (by omega))
  rw [hUd, List.map_map, show (smallB ∘ greatB) = smallB from funext small_great, ← hM] at c3
  have c4 := hide (fun w => octLower_any a0 w (by omega))
  rw [← hM] at c4
  have c5 := hide (fun w => starts_any a0 U w (by omega) (by omega))
  rw [hUd, starts_great] at c5
  have c6 := hide (fun w => octTrim_all T w (by omega))
  rw [hTd, trimL_twice, ← hT] at c6
  have hw : (((⟨#[32]⟩ : ByteArray) ++ a0) ++ (⟨#[10]⟩ : ByteArray)).data.toList = 32 :: (a0.data.toList ++ [10]) := by simp
  have hws : (((⟨#[32]⟩ : ByteArray) ++ a0) ++ (⟨#[10]⟩ : ByteArray)).size ≤ 4611686018427387903 := by
    rw [← size_list, hw]
    have := size_list a0
    simp
    omega
  have c7 := hide (fun w => octTrim_all (((⟨#[32]⟩ : ByteArray) ++ a0) ++ (⟨#[10]⟩ : ByteArray)) w hws)
  rw [hw, trimL_wide, ← hT] at c7
  clear hT hU hM hUd hTd hUs hTs hw hws s0
  go_enter Tryd.func4, Tryd.ntmps4
  go_wp2_with fail
  refine (alive01 _).mono ?_
  rintro e w1 ⟨rfl, hb1⟩
  go_wp2_with fail
  refine (c1.out _).mono ?_
  rintro e w2 ⟨rfl, hb2⟩
  have hb2 := below_step hb1 hb2
  go_wp2_with fail
  refine (c2.out _).mono ?_
  rintro e w3 ⟨rfl, hb3⟩
  have hb3 := below_step hb2 hb3
  go_wp2_with fail
  refine (c3.out _).mono ?_
  rintro e w4 ⟨rfl, hb4⟩
  have hb4 := below_step hb3 hb4
  go_wp2_with fail
  refine (c4.out _).mono ?_
  rintro e w5 ⟨rfl, hb5⟩
  have hb5 := below_step hb4 hb5
  go_wp2_with fail
  refine (c2.out _).mono ?_
  rintro e w6 ⟨rfl, hb6⟩
  have hb6 := below_step hb5 hb6
  go_wp2_with fail
  refine (c5.out _).mono ?_
  rintro e w7 ⟨rfl, hb7⟩
  have hb7 := below_step hb6 hb7
  go_wp2_with fail
  refine (c6.out _).mono ?_
  rintro e w8 ⟨rfl, hb8⟩
  have hb8 := below_step hb7 hb8
  clear hb1 hb2 hb3 hb4 hb5 hb6 hb7
  go_wp2_with (go_at_call 17; refine (c7.out _).mono ?_; rintro e w9 ⟨rfl, hb9⟩)
  go_ret
  exact ⟨rfl, below_step hb8 hb9⟩
end Go.Proofs.YtmgjhofecncgnaaDoor
