/-
  SchemesHidden: behind a / , ? or # there is no scheme; ahead of them all is one up to a : . THE WALK.
-/
import Derived.Test.YtbcbbeenkndgcaaDoorScheme
import Derived.Test.YtbcbbeenkndgcaaDoorStr
import Derived.Test.YtbcbbeenkndgcaaDoorQB
import Derived.Outline
namespace Go.Proofs.YtbcbbeenkndgcaaDoor
open Go.RowKit
set_option linter.unusedVariables false
set_option linter.unusedSimpArgs false

theorem cutB_at (c : UInt8) (a b : List UInt8) (h : c ∉ a) : cutB c (a ++ c :: b) = (a, b, true) := by
  induction a with
  | nil => simp [cutB]
  | cons x a ih =>
    have h1 : x ≠ c := fun e => h (by simp [e])
    have h2 : c ∉ a := fun e => h (by simp [e])
    simp only [List.cons_append, cutB]
    rw [if_neg (by simpa using h1), ih h2]
theorem cutB_past (c x : UInt8) (a b : List UInt8) (h : c ∉ a) (hx : x ≠ c) : (cutB c (a ++ x :: b)).1 = a ++ x :: (cutB c b).1 := by
  induction a with
  | nil => simp [cutB, hx]
  | cons y a ih =>
    have h1 : y ≠ c := fun e => h (by simp [e])
    have h2 : c ∉ a := fun e => h (by simp [e])
    simp only [List.cons_append, cutB]
    rw [if_neg (by simpa using h1)]
    simp [ih h2]
def plainTo (a : List UInt8) (k : Nat) : Prop := ∀ j c, j < k → a[j]? = some c → c ≠ 58 ∧ ender c = false
theorem plainTo.all {a : List UInt8} (h : plainTo a a.length) : 58 ∉ a ∧ a.any ender = false := by
  refine ⟨fun hm => ?_, ?_⟩
  · obtain ⟨j, hj, e⟩ := List.getElem_of_mem hm
    exact (h j 58 hj (by rw [List.getElem?_eq_getElem hj, e])).1 rfl
  · rw [List.any_eq_false]
    intro x hx
    obtain ⟨j, hj, e⟩ := List.getElem_of_mem hx
    have := (h j x hj (by rw [List.getElem?_eq_getElem hj, e])).2
    simp [this]
theorem plainTo.next {a : List UInt8} {k : Nat} {c : UInt8} (h : plainTo a k) (hc : a[k]? = some c) (h1 : c ≠ 58) (h2 : ender c = false) : plainTo a (k + 1) := by
  intro j d hj hd
  rcases Nat.lt_or_ge j k with h3 | h3
  · exact h j d h3 hd
  · have : j = k := by omega
    subst this
    rw [hc] at hd
    cases hd
    exact ⟨h1, h2⟩
theorem scheme_colon {a : List UInt8} (b : List UInt8) (h : plainTo a a.length) : schemeB (a ++ 58 :: b) = (a.map smallB, true) := by
  unfold schemeB
  rw [cutB_at 58 a b h.all.1, if_pos (by simp [h.all.2])]
theorem scheme_ender {a : List UInt8} (b : List UInt8) (x : UInt8) (h : plainTo a a.length) (hx : x ≠ 58) (he : ender x = true) : schemeB (a ++ x :: b) = ([], false) := by
  unfold schemeB
  rw [cutB_past 58 x a b h.all.1 hx, if_neg (by simp [he])]

set_option maxHeartbeats 400000 in
set_option maxRecDepth 100000 in
theorem allowed_js (w : World) : Calls Tryd.prog 27 #[.string ⟨#[106, 97, 118, 97, 115, 99, 114, 105, 112, 116]⟩] w fun e w' => e = .returned (.bool false) ∧ w = w' := by
  go_enter Tryd.func27, Tryd.ntmps27
  go_wp2_with fail
  go_ret
  exact ⟨rfl, rfl⟩
set_option maxHeartbeats 400000 in
set_option maxRecDepth 100000 in
theorem allowed_https (w : World) : Calls Tryd.prog 27 #[.string ⟨#[104, 116, 116, 112, 115]⟩] w fun e w' => e = .returned (.bool true) ∧ w = w' := by
  go_enter Tryd.func27, Tryd.ntmps27
  go_wp2_with fail
  go_ret
  exact ⟨rfl, rfl⟩
def exJs : List UInt8 := [106, 97, 118, 97, 115, 99, 114, 105, 112, 116, 58, 120]
theorem scheme_js (w : World) : Calls Tryd.prog 26 #[.string ⟨#[106, 97, 118, 97, 115, 99, 114, 105, 112, 116, 58, 120]⟩] w fun e w' => e = .returned (.tuple #[.string ⟨#[106, 97, 118, 97, 115, 99, 114, 105, 112, 116]⟩, .bool true]) ∧ Below w.heap.size w w' := by
  have h := scheme_any exJs w (by decide)
  rw [show schemeB exJs = ([106, 97, 118, 97, 115, 99, 114, 105, 112, 116], true) by decide +kernel] at h
  exact h
set_option maxHeartbeats 400000 in
set_option maxRecDepth 100000 in
theorem filter_js (w : World) : Calls Tryd.prog 25 #[.string ⟨#[106, 97, 118, 97, 115, 99, 114, 105, 112, 116, 58, 120]⟩] w fun e w' => e = .returned (.string ⟨#[35, 90, 103, 111, 116, 109, 112, 108, 90]⟩) ∧ Below w.heap.size w w' := by
  go_enter Tryd.func25, Tryd.ntmps25
  go_wp2_with fail
  refine (scheme_js _).mono ?_
  rintro e w1 ⟨rfl, hb1⟩
  go_wp2_with (go_at_call 27; refine (allowed_js _).mono ?_; rintro e w2 ⟨rfl, rfl⟩)
  go_ret
  exact ⟨rfl, hb1⟩
set_option maxHeartbeats 400000 in
set_option maxRecDepth 100000 in
theorem alive08 (w : World) : Calls Tryd.prog 28 #[] w fun e w' => e = .returned (.bool true) ∧ Below w.heap.size w w' := by
  go_enter Tryd.func28, Tryd.ntmps28
  go_wp2_with fail
  refine (filter_js _).mono ?_
  rintro e w1 ⟨rfl, hb1⟩
  go_wp2_with (go_at_call 27; refine (allowed_https _).mono ?_; rintro e w2 ⟨rfl, rfl⟩)
  go_ret
  exact ⟨rfl, hb1⟩
set_option maxHeartbeats 4000000 in
set_option maxRecDepth 100000 in
theorem schemesHidden_walk (a0 : ByteArray) (s0 : a0.size ≤ 140737488351232) (a1 : ByteArray) (s1 : a1.size ≤ 140737488351232) (w : World) (hu : True) :
    Calls Tryd.prog 7 #[.string a0, .string a1] w fun e w' => e = .returned (.bool true) ∧ Below w.heap.size w w' := by
  obtain ⟨a, rfl⟩ : ∃ l : List UInt8, a0 = ⟨l.toArray⟩ := ⟨a0.data.toList, rfl⟩
  obtain ⟨b, rfl⟩ : ∃ l : List UInt8, a1 = ⟨l.toArray⟩ := ⟨a1.data.toList, rfl⟩
  rw [mk_size] at s0 s1
  clear hu
  go_enter Tryd.func7, Tryd.ntmps7
  go_wp2_with fail
  refine (alive08 _).mono ?_
  rintro e w1 ⟨rfl, hb1⟩
  go_wp2_with fail
  go_loop [5] (fun i => ∃ k : Nat, i = .int .i64 (k : Int) ∧ k ≤ a.length ∧ Hid (plainTo a k)) (fun i => a.length - (intOf i).toNat)
  case atStart => exact ⟨0, rfl, Nat.zero_le _, fun j c hj _ => by omega⟩
  case round =>
    obtain ⟨k, rfl, hk, hrel⟩ := hrel
    by_cases hlt : k < a.length
    · have hlz : k < (⟨a.toArray⟩ : ByteArray).size := by rw [mk_size]; exact hlt
      obtain ⟨c, hc⟩ : ∃ c, (⟨a.toArray⟩ : ByteArray)[k]'hlz = c := ⟨_, rfl⟩
      have hc' : a[k]? = some c := by rw [List.getElem?_eq_getElem hlt, ← hc]; rfl
      have HC := hide hc'
      clear hc'
      have he : ender c = (c.toNat == 47 || c.toNat == 63 || c.toNat == 35) := rfl
      by_cases h1 : c.toNat = 58
      · have e1 : ((c.toNat : Int) == 58) = true := by simp; omega
        clear h1 he
        go_wp2_with fail
        go_ret
        exact ⟨rfl, hb1⟩
      · have e1 : ((c.toNat : Int) == 58) = false := by simp; omega
        by_cases h2 : c.toNat = 47
        · have e2 : ((c.toNat : Int) == 47) = true := by simp; omega
          clear h1 h2 he
          go_wp2_with fail
          go_ret
          exact ⟨rfl, hb1⟩
        · have e2 : ((c.toNat : Int) == 47) = false := by simp; omega
          by_cases h3 : c.toNat = 63
          · have e3 : ((c.toNat : Int) == 63) = true := by simp; omega
            clear h1 h2 h3 he
            go_wp2_with fail
            go_ret
            exact ⟨rfl, hb1⟩
          · have e3 : ((c.toNat : Int) == 63) = false := by simp; omega
            by_cases h4 : c.toNat = 35
            · have e4 : ((c.toNat : Int) == 35) = true := by simp; omega
              clear h1 h2 h3 h4 he
              go_wp2_with fail
              go_ret
              exact ⟨rfl, hb1⟩
            · have e4 : ((c.toNat : Int) == 35) = false := by simp; omega
              have hn := hide (hrel.out.next HC.out (fun e => h1 (by rw [e]; rfl)) (by rw [he]; simp [h2, h3, h4]))
              clear h1 h2 h3 h4 he
              go_wp2_with fail
              go_round
              case rel => exact ⟨k + 1, by go_num, by omega, hn⟩
              case measure => simp [intOf]; omega
    · have hk2 : k = a.length := by omega
      have hp : plainTo a a.length := by rw [← hk2]; exact hrel.out
      have hlen : ((a.map smallB).length : Int) = (a.length : Int) := by simp
      have cS1 := scheme_any (a ++ 58 :: b) w1 (by simp; omega)
      rw [scheme_colon b hp] at cS1
      have cS2 := hide (fun w => scheme_any (a ++ 47 :: b) w (by simp; omega))
      rw [scheme_ender b 47 hp (by decide) (by decide)] at cS2
      have cS3 := hide (fun w => scheme_any (a ++ 63 :: b) w (by simp; omega))
      rw [scheme_ender b 63 hp (by decide) (by decide)] at cS3
      have j1 : ∀ x : UInt8, (⟨(a ++ x :: b).toArray⟩ : ByteArray) = ⟨a.toArray⟩ ++ ⟨#[x]⟩ ++ ⟨b.toArray⟩ := by
        intro x
        rw [show (⟨#[x]⟩ : ByteArray) = ⟨[x].toArray⟩ from rfl, mk_append, mk_append]
        simp
      rw [j1] at cS1 cS2 cS3
      have cS1 := hide cS1
      have HP := hide (And.intro hp hk2)
      clear hp hk2 hrel j1
      go_wp2_with fail
      refine (cS1.out).mono ?_
      rintro e w2 ⟨rfl, hb2⟩
      go_wp2_with fail
      refine (cS2.out _).mono ?_
      rintro e w3 ⟨rfl, hb3⟩
      go_wp2_with fail
      refine (cS3.out _).mono ?_
      rintro e w4 ⟨rfl, hb4⟩
      have hB := below_step (below_step (below_step hb1 hb2) hb3) hb4
      go_wp2_with fail
      go_ret
      exact ⟨rfl, hB⟩
end Go.Proofs.YtbcbbeenkndgcaaDoor
