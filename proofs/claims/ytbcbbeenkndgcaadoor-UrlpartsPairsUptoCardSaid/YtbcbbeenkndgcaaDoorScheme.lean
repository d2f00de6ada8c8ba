/-
  schemes.Scheme, Allowed.
-/
import Derived.Test.YtbcbbeenkndgcaaDoorCut
import Derived.Test.YtbcbbeenkndgcaaDoorFuncB
namespace Go.Proofs.YtbcbbeenkndgcaaDoor
open Go.RowKit
set_option linter.unusedVariables false
set_option linter.unusedSimpArgs false

theorem lowerL_any (l : List UInt8) (w : World) (hl : l.length ≤ 4611686018427387903) :
    Calls Tryd.prog 66 #[.string ⟨l.toArray⟩] w fun e w' => e = .returned (.string ⟨(l.map smallB).toArray⟩) ∧ Below w.heap.size w w' := by
  have hc := hide (lower_any ⟨l.toArray⟩ w (by rw [mk_size]; omega))
  go_enter Tryd.func66, Tryd.ntmps66
  go_wp2_with (go_at_call 91; refine (Hid.out hc).mono ?_; rintro e w1 ⟨rfl, hb⟩)
  go_ret
  exact ⟨rfl, hb⟩
set_option maxHeartbeats 400000 in
theorem ender_pays : PredB Tryd.prog 65 #[] ender := by
  intro W c
  have he : ender c = (c.toNat == 47 || c.toNat == 63 || c.toNat == 35) := rfl
  by_cases h1 : c.toNat = 47
  · rw [show ender c = true by rw [he]; simp [h1]]
    have e1 : ((c.toNat : Int) == 47) = true := by simp; omega
    clear he h1
    go_enter Tryd.func65, Tryd.ntmps65
    go_wp2
    go_ret
    exact ⟨rfl, rfl⟩
  · have e1 : ((c.toNat : Int) == 47) = false := by simp; omega
    by_cases h2 : c.toNat = 63
    · rw [show ender c = true by rw [he]; simp [h2]]
      have e2 : ((c.toNat : Int) == 63) = true := by simp; omega
      clear he h1 h2
      go_enter Tryd.func65, Tryd.ntmps65
      go_wp2
      go_ret
      exact ⟨rfl, rfl⟩
    · have e2 : ((c.toNat : Int) == 63) = false := by simp; omega
      by_cases h3 : c.toNat = 35
      · rw [show ender c = true by rw [he]; simp [h3]]
        have e3 : ((c.toNat : Int) == 35) = true := by simp; omega
        clear he h1 h2 h3
        go_enter Tryd.func65, Tryd.ntmps65
        go_wp2
        go_ret
        exact ⟨rfl, rfl⟩
      · rw [show ender c = false by rw [he]; simp [h1, h2, h3]]
        have e3 : ((c.toNat : Int) == 35) = false := by simp; omega
        clear he h1 h2 h3
        go_enter Tryd.func65, Tryd.ntmps65
        go_wp2
        go_ret
        exact ⟨rfl, rfl⟩
set_option maxHeartbeats 2000000 in
set_option maxRecDepth 100000 in
theorem scheme_any (l : List UInt8) (w : World) (hl : l.length ≤ 4611686018427387903) :
    Calls Tryd.prog 26 #[.string ⟨l.toArray⟩] w fun e w' => e = .returned (.tuple #[.string ⟨(schemeB l).1.toArray⟩, .bool (schemeB l).2]) ∧ Below w.heap.size w w' := by
  obtain ⟨s, hs⟩ : ∃ s : ByteArray, (⟨l.toArray⟩ : ByteArray) = s := ⟨_, rfl⟩
  have hz : s.size = l.length := by rw [← hs]; exact mk_size l
  have hd : s.data.toList = l := by rw [← hs]
  have cI := strings_IndexByte s 58 w
  rw [hd] at cI
  rw [show (58 : Int).toNat.toUInt8 = 58 from rfl] at cI
  rw [hs]
  rcases cutB_idx 58 l with ⟨h1, h2⟩ | ⟨k, h1, h2, h3⟩
  · rw [h1] at cI
    rw [show schemeB l = ([], false) by unfold schemeB; rw [h2]; rfl]
    have cI := hide cI
    clear hs hz hd h1 h2
    go_enter Tryd.func26, Tryd.ntmps26
    go_wp2_with (go_at_call 62; refine (Hid.out cI).mono ?_; rintro e w' ⟨rfl, rfl⟩)
    go_ret2
    exact ⟨rfl, Below.refl _ _⟩
  · rw [h1] at cI
    have c1 : (0 : Int) ≤ (k : Int) := by omega
    have c2 : (k : Int) ≤ (s.size : Int) := by omega
    have c5 : (s.size : Int) ≤ 4611686018427387903 := by omega
    have hx : s.extract 0 k = ⟨(l.take k).toArray⟩ := by rw [Lib.extract_upto, hd]
    have hxz : (s.extract 0 k).size = k := by rw [hx, mk_size, List.length_take]; omega
    have hxd : (s.extract 0 k).data.toList = l.take k := by rw [hx]
    have hk : schemeB l = if (l.take k).any ender then ([], false) else ((l.take k).map smallB, true) := by
      unfold schemeB; rw [h3]
      cases (l.take k).any ender <;> rfl
    obtain ⟨cap, W1, hcv, hrow, hbel, hlt, hcap⟩ := conv_bytes w (s.extract 0 k)
    rw [hxd] at hrow
    rw [hxz] at hcv
    have cC := containsFuncB 65 #[] (enters_of Tryd.func65 (by kernel_rfl) rfl) ender ender_pays (l.take k) w.heap.size k cap W1 hrow (by rw [List.length_take]; omega) (by omega)
    have cL := hide (fun w => lowerL_any (l.take k) w (by rw [List.length_take]; omega))
    rw [← hx] at cL
    rcases Bool.eq_false_or_eq_true ((l.take k).any ender) with hb | hb
    · rw [hb] at cC
      rw [hk, hb]
      have cI := hide cI; have cC := hide cC
      have H := hide (And.intro hs (And.intro hz (And.intro hd (And.intro h1 (And.intro h3 (And.intro hx (And.intro hxz hxd)))))))
      have HR := hide hrow; have HB := hide hbel
      clear hs hz hd h1 h3 hx hxz hxd hrow hbel hk hb
      go_enter Tryd.func26, Tryd.ntmps26
      go_wp2_with (first | (go_at_call 62; refine (Hid.out cI).mono ?_; rintro e w' ⟨rfl, rfl⟩) | (go_at_call 64; refine (Hid.out cC).mono ?_; rintro e w1 ⟨rfl, rfl⟩))
      go_ret2
      exact ⟨rfl, HB.out⟩
    · rw [hb] at cC
      rw [hk, hb]
      have cI := hide cI; have cC := hide cC
      have H := hide (And.intro hs (And.intro hz (And.intro hd (And.intro h1 (And.intro h3 (And.intro hx (And.intro hxz hxd)))))))
      have HR := hide hrow; have HB := hide hbel
      clear hs hz hd h1 h3 hx hxz hxd hrow hbel hk hb
      go_enter Tryd.func26, Tryd.ntmps26
      go_wp2_with (first | (go_at_call 62; refine (Hid.out cI).mono ?_; rintro e w' ⟨rfl, rfl⟩) | (go_at_call 64; refine (Hid.out cC).mono ?_; rintro e w1 ⟨rfl, rfl⟩) | (go_at_call 66; refine (cL.out _).mono ?_; rintro e w2 ⟨rfl, hb2⟩))
      go_ret2
      exact ⟨rfl, below_step HB.out hb2⟩
end Go.Proofs.YtbcbbeenkndgcaaDoor
