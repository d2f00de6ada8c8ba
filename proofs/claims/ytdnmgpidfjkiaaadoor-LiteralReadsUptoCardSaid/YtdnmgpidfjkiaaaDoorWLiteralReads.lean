/-
  LiteralReads: THE WALK.
-/
import Derived.Test.YtdnmgpidfjkiaaaDoorAlive05
import Derived.Test.YtdnmgpidfjkiaaaDoorVLit
import Derived.Test.YtdnmgpidfjkiaaaDoorVCheck4
import Derived.Test.YtdnmgpidfjkiaaaDoorM2
import Derived.Test.YtdnmgpidfjkiaaaDoorLaidL
namespace Go.Proofs.YtdnmgpidfjkiaaaDoor
open Go.RowKit
set_option linter.unusedVariables false
set_option linter.unusedSimpArgs false

theorem any_okL : ∀ (w w' : World) (b : Nat), Below w.heap.size w w' → b < w.heap.size → anyB w b → anyB w' b := fun _ _ _ _ _ _ => trivial
set_option maxHeartbeats 2000000 in
set_option maxRecDepth 100000 in
theorem literalReads_walk (a0 : ByteArray) (s0 : a0.size ≤ 1048576) (w : World) (hT : Lib.Utf8Tabs 3 4 w) :
    Calls Tryd.prog 3 #[.string a0] w fun e w' => e = .returned (.bool true) ∧ Below w.heap.size w w' := by
  obtain ⟨s, rfl⟩ := ba_listL a0
  rw [mk_size] at s0
  have hms : (⟨s.toArray⟩ : ByteArray).size = s.length := mk_size s
  have cA := hide (alive05 w hT)
  have cR := hide (fun W => read_any s W (by omega))
  clear hT
  go_enter Tryd.func3, Tryd.ntmps3
  go_wp2_with fail
  refine cA.out.mono ?_
  rintro e w1 ⟨rfl, hb1⟩
  go_wp2_with fail
  refine (cR.out _).mono ?_
  rintro e w2 (⟨d, v, hd, rfl, hV, hb2⟩ | ⟨y, hd, rfl, hb2⟩)
  · obtain ⟨k, i, q, l, ks⟩ := d
    obtain ⟨hsm, hnm, hms2⟩ := readR_small hd s0
    obtain ⟨hlit, hpl⟩ := readR_back _ _ _ _ hd
    have hpl := (plainL_V 17 _).symm.trans hpl
    have hVa := fresh_any hV
    obtain ⟨a, c, a2, c2, rfl, _, _⟩ := hV.parts
    have cL := fun W (h : Below w2.heap.size w2 W) => refLit_any 17 _ _ W (IsV.on (stays_any h) 17 _ _ hVa) hsm hnm (by omega)
    have cP := fun W (h : Below w2.heap.size w2 W) => refPlain_any 17 anyB any_okL _ _ W (IsV.on (stays_any h) 17 _ _ hVa) hsm
    rw [hpl] at cP
    rw [← hlit] at cL
    have cL := hide cL; have cP := hide cP
    have hB2 := below_step hb1 hb2
    have hA := (Below.refl w2.heap.size w2).alloc (Nat.le_refl _) (.cells #[.int .i64 k, .int .i64 i, .string ⟨q.toArray⟩, .slice a l.length c, .slice a2 ks.length c2] 26)
    have hK := Blk.new w2 26 #[.int .i64 k, .int .i64 i, .string ⟨q.toArray⟩, .slice a l.length c, .slice a2 ks.length c2]
    obtain ⟨W3, hW3⟩ : ∃ W3, w2.alloc (.cells #[.int .i64 k, .int .i64 i, .string ⟨q.toArray⟩, .slice a l.length c, .slice a2 ks.length c2] 26) = W3 := ⟨_, rfl⟩
    rw [hW3] at hA hK
    have HA := hide hA; have HK := hide hK; have HW3 := hide hW3
    have r0 := hK.cell 0; have r1 := hK.cell 1; have r2 := hK.cell 2; have r3 := hK.cell 3; have r4 := hK.cell 4
    simp at r0 r1 r2 r3 r4
    clear hV hVa hd hsm hnm hms2 hlit hpl hb1 hb2 hA hK hW3
    simp only at cL cP ⊢
    go_wp2_with fail
    rw [HW3.out]
    go_wp2_with (first
      | (go_at_call 13; refine (num05_any _ _).mono ?_; rintro e w3 ⟨rfl, rfl⟩)
      | (go_at_call 14; refine (cL.out _ HA.out).mono ?_; rintro e w4 ⟨rfl, hb4⟩; have HA4 := hide (below_step HA.out hb4); have hK4 := HK.out.below hb4 HK.out.lt; have r0 := hK4.cell 0; have r1 := hK4.cell 1; have r2 := hK4.cell 2; have r3 := hK4.cell 3; have r4 := hK4.cell 4; simp at r0 r1 r2 r3 r4; clear hK4 hb4)
      | (go_at_call 15; refine (cP.out _ HA4.out).mono ?_; rintro e w5 ⟨rfl, hb5⟩))
    go_ret
    exact ⟨rfl, below_step hB2 (below_step HA4.out hb5)⟩
  · have hy := readR_bad hd
    have hB2 := below_step hb1 hb2
    clear hd hb1 hb2
    rcases hy with rfl | rfl
    · go_wp2_with (go_at_call 13; refine (num05_any _ _).mono ?_; rintro e w3 ⟨rfl, rfl⟩)
      go_ret
      exact ⟨rfl, hB2.alloc hB2.size _⟩
    · go_wp2_with (go_at_call 13; refine (num05_any _ _).mono ?_; rintro e w3 ⟨rfl, rfl⟩)
      go_ret
      exact ⟨rfl, hB2.alloc hB2.size _⟩
end Go.Proofs.YtdnmgpidfjkiaaaDoor
