/-
  MarksUnlike: states that come back have unlike texts. THE WALK.
-/
import Derived.Test.YtlandmahjdaphaaDoorParseS
import Derived.Test.YtlandmahjdaphaaDoorLaidU8
import Derived.Test.YtlandmahjdaphaaDoorStArg
namespace Go.Proofs.YtlandmahjdaphaaDoor
open Go.RowKit
set_option linter.unusedVariables false
set_option linter.unusedSimpArgs false

theorem parseS_any (l : List UInt8) (w : World) (hz : l.length ≤ 100000000) (hT : Lib.Utf8Tabs 3 4 w) :
    Calls Tryd.prog 12 #[.string ⟨l.toArray⟩] w fun e w' => e = .returned (.tuple #[.agg #[.int .i64 (parseL (Lib.split l [124])).1.k, .string (parseL (Lib.split l [124])).1.el, .string (parseL (Lib.split l [124])).1.at_, .int .u8 (parseL (Lib.split l [124])).1.d, .string (parseL (Lib.split l [124])).1.pe, .string (parseL (Lib.split l [124])).1.re, .int .i64 (parseL (Lib.split l [124])).1.pa, .string (parseL (Lib.split l [124])).1.wo], .int .i64 (parseL (Lib.split l [124])).2]) ∧ Below w.heap.size w w' := by
  have hd : (piecesOf ⟨l.toArray⟩).map (·.data.toList) = Lib.split l [124] := pieces_data ⟨l.toArray⟩
  refine parseS_gen ⟨l.toArray⟩ (piecesOf ⟨l.toArray⟩) _ w hd ?_ hT (fun w => split_bar ⟨l.toArray⟩ w (by rw [mk_size]; omega))
  intro x hx
  have hm : x.data.toList ∈ Lib.split l [124] := by rw [← hd]; exact List.mem_map.2 ⟨x, hx, rfl⟩
  have h1 := join_mem_len _ [124] _ hm
  rw [join_split, size_list] at h1
  omega
set_option maxHeartbeats 8000000 in
set_option maxRecDepth 100000 in
theorem unlike_gen (ak ad ap : Int) (a1 a2 a4 a5 a7 : ByteArray) (bk bd bp : Int) (b1 b2 b4 b5 b7 : ByteArray) (xk xd xp : Int) (x1 x2 x4 x5 x7 : ByteArray) (yk yd yp : Int) (y1 y2 y4 y5 y7 : ByteArray) (e1 e2 : Int) (ta tb : ByteArray) (w : World) (hT : Lib.Utf8Tabs 3 4 w)
    (cPa : ∀ W, Below w.heap.size w W → Calls Tryd.prog 15 #[.agg #[.int .i64 ak, .string a1, .string a2, .int .u8 ad, .string a4, .string a5, .int .i64 ap, .string a7]] W fun e w' => e = .returned (.string ta) ∧ Below W.heap.size W w')
    (cPb : ∀ W, Below w.heap.size w W → Calls Tryd.prog 15 #[.agg #[.int .i64 bk, .string b1, .string b2, .int .u8 bd, .string b4, .string b5, .int .i64 bp, .string b7]] W fun e w' => e = .returned (.string tb) ∧ Below W.heap.size W w')
    (cXa : ∀ W, Below w.heap.size w W → Calls Tryd.prog 12 #[.string ta] W fun e w' => e = .returned (.tuple #[.agg #[.int .i64 xk, .string x1, .string x2, .int .u8 xd, .string x4, .string x5, .int .i64 xp, .string x7], .int .i64 e1]) ∧ Below W.heap.size W w')
    (cXb : ∀ W, Below w.heap.size w W → Calls Tryd.prog 12 #[.string tb] W fun e w' => e = .returned (.tuple #[.agg #[.int .i64 yk, .string y1, .string y2, .int .u8 yd, .string y4, .string y5, .int .i64 yp, .string y7], .int .i64 e2]) ∧ Below W.heap.size W w')
    (h : e1 = 0 → e2 = 0 → sameV xk x1 x2 xd x4 x5 xp x7 ak a1 a2 ad a4 a5 ap a7 = true → sameV yk y1 y2 yd y4 y5 yp y7 bk b1 b2 bd b4 b5 bp b7 = true → (ta.toList == tb.toList) = sameV ak a1 a2 ad a4 a5 ap a7 bk b1 b2 bd b4 b5 bp b7) :
    Calls Tryd.prog 7 #[.agg #[.int .i64 ak, .string a1, .string a2, .int .u8 ad, .string a4, .string a5, .int .i64 ap, .string a7], .agg #[.int .i64 bk, .string b1, .string b2, .int .u8 bd, .string b4, .string b5, .int .i64 bp, .string b7]] w fun e w' => e = .returned (.bool true) ∧ Below w.heap.size w w' := by
  have hA0 := (Blk.new w 29 #[.int .i64 ak, .string a1, .string a2, .int .u8 ad, .string a4, .string a5, .int .i64 ap, .string a7]).alloc (.cells #[.int .i64 bk, .string b1, .string b2, .int .u8 bd, .string b4, .string b5, .int .i64 bp, .string b7] 29)
  have hB0 := Blk.new (w.alloc (.cells #[.int .i64 ak, .string a1, .string a2, .int .u8 ad, .string a4, .string a5, .int .i64 ap, .string a7] 29)) 29 #[.int .i64 bk, .string b1, .string b2, .int .u8 bd, .string b4, .string b5, .int .i64 bp, .string b7]
  have hW0 := ((Below.refl w.heap.size w).alloc (Nat.le_refl _) (.cells #[.int .i64 ak, .string a1, .string a2, .int .u8 ad, .string a4, .string a5, .int .i64 ap, .string a7] 29)).alloc (by simp) (.cells #[.int .i64 bk, .string b1, .string b2, .int .u8 bd, .string b4, .string b5, .int .i64 bp, .string b7] 29)
  rw [World.size_alloc] at hB0
  obtain ⟨d1, g1⟩ : ∃ b, sameV xk x1 x2 xd x4 x5 xp x7 ak a1 a2 ad a4 a5 ap a7 = b := ⟨_, rfl⟩
  obtain ⟨d2, g2⟩ : ∃ b, sameV yk y1 y2 yd y4 y5 yp y7 bk b1 b2 bd b4 b5 bp b7 = b := ⟨_, rfl⟩
  obtain ⟨d3, g3⟩ : ∃ b, sameV ak a1 a2 ad a4 a5 ap a7 bk b1 b2 bd b4 b5 bp b7 = b := ⟨_, rfl⟩
  obtain ⟨d4, g4⟩ : ∃ b, (ta.toList == tb.toList) = b := ⟨_, rfl⟩
  rw [g1, g2, g3, g4] at h
  have H := hide h
  have cPa := hide cPa; have cPb := hide cPb; have cXa := hide cXa; have cXb := hide cXb
  clear h
  go_enter Tryd.func7, Tryd.ntmps7
  go_wp2_with fail
  generalize (w.alloc (.cells #[.int .i64 ak, .string a1, .string a2, .int .u8 ad, .string a4, .string a5, .int .i64 ap, .string a7] 29)).alloc (.cells #[.int .i64 bk, .string b1, .string b2, .int .u8 bd, .string b4, .string b5, .int .i64 bp, .string b7] 29) = W0 at hA0 hB0 hW0 ⊢
  refine (alive13 _ (Utf8Tabs_below hT hW0)).mono ?_
  rintro e w1 ⟨rfl, hb1⟩
  have hA1 := hA0.below hb1 hA0.lt
  have hB1 := hB0.below hb1 hB0.lt
  have hW1 := hW0.trans (hb1.mono hW0.size)
  clear hA0 hB0 hW0 hb1
  obtain ⟨a0, a1', a2', a3', a4', a5', a6', a7'⟩ := hA1.eight
  go_wp2_with fail
  refine (cPa.out _ hW1).mono ?_
  rintro e w2 ⟨rfl, hb2⟩
  have hA2 := hA1.below hb2 hA1.lt
  have hB2 := hB1.below hb2 hB1.lt
  have hW2 := hW1.trans (hb2.mono hW1.size)
  clear hA1 hB1 hW1 hb2 a0 a1' a2' a3' a4' a5' a6' a7'
  go_wp2_with fail
  refine (cXa.out _ hW2).mono ?_
  rintro e w3 ⟨rfl, hb3⟩
  have hA3 := (hA2.below hb3 hA2.lt).alloc (.cells #[.int .i64 xk, .string x1, .string x2, .int .u8 xd, .string x4, .string x5, .int .i64 xp, .string x7] 29)
  have hB3 := (hB2.below hb3 hB2.lt).alloc (.cells #[.int .i64 xk, .string x1, .string x2, .int .u8 xd, .string x4, .string x5, .int .i64 xp, .string x7] 29)
  have hX3 := Blk.new w3 29 #[.int .i64 xk, .string x1, .string x2, .int .u8 xd, .string x4, .string x5, .int .i64 xp, .string x7]
  have hW3 := hW2.trans (hb3.mono hW2.size)
  have hW3 := hW3.alloc hW3.size (.cells #[.int .i64 xk, .string x1, .string x2, .int .u8 xd, .string x4, .string x5, .int .i64 xp, .string x7] 29)
  clear hA2 hB2 hW2 hb3
  obtain ⟨c0, c1', c2', c3', c4', c5', c6', c7'⟩ := hB3.eight
  go_wp2_with fail
  refine (cPb.out _ hW3).mono ?_
  rintro e w4 ⟨rfl, hb4⟩
  have hA4 := hA3.below hb4 hA3.lt
  have hB4 := hB3.below hb4 hB3.lt
  have hX4 := hX3.below hb4 hX3.lt
  have hW4 := hW3.trans (hb4.mono hW3.size)
  clear hA3 hB3 hX3 hW3 hb4 c0 c1' c2' c3' c4' c5' c6' c7'
  go_wp2_with fail
  refine (cXb.out _ hW4).mono ?_
  rintro e w5 ⟨rfl, hb5⟩
  have hA5 := (hA4.below hb5 hA4.lt).alloc (.cells #[.int .i64 yk, .string y1, .string y2, .int .u8 yd, .string y4, .string y5, .int .i64 yp, .string y7] 29)
  have hB5 := (hB4.below hb5 hB4.lt).alloc (.cells #[.int .i64 yk, .string y1, .string y2, .int .u8 yd, .string y4, .string y5, .int .i64 yp, .string y7] 29)
  have hX5 := (hX4.below hb5 hX4.lt).alloc (.cells #[.int .i64 yk, .string y1, .string y2, .int .u8 yd, .string y4, .string y5, .int .i64 yp, .string y7] 29)
  have hY5 := Blk.new w5 29 #[.int .i64 yk, .string y1, .string y2, .int .u8 yd, .string y4, .string y5, .int .i64 yp, .string y7]
  have hW5 := hW4.trans (hb5.mono hW4.size)
  have hW5 := hW5.alloc hW5.size (.cells #[.int .i64 yk, .string y1, .string y2, .int .u8 yd, .string y4, .string y5, .int .i64 yp, .string y7] 29)
  clear hA4 hB4 hX4 hW4 hb5
  obtain ⟨a0, a1', a2', a3', a4', a5', a6', a7'⟩ := hA5.eight
  obtain ⟨c0, c1', c2', c3', c4', c5', c6', c7'⟩ := hB5.eight
  obtain ⟨x0, x1', x2', x3', x4', x5', x6', x7'⟩ := hX5.eight
  obtain ⟨y0, y1', y2', y3', y4', y5', y6', y7'⟩ := hY5.eight
  by_cases h1 : e1 = 0
  rotate_left
  · have h1n : (e1 != 0) = true := by simpa using h1
    clear h1
    go_wp2_with (go_at_call 13; refine (num13 _ _).mono ?_; rintro e wn ⟨rfl, rfl⟩)
    go_ret
    exact ⟨rfl, hW5⟩
  · by_cases h2 : e2 = 0
    rotate_left
    · have h2n : (e2 != 0) = true := by simpa using h2
      subst h1
      clear h2
      go_wp2_with (go_at_call 13; refine (num13 _ _).mono ?_; rintro e wn ⟨rfl, rfl⟩)
      go_ret
      exact ⟨rfl, hW5⟩
    · subst h1; subst h2
      cases d1
      · go_wp2_with (go_at_call 13; refine (num13 _ _).mono ?_; rintro e wn ⟨rfl, rfl⟩)
        go_ret
        exact ⟨rfl, hW5⟩
      · cases d2
        · go_wp2_with (go_at_call 13; refine (num13 _ _).mono ?_; rintro e wn ⟨rfl, rfl⟩)
          go_ret
          exact ⟨rfl, hW5⟩
        · have hb : d4 = d3 := H.out rfl rfl rfl rfl
          subst hb
          have zA := hA5.lt; have zB := hB5.lt
          go_wp2_with (go_at_call 13; refine (num13 _ _).mono ?_; rintro e wn ⟨rfl, rfl⟩)
          generalize w5.alloc (.cells #[.int .i64 yk, .string y1, .string y2, .int .u8 yd, .string y4, .string y5, .int .i64 yp, .string y7] 29) = W5 at *
          refine wp_region_below (W := W5) (by kernel_rfl) (by kernel_rfl) (Below.refl _ _) ?_
          repeat (first
            | go_big_quiet_skip
            | (apply wpQuiet_one (by rfl)
               · intro w' hw'
                 have hc := (bcell hw').1
                 go_simp
                 first
                   | done
                   | (go_at_call_of 15 (Value.string a1); exact Calls.below_of hw' (cPa.out _ (hW5.trans (hw'.mono hW5.size))))
                   | (go_at_call_of 15 (Value.string b1); exact Calls.below_of hw' (cPb.out _ (hW5.trans (hw'.mono hW5.size))))
                   | rfl
               · go_simp
                 rfl))
          refine wpQuiet_nil ?_
          intro w' hw'
          go_wp2_with fail
          go_ret
          exact ⟨by first | rfl | simp, hW5.trans (hw'.mono hW5.size)⟩
end Go.Proofs.YtlandmahjdaphaaDoor
