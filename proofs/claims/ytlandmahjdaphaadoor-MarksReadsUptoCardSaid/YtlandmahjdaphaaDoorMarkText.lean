/-
  marks: a state's text; muslinlaw13.alive; strings.Split at one octet.
-/
import Derived.Test.YtlandmahjdaphaaDoorMarkPrint
import Derived.Test.YtlandmahjdaphaaDoorMarkSpec
import Derived.Test.YtlandmahjdaphaaDoorEncode
import Derived.Test.YtlandmahjdaphaaDoorPrint
import Derived.Test.YtlandmahjdaphaaDoorCut
import Derived.Shelf.Strings.SplitCore
namespace Go.Proofs.YtlandmahjdaphaaDoor
open Go.RowKit
set_option linter.unusedVariables false
set_option linter.unusedSimpArgs false

/-- A state's text. -/
def StV.text (s : StV) : List UInt8 := Lib.join [pInt s.k, encM s.el.data.toList, encM s.at_.data.toList, pInt s.d, encM s.pe.data.toList, encM s.re.data.toList, pInt s.pa, encM s.wo.data.toList] [124]
def StV.rng (s : StV) : Prop := (-9223372036854775808 ≤ s.k ∧ s.k ≤ 9223372036854775807) ∧ (0 ≤ s.d ∧ s.d ≤ 255) ∧ (-9223372036854775808 ≤ s.pa ∧ s.pa ≤ 9223372036854775807)
def StV.small (s : StV) (n : Nat) : Prop := s.el.size ≤ n ∧ s.at_.size ≤ n ∧ s.pe.size ≤ n ∧ s.re.size ≤ n ∧ s.wo.size ≤ n
theorem pInt_len21 (n : Int) (h0 : -9223372036854775808 ≤ n) (h1 : n ≤ 9223372036854775807) : (pInt n).length ≤ 21 := by
  unfold pInt
  have := (decs_len20 n.natAbs (by omega)).1
  split
  · simp; omega
  · omega
theorem text_len (s : StV) (hr : s.rng) (n : Nat) (hs : s.small n) : s.text.length ≤ 60 * n + 70 := by
  obtain ⟨⟨a1, a2⟩, ⟨b1, b2⟩, ⟨c1, c2⟩⟩ := hr
  obtain ⟨s1, s2, s3, s4, s5⟩ := hs
  have l0 := pInt_len21 s.k a1 a2
  have l3 := pInt_len21 s.d (by omega) (by omega)
  have l6 := pInt_len21 s.pa c1 c2
  have l1 := encM_len s.el.data.toList
  have l2 := encM_len s.at_.data.toList
  have l4 := encM_len s.pe.data.toList
  have l5 := encM_len s.re.data.toList
  have l7 := encM_len s.wo.data.toList
  rw [size_list] at l1 l2 l4 l5 l7
  unfold StV.text
  rw [Lib.join_cons, List.length_append, Lib.joinTail_length]
  simp only [Lib.lens, List.map_cons, List.map_nil, List.sum_cons, List.sum_nil, List.length_cons, List.length_nil]
  omega
theorem encode_bytes (x : ByteArray) (w : World) (hz : x.size ≤ 100000000) (hT : Lib.Utf8Tabs 3 4 w) :
    Calls Tryd.prog 26 #[.string x] w fun e w' => e = .returned (.string ⟨(encM x.data.toList).toArray⟩) ∧ Below w.heap.size w w' := by
  rw [← size_list] at hz
  obtain ⟨⟨l⟩⟩ := x
  exact encode_any l w hz hT
theorem printS_any (s : StV) (hr : s.rng) (n : Nat) (hn : n ≤ 100000000) (hs : s.small n) (w : World) (hT : Lib.Utf8Tabs 3 4 w) :
    Calls Tryd.prog 15 #[.agg #[.int .i64 s.k, .string s.el, .string s.at_, .int .u8 s.d, .string s.pe, .string s.re, .int .i64 s.pa, .string s.wo]] w fun e w' => e = .returned (.string ⟨s.text.toArray⟩) ∧ Below w.heap.size w w' := by
  have hl := text_len s hr n hs
  obtain ⟨⟨a1, a2⟩, ⟨b1, b2⟩, ⟨c1, c2⟩⟩ := hr
  obtain ⟨s1, s2, s3, s4, s5⟩ := hs
  exact printS_gen s.k s.d s.pa s.el s.at_ s.pe s.re s.wo ⟨(pInt s.k).toArray⟩ ⟨(encM s.el.data.toList).toArray⟩ ⟨(encM s.at_.data.toList).toArray⟩ ⟨(pInt s.d).toArray⟩ ⟨(encM s.pe.data.toList).toArray⟩ ⟨(encM s.re.data.toList).toArray⟩ ⟨(pInt s.pa).toArray⟩ ⟨(encM s.wo.data.toList).toArray⟩ w b1 b2
    (fun W hW => print_any s.k W a1 a2) (fun W hW => encode_bytes s.el W (by omega) (Utf8Tabs_below hT hW)) (fun W hW => encode_bytes s.at_ W (by omega) (Utf8Tabs_below hT hW)) (fun W hW => print_any s.d W (by omega) (by omega))
    (fun W hW => encode_bytes s.pe W (by omega) (Utf8Tabs_below hT hW)) (fun W hW => encode_bytes s.re W (by omega) (Utf8Tabs_below hT hW)) (fun W hW => print_any s.pa W c1 c2) (fun W hW => encode_bytes s.wo W (by omega) (Utf8Tabs_below hT hW))
    (by show s.text.length ≤ _; omega)
theorem num13 (n : Int) (w : World) : Calls Tryd.prog 13 #[.int .i64 n] w fun e w' => e = .returned (.int .i64 n) ∧ w = w' := by
  go_enter Tryd.func13, Tryd.ntmps13
  go_wp2_with fail
  go_ret
  exact ⟨rfl, rfl⟩
abbrev noneC : Array Value := #[.int .i64 0, .string ⟨#[]⟩, .string ⟨#[]⟩, .int .u8 0, .string ⟨#[]⟩, .string ⟨#[]⟩, .int .i64 0, .string ⟨#[]⟩]
theorem start_any (w : World) : Calls Tryd.prog 21 #[] w fun e w' => e = .returned (.agg noneC) ∧ Below w.heap.size w w' := by
  go_enter Tryd.func21, Tryd.ntmps21
  go_wp2_with fail
  (try simp only [Exit.inBlock, Exit.then])
  exact bodyPost_ret (v := .agg noneC) (results_cell_row rfl _ _ w.heap.size 29 _ (0, 0) _ rfl (heap_alloc_new w _) Tryd.underlying29 rfl (by kernel_rfl)) rfl ⟨rfl, (Below.refl _ _).alloc (Nat.le_refl _) _⟩
theorem text_none : StV.none_.text = [48, 124, 124, 124, 48, 124, 124, 124, 48, 124] := by decide +kernel
theorem chk_none : StV.none_.chk = 0 := by decide +kernel
theorem print_none (w : World) (hT : Lib.Utf8Tabs 3 4 w) :
    Calls Tryd.prog 15 #[.agg noneC] w fun e w' => e = .returned (.string ⟨#[48, 124, 124, 124, 48, 124, 124, 124, 48, 124]⟩) ∧ Below w.heap.size w w' := by
  have h := printS_any StV.none_ (by unfold StV.rng StV.none_; decide) 0 (by decide) (by unfold StV.small StV.none_; decide) w hT
  rw [text_none] at h
  exact h
theorem check_none (w : World) : Calls Tryd.prog 22 #[.agg noneC] w fun e w' => e = .returned (.int .i64 0) ∧ Below w.heap.size w w' := by
  have h := check_any 0 ⟨#[]⟩ ⟨#[]⟩ 0 ⟨#[]⟩ ⟨#[]⟩ 0 ⟨#[]⟩ w (by decide) (by decide)
  have e : chkM 0 (ByteArray.mk #[]).data.toList (ByteArray.mk #[]).data.toList 0 (ByteArray.mk #[]).data.toList (ByteArray.mk #[]).data.toList 0 (ByteArray.mk #[]).data.toList = 0 := chk_none
  rw [e] at h
  exact h
set_option maxHeartbeats 1000000 in
set_option maxRecDepth 100000 in
theorem alive13 (w : World) (hT : Lib.Utf8Tabs 3 4 w) : Calls Tryd.prog 11 #[] w fun e w' => e = .returned (.bool true) ∧ Below w.heap.size w w' := by
  have cP := hide print_none; have cS := hide start_any; have cC := hide check_none
  go_enter Tryd.func11, Tryd.ntmps11
  go_wp2_with fail
  refine (cS.out _).mono ?_
  rintro e w1 ⟨rfl, hb1⟩
  go_wp2_with fail
  refine (cP.out _ (Utf8Tabs_below hT hb1)).mono ?_
  rintro e w2 ⟨rfl, hb2⟩
  have hB2 := below_step hb1 hb2
  go_wp2_with fail
  refine (cS.out _).mono ?_
  rintro e w3 ⟨rfl, hb3⟩
  go_wp2_with fail
  refine (cC.out _).mono ?_
  rintro e w4 ⟨rfl, hb4⟩
  have hB4 := below_step (below_step hB2 hb3) hb4
  go_wp2_with (go_at_call 13; refine (num13 _ _).mono ?_; rintro e wn ⟨rfl, rfl⟩)
  go_ret
  exact ⟨rfl, hB4⟩
theorem indexB_one (s : ByteArray) (c : UInt8) : Lib.indexB s ⟨#[c]⟩ = Lib.indexByte s.data.toList c := Lib.index_one s.data.toList c
set_option maxHeartbeats 400000 in
theorem index_one_any (s : ByteArray) (c : UInt8) (w : World) : Calls Tryd.prog 73 #[.string s, .string ⟨#[c]⟩] w fun e w' => e = .returned (.int .i64 (Lib.indexB s ⟨#[c]⟩)) ∧ w' = w := by
  rw [indexB_one]
  have cI := hide (sliteIndex_one s c)
  generalize Lib.indexByte s.data.toList c = i at cI ⊢
  go_enter Tryd.func73, Tryd.ntmps73
  go_wp2_with (go_at_call 105; refine (cI.out _).mono ?_; rintro e w1 ⟨rfl, rfl⟩)
  go_ret
  exact ⟨rfl, rfl⟩
/-- A text's pieces. -/
def piecesOf (s : ByteArray) : List ByteArray := Lib.splitB ⟨#[124]⟩ 0 (Lib.countB s ⟨#[124]⟩) s
theorem pieces_data (s : ByteArray) : (piecesOf s).map (·.data.toList) = Lib.split s.data.toList [124] := Lib.splitB_data ⟨#[124]⟩ 0 _ s
set_option maxHeartbeats 1000000 in
theorem genSplit_bar (s : ByteArray) (w : World) (hs : s.size < 4294967281) :
    Calls Tryd.prog 44 #[.string s, .string ⟨#[124]⟩, .int .i64 0, .int .i64 (-1)] w fun e w' => e = .returned (.slice (some ⟨w.heap.size, 0, none⟩) (piecesOf s).length (piecesOf s).length) ∧ w' = w.alloc (.cells ((piecesOf s).map Value.string).toArray 9) := by
  have hle := Lib.countB_le ⟨#[124]⟩ (by decide) s.size s (Nat.le_refl _)
  have hlen := Lib.splitB_all ⟨#[124]⟩ (by decide) 0 _ s rfl
  have hC : Calls Tryd.prog 72 #[.string s, .string ⟨#[124]⟩] w fun e w' => e = .returned (.int .i64 (Lib.countB s ⟨#[124]⟩)) ∧ w' = w := by
    refine (Tryd.strings_Count_one s 124 w).mono fun e w' ⟨he, hw⟩ => ⟨?_, hw⟩
    rw [he]
    show _ = Ending.returned (Value.int .i64 ((Lib.count s.data.toList [124] : Nat) : Int))
    rw [Lib.count_one]
    rfl
  have c := Any.strings_genSplit_core Tryd.lays221 (by kernel_rfl) s ⟨#[124]⟩ 0 (-1) (Lib.countB s ⟨#[124]⟩ + 1) w hs (by decide) (Nat.zero_le _) (fun x cs hx => index_one_any x 124 _) hC (by decide) (by decide) (by rw [if_pos (by decide)]; omega)
  rw [Nat.add_sub_cancel, hlen] at c
  have e2 : Lib.cellsOf (Lib.splitB ⟨#[124]⟩ 0 (Lib.countB s ⟨#[124]⟩) s) (Lib.countB s ⟨#[124]⟩ + 1) = ((Lib.splitB ⟨#[124]⟩ 0 (Lib.countB s ⟨#[124]⟩) s).map Value.string).toArray := by rw [← hlen]; exact Lib.cellsOf_full _
  rw [e2] at c
  unfold piecesOf
  rw [hlen]
  exact c
set_option maxHeartbeats 400000 in
theorem split_bar (s : ByteArray) (w : World) (hs : s.size < 4294967281) :
    Calls Tryd.prog 23 #[.string s, .string ⟨#[124]⟩] w fun e w' => e = .returned (.slice (some ⟨w.heap.size, 0, none⟩) (piecesOf s).length (piecesOf s).length) ∧ w' = w.alloc (.cells ((piecesOf s).map Value.string).toArray 9) := by
  have c := hide (genSplit_bar s w hs)
  go_enter Tryd.func23, Tryd.ntmps23
  go_wp2_with (go_at_call 44; refine (c.out).mono ?_; rintro e w1 ⟨rfl, rfl⟩)
  go_ret
  exact ⟨rfl, rfl⟩
end Go.Proofs.YtlandmahjdaphaaDoor
