/-
  strings.IndexAny of any text in two octets below 128: a place within the text, or -1.
-/
import Derived.Test.YtdnmgpidfjkiaaaDoorShelf
import Derived.Test.YtdnmgpidfjkiaaaDoorM1
import Derived.Test.YtdnmgpidfjkiaaaDoorM6
import Derived.Laws.RangeAny
import Derived.Laws.Runes
import Derived.Lib.OthersKept
import Derived.Lib.IndexAny
import Derived.Deep.QuietTactic
import Derived.WalkMore
import Derived.ScopeJumps
namespace Go.Proofs.YtdnmgpidfjkiaaaDoor
open Go.RowKit
set_option linter.unusedVariables false
set_option linter.unusedSimpArgs false

/-- A text of two octets below 128. -/
structure TwoLow (T : ByteArray) : Prop where
  size : T.size = 2
  low : ∀ (i : Nat) (h : i < T.size), (T[i]'h).toNat < 128
theorem TwoLow.data {T : ByteArray} (h : TwoLow T) (j : Nat) (b : UInt8) (hb : T.data.toList[j]? = some b) : b.toNat < 128 := by
  have hj : j < T.size := by
    rcases Nat.lt_or_ge j T.size with h1 | h1
    · exact h1
    · rw [List.getElem?_eq_none (by rw [size_list]; exact h1)] at hb; cases hb
  have := h.low j hj
  rw [Lib.data_getElem? T j hj] at hb
  injection hb with hb
  rw [← hb]; exact this
theorem valid_is (c : Int) : Lib.validRune c = true → Utf8.valid c = true := by
  intro h
  unfold Lib.validRune at h
  unfold Utf8.valid
  simp at h ⊢
  omega
set_option maxHeartbeats 2000000 in
set_option maxRecDepth 100000 in
theorem indexRune_weak (T : ByteArray) (hT : TwoLow T) (c : Nat) (hc : c ≤ 2147483647) (w : World) :
    Calls Tryd.prog 153 #[.string T, .int .i32 (c : Int)] w fun e w' => ∃ r : Int, e = .returned (.int .i64 r) ∧ Below w.heap.size w w' := by
  have hz : T.size = 2 := hT.size
  have HT := hide hT
  clear hT
  rcases Nat.lt_or_ge c 128 with h128 | h128
  · exact (Tryd.strings_IndexRune_ascii T c w (by omega) (by omega)).mono fun e w' ⟨h1, h2⟩ => ⟨_, h1, by rw [h2]; exact Below.refl _ _⟩
  · have g1 : decide ((c : Int) < 128) = false := by simp; omega
    by_cases hE : c = 65533
    · subst hE
      go_enter Tryd.func153, Tryd.ntmps153
      go_wp2_with fail
      go_loopg [5, 6] 2 (fun g _ _ wx => ∃ i : Nat, i + g = 2 ∧ wx = w.iter T i)
      case atStart => exact ⟨0, by omega, rfl⟩
      case round =>
        obtain ⟨i, hig, rfl⟩ := hrel
        cases gk with
        | zero =>
          obtain rfl : i = 2 := by omega
          have hnx := fun ty => run_next_end (P := Tryd.prog) w T 2 ty (by omega)
          go_wp2_with fail
          go_ret
          exact ⟨⟨_, rfl⟩, (Below.refl _ _).alloc (Nat.le_refl _) _⟩
        | succ g =>
          have hi : i < T.size := by omega
          have hlo := HT.out.low i hi
          obtain ⟨x, hx⟩ : ∃ x : UInt8, T[i]'hi = x := ⟨_, rfl⟩
          rw [hx] at hlo
          have hnx := fun ty => run_next_ascii (P := Tryd.prog) w T i ty hi (by rw [hx]; exact hlo)
          rw [hx] at hnx
          have g2 : ((x.toNat : Int) == 65533) = false := by simp; omega
          go_wp2_with fail
          go_roundg g
          case measure => omega
          case rel => exact ⟨i + 1, by omega, rfl⟩
    · have g3 : ((c : Int) == 65533) = false := by simp; omega
      have cV := hide (fun w => Tryd.utf8_ValidRune (c : Int) w)
      rcases Bool.eq_false_or_eq_true (Lib.validRune (c : Int)) with hv | hv
      · rw [hv] at cV
        have hf := encode_facts (c : Int) (valid_is _ hv) (by omega)
        have conv : ∀ (W : World), (convert 21 9 (.int .i32 (c : Int))).run Tryd.prog W = .ok (.string (Utf8.encode (c : Int))) W := fun W => run_convert_int_string W _ _ _ _ (by kernel_rfl) (by kernel_rfl)
        obtain ⟨S, hSe⟩ : ∃ S, Utf8.encode (c : Int) = S := ⟨_, rfl⟩
        rw [hSe] at hf
        simp only [hSe] at conv
        obtain ⟨h2, h4, h5⟩ := hf
        by_cases hS : S.size = 2
        · have h5 := h5 (by omega)
          have l1 : 1 < S.size := by omega
          have k1 : 1 < T.size := by omega
          obtain ⟨x, hx⟩ : ∃ x : UInt8, S[1]'l1 = x := ⟨_, rfl⟩
          obtain ⟨y, hy⟩ : ∃ y : UInt8, T[1]'k1 = y := ⟨_, rfl⟩
          have hx2 : 128 ≤ x.toNat := by rw [← hx]; have : S.size - 1 = 1 := by omega
                                         simpa [this] using h5
          have hy2 : y.toNat < 128 := by rw [← hy]; exact HT.out.low 1 k1
          have g4 : ((y.toNat : Int) != (x.toNat : Int)) = true := by simp; omega
          have cI := hide (show ∀ w, Calls Tryd.prog 96 #[.string ByteArray.empty, .int .u8 (x.toNat : Int)] w fun e w' => e = .returned (.int .i64 (-1)) ∧ w' = w from fun w => Tryd.strings_IndexByte ByteArray.empty (x.toNat : Int) w)
          clear h5 h2 h4
          go_enter Tryd.func153, Tryd.ntmps153
          go_wp2_with (go_at_call 127; refine (cV.out _).mono ?_; rintro e w1 ⟨rfl, hw⟩; rw [hw])
          clear hv h5 cV
          have hwr : IntKind.i64.wrap 2 = 2 := rfl
          go_step3
          go_wp2_with fail
          go_loopw [9] (fun i wr => i = .int .i64 1 ∧ wr = w) (fun i _ => 2 - (intOf i).toNat)
          case atStart => exact ⟨rfl, rfl⟩
          case round =>
            obtain ⟨rfl, rfl⟩ := hrel
            go_wp2_with fail
            go_step3
            go_wp2_with fail
            go_quiet (first | fail)
            have hb := below_drewN (Below.refl wr.heap.size wr) nq
            generalize wr.drewN nq = W2 at hb ⊢
            go_wp2_with fail
            go_quiet (first | (go_at_call 96; exact Calls.quiet_of ((cI.out _).mono fun e w' h => ⟨h.1, 0, h.2⟩)))
            go_wp2_with fail
            simp (config := { zetaDelta := true }) only [Exit.noGoto_ret, Exit.inBlock, Exit.then, Exit.noGoto]
            go_ret
            exact ⟨_, rfl, below_drewN hb _⟩
        · have g4 : decide ((S.size : Int) - 1 < 2) = false := by simp; omega
          clear h5
          go_enter Tryd.func153, Tryd.ntmps153
          go_wp2_with (go_at_call 127; refine (cV.out _).mono ?_; rintro e w1 ⟨rfl, hw⟩; rw [hw])
          clear hv cV
          go_step3
          go_wp2_with fail
          go_loopw [9] (fun i wr => i = .int .i64 ((S.size : Int) - 1) ∧ wr = w) (fun i _ => 2 - (intOf i).toNat)
          case atStart => exact ⟨by go_num, rfl⟩
          case round =>
            obtain ⟨rfl, rfl⟩ := hrel
            go_wp2_with fail
            simp only [Exit.noGoto_ret]
            go_ret
            exact ⟨_, rfl, Below.refl _ _⟩
      · rw [hv] at cV
        go_enter Tryd.func153, Tryd.ntmps153
        go_wp2_with (go_at_call 127; refine (cV.out _).mono ?_; rintro e w1 ⟨rfl, hw⟩; rw [hw])
        go_ret
        exact ⟨_, rfl, Below.refl _ _⟩
theorem indexAny_lt (chars : List UInt8) : ∀ l : List UInt8, Lib.indexAny l chars < l.length ∨ Lib.indexAny l chars = -1
  | [] => .inr rfl
  | b :: l => by
    have ih := indexAny_lt chars l
    unfold Lib.indexAny
    split
    · left; simp <;> omega
    · split
      · exact .inr rfl
      · rename_i h1 h2
        simp at h2
        left; simp; omega
theorem decode_width (s : ByteArray) (pos : Nat) : 1 ≤ (Utf8.decode s pos).2 := by
  simp only [Utf8.decode]
  repeat' split
  all_goals simp
theorem info_ascii : (Tryd.prog.info? 127).map (fun i => (i.zero, i.size)) = some (some (.agg (Array.replicate 256 (.bool false))), 256) := by kernel_rfl
set_option maxHeartbeats 2000000 in
set_option maxRecDepth 100000 in
theorem indexAny_weak (T : ByteArray) (hT : TwoLow T) (hT47 : T.data.toList.contains 47 = false) (hI47 : Lib.indexByte T.data.toList 47 = -1) (s : ByteArray) (hs : s.size < 4294967281) (hp : 0 < s.size) (h47 : s[0]'hp = 47) (w : World) :
    Calls Tryd.prog 135 #[.string s, .string T] w fun e w' => ∃ r : Int, e = .returned (.int .i64 r) ∧ -1 ≤ r ∧ r < s.size ∧ r ≠ 0 ∧ Below w.heap.size w w' := by
  have hz : T.size = 2 := hT.size
  rcases Nat.lt_or_ge 8 s.size with h8 | h8
  · refine (Tryd.strings_IndexAny_long (zero_of_info info_ascii).1 s T w (by omega) h8 hs (by omega) hT.data).mono ?_
    rintro e w' ⟨rfl, rfl⟩
    have h1 := Lib.indexAny_ge T.data.toList s.data.toList
    have h2 := indexAny_lt T.data.toList s.data.toList
    have h3 := size_list s
    have h5 : Lib.indexAny s.data.toList T.data.toList ≠ 0 := by
      have e0 : s.data.toList[0]? = some 47 := by rw [Lib.data_getElem? s 0 hp, h47]
      cases hl : s.data.toList with
      | nil => rw [hl] at e0; simp at e0
      | cons c l =>
        rw [hl] at e0
        simp at e0
        subst e0
        unfold Lib.indexAny
        rw [hT47]
        simp only [Bool.false_eq_true, if_false]
        have := Lib.indexAny_ge T.data.toList l
        split
        · decide
        · rename_i h6
          simp at h6
          omega
    exact ⟨_, rfl, h1, by omega, h5, ((Below.refl _ _).alloc (Nat.le_refl _) _).alloc (by simp) _⟩
  · have HT := hide hT
    have hemp : T.toList.isEmpty = false := by
      rw [Lib.toList_data]
      cases h : T.data.toList with
      | nil => have := Lib.size_eq T; rw [h, List.length_nil] at this; omega
      | cons _ _ => rfl
    have hn1 : ((T.size : Int) == 1) = false := beq_eq_false_iff_ne.2 (by omega)
    have h8z : decide ((8 : Int) < (s.size : Int)) = false := decide_eq_false (by omega)
    have cS := hide (fun w => Tryd.strings_shouldUseASCIISet (s.size : Int) w)
    rw [h8z] at cS
    have hit0 : (w.iter s 0).heap[w.heap.size]? = some (.stringIter s 0) := World.iter_heap w s 0
    have hb0 : Below w.heap.size w (w.iter s 0) := (Below.refl _ _).alloc (Nat.le_refl _) _
    clear hT
    go_enter Tryd.func135, Tryd.ntmps135
    go_wp2_with (go_at_call 154; refine (cS.out _).mono ?_; rintro e w1 ⟨rfl, hw⟩; rw [hw])
    generalize w.iter s 0 = W0 at hit0 hb0 ⊢
    go_loopg [9, 10] s.size (fun g _ _ wx => ∃ i : Nat, s.size ≤ i + g ∧ wx.heap[w.heap.size]? = some (.stringIter s i) ∧ Below w.heap.size w wx)
    case atStart => exact ⟨0, by omega, hit0, hb0⟩
    case round =>
      obtain ⟨i, hig, hit, hb⟩ := hrel
      by_cases hi : i < s.size
      · have hnx : ∀ ty, (Instr.next (.pointer (some ⟨w.heap.size, 0, none⟩)) true ty).run Tryd.prog wr = _ := fun ty => Lib.run_next_any_at wr w.heap.size s i ty hit hi
        have hle := decode_le s i
        have hwd := decode_width s i
        have hz0 : i = 0 → (Utf8.decode s i).1 = 47 := by
          intro h0
          subst h0
          rw [decode_ascii s 0 hp (by rw [h47]; decide), h47]
          rfl
        generalize Utf8.decode s i = D at hnx hle hwd hz0
        obtain ⟨c, d⟩ := D
        simp only at hnx hle hwd hz0
        have cR := hide (fun w => (show Calls Tryd.prog 153 #[.string T, .int .i32 (c : Int)] w fun e w' => ∃ r : Int, e = .returned (.int .i64 r) ∧ (i = 0 → r < 0) ∧ Below w.heap.size w w' by
          by_cases h0 : i = 0
          · have := hz0 h0
            subst this
            exact (Tryd.strings_IndexRune_ascii T 47 w (by omega) (by omega)).mono fun e w' ⟨h1, h2⟩ => ⟨_, h1, fun _ => by rw [show ((47 : Int)).toNat.toUInt8 = 47 from rfl, hI47]; omega, by rw [h2]; exact Below.refl _ _⟩
          · exact (indexRune_weak T HT.out c hle w).mono fun e w' ⟨r, h1, h2⟩ => ⟨r, h1, fun h => absurd h h0, h2⟩))
        have hit2 := Lib.iterAt_heap wr w.heap.size s i (i + d) hit
        have hb2 := Lib.below_iterAt hb (Nat.le_refl _) s (i + d)
        have hsz2 := Lib.iterAt_size wr w.heap.size s (i + d)
        have hlt2 : w.heap.size < wr.heap.size := (Array.getElem?_eq_some_iff.1 hit).1
        clear hit
        go_wp2_with fail
        refine (cR.out _).mono ?_
        rintro e w2 ⟨r, rfl, hr0, hbr⟩
        have hit3 := (hbr.block w.heap.size (by omega)).trans hit2
        have hb3 := hb2.trans (hbr.mono (by omega))
        clear hit2 hb2 hbr hnx hb
        by_cases hr : 0 ≤ r
        · go_wp2_with fail
          go_ret
          exact ⟨_, rfl, by omega, by omega, by omega, hb3⟩
        · go_wp2_with fail
          cases gk with
          | zero => exfalso; omega
          | succ g =>
            go_roundg g
            case measure => omega
            case rel => exact ⟨i + d, by omega, hit3, hb3⟩
      · have hnx := fun ty => Lib.run_next_end_at (P := Tryd.prog) wr w.heap.size s i ty hit hi
        go_wp2_with fail
        go_ret
        exact ⟨_, rfl, by omega, by omega, by omega, hb⟩
end Go.Proofs.YtdnmgpidfjkiaaaDoor
