/-
  strings.IndexAny of any text in a line's ends: exactly.
-/
import Derived.Test.YtdnmgpidfjkiaaaDoorShelf
import Derived.Test.YtdnmgpidfjkiaaaDoorM1
import Derived.Test.YtdnmgpidfjkiaaaDoorM6
import Derived.Lib.TrimUEq
import Derived.Laws.RangeAny
import Derived.Laws.Runes
import Derived.Lib.OthersKept
import Derived.Lib.IndexAny
import Derived.Deep.QuietTactic
import Derived.WalkMore
import Derived.ScopeJumps
namespace Go.Proofs.YtdnmgpidfjkiaaaDoor
open Go.RowKit
set_option linter.unusedVariables false
set_option linter.unusedSimpArgs false

/-- A text of two octets below 128. -/
structure TwoLow (T : ByteArray) : Prop where
  size : T.size = 2
  low : ∀ (i : Nat) (h : i < T.size), (T[i]'h).toNat < 128
theorem TwoLow.data {T : ByteArray} (h : TwoLow T) (j : Nat) (b : UInt8) (hb : T.data.toList[j]? = some b) : b.toNat < 128 := by
  have hj : j < T.size := by
    rcases Nat.lt_or_ge j T.size with h1 | h1
    · exact h1
    · rw [List.getElem?_eq_none (by rw [size_list]; exact h1)] at hb; cases hb
  have := h.low j hj
  rw [Lib.data_getElem? T j hj] at hb
  injection hb with hb
  rw [← hb]; exact this
theorem valid_is (c : Int) : Lib.validRune c = true → Utf8.valid c = true := by
  intro h
  unfold Lib.validRune at h
  unfold Utf8.valid
  simp at h ⊢
  omega
/-- What IndexRune tells. -/
def RuneAt (T : ByteArray) (c : Nat) (r : Int) : Prop := (c < 128 → r = Lib.indexByte T.data.toList c.toUInt8) ∧ (128 ≤ c → r < 0)
theorem runeAt_neg (T : ByteArray) {c : Nat} (h : 128 ≤ c) : RuneAt T c (-1) := ⟨fun h2 => by omega, fun _ => by decide⟩
set_option maxHeartbeats 2000000 in
set_option maxRecDepth 100000 in
theorem indexRune_weak (T : ByteArray) (hT : TwoLow T) (c : Nat) (hc : c ≤ 2147483647) (w : World) :
    Calls Tryd.prog 153 #[.string T, .int .i32 (c : Int)] w fun e w' => ∃ r : Int, e = .returned (.int .i64 r) ∧ RuneAt T c r ∧ Below w.heap.size w w' := by
  have hz : T.size = 2 := hT.size
  have HT := hide hT
  clear hT
  rcases Nat.lt_or_ge c 128 with h128 | h128
  · exact (Tryd.strings_IndexRune_ascii T c w (by omega) (by omega)).mono fun e w' ⟨h1, h2⟩ => ⟨_, h1, ⟨fun _ => by rw [Int.toNat_natCast], fun h => by omega⟩, by rw [h2]; exact Below.refl _ _⟩
  · have hRA := hide (runeAt_neg T h128)
    have g1 : decide ((c : Int) < 128) = false := by simp; omega
    by_cases hE : c = 65533
    · subst hE
      go_enter Tryd.func153, Tryd.ntmps153
      go_wp2_with fail
      go_loopg [5, 6] 2 (fun g _ _ wx => ∃ i : Nat, i + g = 2 ∧ wx = w.iter T i)
      case atStart => exact ⟨0, by omega, rfl⟩
      case round =>
        obtain ⟨i, hig, rfl⟩ := hrel
        cases gk with
        | zero =>
          obtain rfl : i = 2 := by omega
          have hnx := fun ty => run_next_end (P := Tryd.prog) w T 2 ty (by omega)
          go_wp2_with fail
          go_ret
          first | exact ⟨hRA.out, (Below.refl _ _).alloc (Nat.le_refl _) _⟩ | exact ⟨_, rfl, hRA.out, (Below.refl _ _).alloc (Nat.le_refl _) _⟩
        | succ g =>
          have hi : i < T.size := by omega
          have hlo := HT.out.low i hi
          obtain ⟨x, hx⟩ : ∃ x : UInt8, T[i]'hi = x := ⟨_, rfl⟩
          rw [hx] at hlo
          have hnx := fun ty => run_next_ascii (P := Tryd.prog) w T i ty hi (by rw [hx]; exact hlo)
          rw [hx] at hnx
          have g2 : ((x.toNat : Int) == 65533) = false := by simp; omega
          go_wp2_with fail
          go_roundg g
          case measure => omega
          case rel => exact ⟨i + 1, by omega, rfl⟩
    · have g3 : ((c : Int) == 65533) = false := by simp; omega
      have cV := hide (fun w => Tryd.utf8_ValidRune (c : Int) w)
      rcases Bool.eq_false_or_eq_true (Lib.validRune (c : Int)) with hv | hv
      · rw [hv] at cV
        have hf := encode_facts (c : Int) (valid_is _ hv) (by omega)
        have conv : ∀ (W : World), (convert 21 9 (.int .i32 (c : Int))).run Tryd.prog W = .ok (.string (Utf8.encode (c : Int))) W := fun W => run_convert_int_string W _ _ _ _ (by kernel_rfl) (by kernel_rfl)
        obtain ⟨S, hSe⟩ : ∃ S, Utf8.encode (c : Int) = S := ⟨_, rfl⟩
        rw [hSe] at hf
        simp only [hSe] at conv
        obtain ⟨h2, h4, h5⟩ := hf
        by_cases hS : S.size = 2
        · have h5 := h5 (by omega)
          have l1 : 1 < S.size := by omega
          have k1 : 1 < T.size := by omega
          obtain ⟨x, hx⟩ : ∃ x : UInt8, S[1]'l1 = x := ⟨_, rfl⟩
          obtain ⟨y, hy⟩ : ∃ y : UInt8, T[1]'k1 = y := ⟨_, rfl⟩
          have hx2 : 128 ≤ x.toNat := by rw [← hx]; have : S.size - 1 = 1 := by omega
                                         simpa [this] using h5
          have hy2 : y.toNat < 128 := by rw [← hy]; exact HT.out.low 1 k1
          have g4 : ((y.toNat : Int) != (x.toNat : Int)) = true := by simp; omega
          have cI := hide (show ∀ w, Calls Tryd.prog 96 #[.string ByteArray.empty, .int .u8 (x.toNat : Int)] w fun e w' => e = .returned (.int .i64 (-1)) ∧ w' = w from fun w => Tryd.strings_IndexByte ByteArray.empty (x.toNat : Int) w)
          clear h5 h2 h4
          go_enter Tryd.func153, Tryd.ntmps153
          go_wp2_with (go_at_call 127; refine (cV.out _).mono ?_; rintro e w1 ⟨rfl, hw⟩; rw [hw])
          clear hv h5 cV
          have hwr : IntKind.i64.wrap 2 = 2 := rfl
          go_step3
          go_wp2_with fail
          go_loopw [9] (fun i wr => i = .int .i64 1 ∧ wr = w) (fun i _ => 2 - (intOf i).toNat)
          case atStart => exact ⟨rfl, rfl⟩
          case round =>
            obtain ⟨rfl, rfl⟩ := hrel
            go_wp2_with fail
            go_step3
            go_wp2_with fail
            go_quiet (first | fail)
            have hb := below_drewN (Below.refl wr.heap.size wr) nq
            generalize wr.drewN nq = W2 at hb ⊢
            go_wp2_with fail
            go_quiet (first | (go_at_call 96; exact Calls.quiet_of ((cI.out _).mono fun e w' h => ⟨h.1, 0, h.2⟩)))
            go_wp2_with fail
            simp (config := { zetaDelta := true }) only [Exit.noGoto_ret, Exit.inBlock, Exit.then, Exit.noGoto]
            go_ret
            first | exact ⟨_, rfl, hRA.out, below_drewN hb _⟩ | exact ⟨hRA.out, below_drewN hb _⟩
        · have g4 : decide ((S.size : Int) - 1 < 2) = false := by simp; omega
          clear h5
          go_enter Tryd.func153, Tryd.ntmps153
          go_wp2_with (go_at_call 127; refine (cV.out _).mono ?_; rintro e w1 ⟨rfl, hw⟩; rw [hw])
          clear hv cV
          go_step3
          go_wp2_with fail
          go_loopw [9] (fun i wr => i = .int .i64 ((S.size : Int) - 1) ∧ wr = w) (fun i _ => 2 - (intOf i).toNat)
          case atStart => exact ⟨by go_num, rfl⟩
          case round =>
            obtain ⟨rfl, rfl⟩ := hrel
            go_wp2_with fail
            simp only [Exit.noGoto_ret]
            go_ret
            first | exact ⟨_, rfl, hRA.out, Below.refl _ _⟩ | exact ⟨hRA.out, Below.refl _ _⟩
      · rw [hv] at cV
        go_enter Tryd.func153, Tryd.ntmps153
        go_wp2_with (go_at_call 127; refine (cV.out _).mono ?_; rintro e w1 ⟨rfl, hw⟩; rw [hw])
        go_ret
        first | exact ⟨_, rfl, hRA.out, Below.refl _ _⟩ | exact ⟨hRA.out, Below.refl _ _⟩
theorem indexAny_lt (chars : List UInt8) : ∀ l : List UInt8, Lib.indexAny l chars < l.length ∨ Lib.indexAny l chars = -1
  | [] => .inr rfl
  | b :: l => by
    have ih := indexAny_lt chars l
    unfold Lib.indexAny
    split
    · left; simp <;> omega
    · split
      · exact .inr rfl
      · rename_i h1 h2
        simp at h2
        left; simp; omega
theorem decode_width (s : ByteArray) (pos : Nat) : 1 ≤ (Utf8.decode s pos).2 := by
  simp only [Utf8.decode]
  repeat' split
  all_goals simp
/-- No line ends ahead of a place. -/
def QuietTo (S : List UInt8) (i : Nat) : Prop := ∀ j c, j < i → S[j]? = some c → newlB c = false
theorem nl_contains (c : UInt8) : ([10, 13] : List UInt8).contains c = newlB c := by
  have := allBytes (fun c => ([10, 13] : List UInt8).contains c == newlB c) (by decide +kernel) c
  simpa using this
theorem nl_index (c : UInt8) : decide (0 ≤ Lib.indexByte [10, 13] c) = newlB c := by
  have := allBytes (fun c => decide (0 ≤ Lib.indexByte [10, 13] c) == newlB c) (by decide +kernel) c
  simpa using this
theorem quiet_hit : ∀ (S : List UInt8) (i : Nat) (c : UInt8), QuietTo S i → S[i]? = some c → newlB c = true → Lib.indexAny S [10, 13] = i := by
  intro S
  induction S with
  | nil => intro i c _ h; simp at h
  | cons b S ih =>
    intro i c hq hi hc
    unfold Lib.indexAny
    rw [nl_contains]
    cases i with
    | zero =>
      simp at hi
      subst hi
      rw [hc]; rfl
    | succ i =>
      have hb : newlB b = false := hq 0 b (by omega) rfl
      have := ih i c (fun j d h1 h2 => hq (j + 1) d (by omega) (by simpa using h2)) (by simpa using hi) hc
      rw [hb, this]
      have h1 : ((i : Int) == -1) = false := by rw [beq_eq_false_iff_ne]; omega
      rw [h1]; simp
theorem quiet_end : ∀ (S : List UInt8) (i : Nat), QuietTo S i → S.length ≤ i → Lib.indexAny S [10, 13] = -1 := by
  intro S
  induction S with
  | nil => intro i _ _; rfl
  | cons b S ih =>
    intro i hq hi
    cases i with
    | zero => simp at hi
    | succ i =>
      have hb : newlB b = false := hq 0 b (by omega) rfl
      have := ih i (fun j d h1 h2 => hq (j + 1) d (by omega) (by simpa using h2)) (by simpa using hi)
      unfold Lib.indexAny
      rw [nl_contains, hb, this]; rfl
theorem decodeN_high (n b0 b1 b2 b3 : Nat) (h : 128 ≤ b0) : (Lib.decodeN n b0 b1 b2 b3).2 ≤ 4 ∧ (1 < (Lib.decodeN n b0 b1 b2 b3).2 → 128 ≤ b1) ∧ (2 < (Lib.decodeN n b0 b1 b2 b3).2 → 128 ≤ b2) ∧ (3 < (Lib.decodeN n b0 b1 b2 b3).2 → 128 ≤ b3) := by
  unfold Lib.decodeN
  repeat' split
  all_goals (simp only; omega)
theorem high_quiet {c : UInt8} (h : 128 ≤ c.toNat) : newlB c = false := by
  have := allBytes (fun c => !(decide (128 ≤ c.toNat)) || !(newlB c)) (by decide +kernel) c
  rw [decide_eq_true h] at this
  simpa using this
theorem quiet_high {s : ByteArray} {i : Nat} (hi : i < s.size) (h : 128 ≤ (s[i]'hi).toNat) (hq : QuietTo s.data.toList i) : QuietTo s.data.toList (i + (Utf8.decode s i).2) := by
  have hd := Lib.data_getElem? s i hi
  have hN := Lib.decode_N s i
  have hg : ∀ k c, s.data.toList[k]? = some c → s.data.toList.getD k 0 = c := fun k c h => by rw [List.getD_eq_getElem?_getD, h]; rfl
  have hb0 : 128 ≤ (s.data.toList.getD i 0).toNat := by rw [hg i _ hd]; exact h
  have hh := decodeN_high (s.data.toList.length - i) (s.data.toList.getD i 0).toNat (s.data.toList.getD (i + 1) 0).toNat (s.data.toList.getD (i + 2) 0).toNat (s.data.toList.getD (i + 3) 0).toNat hb0
  rw [← hN] at hh
  obtain ⟨h4, h1, h2, h3⟩ := hh
  intro j c hj hc
  rcases Nat.lt_or_ge j i with g | g
  · exact hq j c g hc
  · have hgc := hg j c hc
    have hj4 : j = i ∨ j = i + 1 ∨ j = i + 2 ∨ j = i + 3 := by omega
    rcases hj4 with rfl | rfl | rfl | rfl
    · exact high_quiet (by rw [← hgc]; exact hb0)
    · exact high_quiet (by rw [← hgc]; exact h1 (by omega))
    · exact high_quiet (by rw [← hgc]; exact h2 (by omega))
    · exact high_quiet (by rw [← hgc]; exact h3 (by omega))
theorem quiet_low {s : ByteArray} {i : Nat} (hi : i < s.size) (h : newlB (s[i]'hi) = false) (hq : QuietTo s.data.toList i) : QuietTo s.data.toList (i + 1) := by
  have hd := Lib.data_getElem? s i hi
  intro j c hj hc
  rcases Nat.lt_or_ge j i with g | g
  · exact hq j c g hc
  · obtain rfl : j = i := by omega
    rw [hd] at hc
    injection hc with hc
    rw [← hc]; exact h
theorem info_ascii : (Tryd.prog.info? 127).map (fun i => (i.zero, i.size)) = some (some (.agg (Array.replicate 256 (.bool false))), 256) := by kernel_rfl
set_option maxHeartbeats 2000000 in
set_option maxRecDepth 100000 in
theorem indexAny_nl (T : ByteArray) (hT : TwoLow T) (hTd : T.data.toList = [10, 13]) (s : ByteArray) (hs : s.size < 4294967281) (w : World) :
    Calls Tryd.prog 135 #[.string s, .string T] w fun e w' => e = .returned (.int .i64 (Lib.indexAny s.data.toList [10, 13])) ∧ Below w.heap.size w w' := by
  have hz : T.size = 2 := hT.size
  rcases Nat.lt_or_ge 8 s.size with h8 | h8
  · refine (Tryd.strings_IndexAny_long (zero_of_info info_ascii).1 s T w (by omega) h8 hs (by omega) hT.data).mono ?_
    rintro e w' ⟨rfl, rfl⟩
    rw [hTd]
    exact ⟨rfl, ((Below.refl _ _).alloc (Nat.le_refl _) _).alloc (by simp) _⟩
  · have HT := hide hT
    have HTD := hide hTd
    obtain ⟨R, hR⟩ : ∃ R, Lib.indexAny s.data.toList [10, 13] = R := ⟨_, rfl⟩
    have hq0 : Hid (QuietTo s.data.toList 0) := fun j c h => absurd h (Nat.not_lt_zero _)
    have hemp : T.toList.isEmpty = false := by
      rw [Lib.toList_data, hTd]; rfl
    have hn1 : ((T.size : Int) == 1) = false := beq_eq_false_iff_ne.2 (by omega)
    have h8z : decide ((8 : Int) < (s.size : Int)) = false := decide_eq_false (by omega)
    have cS := hide (fun w => Tryd.strings_shouldUseASCIISet (s.size : Int) w)
    rw [h8z] at cS
    have hit0 : (w.iter s 0).heap[w.heap.size]? = some (.stringIter s 0) := World.iter_heap w s 0
    have hb0 : Below w.heap.size w (w.iter s 0) := (Below.refl _ _).alloc (Nat.le_refl _) _
    have HR := hide hR
    rw [hR]
    clear hT hTd hR
    go_enter Tryd.func135, Tryd.ntmps135
    go_wp2_with (go_at_call 154; refine (cS.out _).mono ?_; rintro e w1 ⟨rfl, hw⟩; rw [hw])
    generalize w.iter s 0 = W0 at hit0 hb0 ⊢
    go_loopg [9, 10] s.size (fun g _ _ wx => ∃ i : Nat, s.size ≤ i + g ∧ wx.heap[w.heap.size]? = some (.stringIter s i) ∧ Below w.heap.size w wx ∧ Hid (QuietTo s.data.toList i))
    case atStart => exact ⟨0, by omega, hit0, hb0, hq0⟩
    case round =>
      obtain ⟨i, hig, hit, hb, hquiet⟩ := hrel
      by_cases hi : i < s.size
      · have hnx : ∀ ty, (Instr.next (.pointer (some ⟨w.heap.size, 0, none⟩)) true ty).run Tryd.prog wr = _ := fun ty => Lib.run_next_any_at wr w.heap.size s i ty hit hi
        have hle := decode_le s i
        have hwd := decode_width s i
        have hcr : ∀ r, RuneAt T (Utf8.decode s i).1 r → (0 ≤ r → R = i) ∧ (r < 0 → QuietTo s.data.toList (i + (Utf8.decode s i).2)) := by
          intro r hr
          rcases Nat.lt_or_ge (s[i]'hi).toNat 128 with g | g
          · have hd := decode_ascii s i hi g
            rw [hd] at hr ⊢
            have h1 := hr.1 g
            rw [HTD.out, show ((s[i]'hi).toNat).toUInt8 = s[i]'hi by simp] at h1
            have h2 := nl_index (s[i]'hi)
            rw [← h1] at h2
            refine ⟨fun h0 => ?_, fun h0 => ?_⟩
            · rw [decide_eq_true h0] at h2
              rw [← HR.out]
              exact quiet_hit _ i _ hquiet.out (Lib.data_getElem? s i hi) h2.symm
            · rw [decide_eq_false (by omega)] at h2
              exact quiet_low hi h2.symm hquiet.out
          · have hd := (decode_high s i hi g).1
            have h1 := hr.2 hd
            exact ⟨fun h0 => by omega, fun _ => quiet_high hi g hquiet.out⟩
        generalize Utf8.decode s i = D at hnx hle hwd hcr
        obtain ⟨c, d⟩ := D
        simp only at hnx hle hwd hcr
        have cR := hide (fun w => indexRune_weak T HT.out c hle w)
        have hcr := hide hcr
        have hit2 := Lib.iterAt_heap wr w.heap.size s i (i + d) hit
        have hb2 := Lib.below_iterAt hb (Nat.le_refl _) s (i + d)
        have hsz2 := Lib.iterAt_size wr w.heap.size s (i + d)
        have hlt2 : w.heap.size < wr.heap.size := (Array.getElem?_eq_some_iff.1 hit).1
        clear hit hquiet
        go_wp2_with fail
        refine (cR.out _).mono ?_
        rintro e w2 ⟨r, rfl, hr0, hbr⟩
        obtain ⟨hr1, hr2⟩ := hcr.out r hr0
        have hr1 := hide hr1; have hr2 := hide hr2
        have hit3 := (hbr.block w.heap.size (by omega)).trans hit2
        have hb3 := hb2.trans (hbr.mono (by omega))
        clear hit2 hb2 hbr hnx hb hr0 hcr
        by_cases hr : 0 ≤ r
        · have hRi := hide (hr1.out hr)
          go_wp2_with fail
          go_ret
          exact ⟨by rw [hRi.out]; rfl, hb3⟩
        · have hq2 := hide (hr2.out (by omega))
          go_wp2_with fail
          cases gk with
          | zero => exfalso; omega
          | succ g =>
            go_roundg g
            case measure => omega
            case rel => exact ⟨i + d, by omega, hit3, hb3, hq2⟩
      · have hnx := fun ty => Lib.run_next_end_at (P := Tryd.prog) wr w.heap.size s i ty hit hi
        have hRi : Hid (R = -1) := by
          show R = -1
          rw [← HR.out]
          exact quiet_end _ i hquiet.out (by rw [size_list]; omega)
        clear hquiet
        go_wp2_with fail
        go_ret
        exact ⟨by rw [hRi.out]; rfl, hb⟩
end Go.Proofs.YtdnmgpidfjkiaaaDoor
