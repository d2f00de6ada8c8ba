/-
  jsscan.ended: what part comes behind a word.
-/
import Derived.Test.YtdnmgpidfjkiaaaDoorScan
import Derived.Test.YtdnmgpidfjkiaaaDoorVoid
namespace Go.Proofs.YtdnmgpidfjkiaaaDoor
open Go.RowKit
set_option linter.unusedVariables false
set_option linter.unusedSimpArgs false

/-- The words behind which a value may come, as the program holds them. -/
def wordsT : List ByteArray := [⟨#[114, 101, 116, 117, 114, 110]⟩, ⟨#[116, 121, 112, 101, 111, 102]⟩, ⟨#[99, 97, 115, 101]⟩, ⟨#[105, 110]⟩, ⟨#[111, 102]⟩, ⟨#[100, 101, 108, 101, 116, 101]⟩, ⟨#[118, 111, 105, 100]⟩, ⟨#[116, 104, 114, 111, 119]⟩, ⟨#[110, 101, 119]⟩, ⟨#[101, 108, 115, 101]⟩, ⟨#[100, 111]⟩, ⟨#[105, 110, 115, 116, 97, 110, 99, 101, 111, 102]⟩]
theorem words_any (w : List UInt8) : (wordsT.any fun v => v.toList == (ByteArray.mk w.toArray).toList) = wordsL.any (· == w) := by
  have e : ∀ l : List UInt8, (ByteArray.mk l.toArray).toList = l := fun l => by rw [ByteArray.toList_eq]
  have h : wordsT = wordsL.map fun l => ⟨l.toArray⟩ := rfl
  rw [h, List.any_map]
  congr 1
  funext l
  simp only [Function.comp, e]
theorem fields_words (w : World) (htab : Lib.TabIs Tryd.prog w "strings.asciiSpace" .u8 Lib.asciiSpaceTab) (r : Nat) (hr : r = w.heap.size) :
    Calls Tryd.prog 138 #[.string ⟨#[114, 101, 116, 117, 114, 110, 32, 116, 121, 112, 101, 111, 102, 32, 99, 97, 115, 101, 32, 105, 110, 32, 111, 102, 32, 100, 101, 108, 101, 116, 101, 32, 118, 111, 105, 100, 32, 116, 104, 114, 111, 119, 32, 110, 101, 119, 32, 101, 108, 115, 101, 32, 100, 111, 32, 105, 110, 115, 116, 97, 110, 99, 101, 111, 102]⟩] w fun e w' => e = .returned (.slice (some ⟨r, 0, none⟩) 12 12) ∧ w' = w.alloc (.cells (wordsT.map Value.string).toArray 9) := by
  subst hr
  have h := Tryd.strings_Fields ⟨#[114, 101, 116, 117, 114, 110, 32, 116, 121, 112, 101, 111, 102, 32, 99, 97, 115, 101, 32, 105, 110, 32, 111, 102, 32, 100, 101, 108, 101, 116, 101, 32, 118, 111, 105, 100, 32, 116, 104, 114, 111, 119, 32, 110, 101, 119, 32, 101, 108, 115, 101, 32, 100, 111, 32, 105, 110, 115, 116, 97, 110, 99, 101, 111, 102]⟩ w (by decide) (fun j b hj => by
    have h1 : ((⟨#[114, 101, 116, 117, 114, 110, 32, 116, 121, 112, 101, 111, 102, 32, 99, 97, 115, 101, 32, 105, 110, 32, 111, 102, 32, 100, 101, 108, 101, 116, 101, 32, 118, 111, 105, 100, 32, 116, 104, 114, 111, 119, 32, 110, 101, 119, 32, 101, 108, 115, 101, 32, 100, 111, 32, 105, 110, 115, 116, 97, 110, 99, 101, 111, 102]⟩ : ByteArray).data.toList.all fun b => decide (b.toNat < 128)) = true := by decide +kernel
    simpa using List.all_eq_true.1 h1 b (List.mem_of_getElem? hj)) htab
  rw [show Lib.fields (⟨#[114, 101, 116, 117, 114, 110, 32, 116, 121, 112, 101, 111, 102, 32, 99, 97, 115, 101, 32, 105, 110, 32, 111, 102, 32, 100, 101, 108, 101, 116, 101, 32, 118, 111, 105, 100, 32, 116, 104, 114, 111, 119, 32, 110, 101, 119, 32, 101, 108, 115, 101, 32, 100, 111, 32, 105, 110, 115, 116, 97, 110, 99, 101, 111, 102]⟩ : ByteArray).data.toList = [[114, 101, 116, 117, 114, 110], [116, 121, 112, 101, 111, 102], [99, 97, 115, 101], [105, 110], [111, 102], [100, 101, 108, 101, 116, 101], [118, 111, 105, 100], [116, 104, 114, 111, 119], [110, 101, 119], [101, 108, 115, 101], [100, 111], [105, 110, 115, 116, 97, 110, 99, 101, 111, 102]] by decide +kernel] at h
  exact h
set_option maxHeartbeats 400000 in
theorem ended1 (v s : ByteArray) (lb : Nat) (w : World) (hl : w.cell? ⟨lb, 0, none⟩ = some (.string s)) :
    Calls Tryd.prog 141 #[.string v, .pointer (some ⟨lb, 0, none⟩)] w fun e w' => e = .returned (.bool (v.toList == s.toList)) ∧ Below w.heap.size w w' := by
  go_enter Tryd.func141, Tryd.ntmps141
  go_wp2_with fail
  (try (go_quiet (fail); go_wp2_with fail))
  go_ret
  exact ⟨rfl, by first | exact Below.refl _ _ | exact below_drewN (Below.refl _ _) _⟩
set_option maxHeartbeats 1000000 in
set_option maxRecDepth 100000 in
theorem ended_any (part : Nat) (word : List UInt8) (w : World) (htab : Lib.TabIs Tryd.prog w "strings.asciiSpace" .u8 Lib.asciiSpaceTab) :
    Calls Tryd.prog 112 #[.int .i64 (part : Int), .string ⟨word.toArray⟩] w fun e w' => e = .returned (.int .i64 (endedB part word : Int)) ∧ Below w.heap.size w w' := by
  by_cases h0 : word = []
  · subst h0
    have : endedB part [] = part := rfl
    rw [this]
    clear this
    have hB := (Below.refl w.heap.size w).alloc (Nat.le_refl _) (.cells #[.string ⟨#[]⟩] 9)
    go_enter Tryd.func112, Tryd.ntmps112
    go_wp2_with fail
    go_ret
    exact ⟨rfl, hB⟩
  · have he : endedB part word = if wordsL.any (· == word) then 0 else part := by
      unfold endedB
      have : (word == []) = false := by simpa using h0
      rw [this]; rfl
    rw [he, ← words_any]
    clear he
    obtain ⟨s, hsw⟩ : ∃ s : ByteArray, (⟨word.toArray⟩ : ByteArray) = s := ⟨_, rfl⟩
    have hne : s.toList.isEmpty = false := by rw [← hsw, ByteArray.toList_eq]; simpa using h0
    rw [hsw]
    clear hsw h0
    obtain ⟨b, hb⟩ : ∃ b, (wordsT.any fun v => v.toList == s.toList) = b := ⟨_, rfl⟩
    rw [hb]
    have HB := hide hb
    clear hb
    have hl0 := (Blk.new w 9 #[.string s]).cell 0
    simp at hl0
    go_enter Tryd.func112, Tryd.ntmps112
    go_wp2_with fail
    refine (fields_words _ (tabs_below gSpace htab ((Below.refl _ _).alloc (Nat.le_refl _) _)) (w.heap.size + 1) (by simp)).mono ?_
    rintro e w1 ⟨rfl, rfl⟩
    have hL := (Blk.new w 9 #[.string s]).alloc (.cells (wordsT.map Value.string).toArray 9)
    have hR : TxtRow ((w.alloc (.cells #[.string s] 9)).alloc (.cells (wordsT.map Value.string).toArray 9)) (w.heap.size + 1) wordsT := by
      have := Blk.new (w.alloc (.cells #[.string s] 9)) 9 (wordsT.map Value.string).toArray
      exact TxtRow.blk (by simpa using this)
    obtain ⟨W, hW⟩ : ∃ W, (w.alloc (.cells #[.string s] 9)).alloc (.cells (wordsT.map Value.string).toArray 9) = W := ⟨_, rfl⟩
    have hs : W.heap.size = w.heap.size + 2 := by rw [← hW]; simp
    have hB : Below w.heap.size w W := by rw [← hW]; exact ((Below.refl _ _).alloc (Nat.le_refl _) _).alloc (by simp) _
    rw [hW] at hL hR ⊢
    clear hW
    have hP : PredT Tryd.prog 141 #[.pointer (some ⟨w.heap.size, 0, none⟩)] (fun v => v.toList == s.toList) W := fun W2 x h2 =>
      ended1 x s w.heap.size W2 (by rw [h2.cell (p := ⟨w.heap.size, 0, none⟩) (by simp; omega), hL.cell]; rfl)
    have cC := hide (containsFuncT 141 #[.pointer (some ⟨w.heap.size, 0, none⟩)] (fun _ _ => rfl) _ wordsT (w.heap.size + 1) 12 12 W hP hR (by omega) rfl (by omega))
    rw [HB.out] at cC
    clear hP hR hL hl0
    cases b
    · go_wp2_with (go_at_call 140; refine (cC.out).mono ?_; rintro e w2 ⟨rfl, hb2⟩)
      go_ret
      exact ⟨rfl, hB.trans (hb2.mono (by omega))⟩
    · go_wp2_with (go_at_call 140; refine (cC.out).mono ?_; rintro e w2 ⟨rfl, hb2⟩)
      go_ret
      exact ⟨rfl, hB.trans (hb2.mono (by omega))⟩
end Go.Proofs.YtdnmgpidfjkiaaaDoor
