/-
  MarksUnlike: states that come back have unlike texts. THE WALK's end.
-/
import Derived.Test.YtlandmahjdaphaaDoorUnlike
namespace Go.Proofs.YtlandmahjdaphaaDoor
open Go.ChangeShapes Go.WideShapes Go.ChangeAt Go.RowKit
set_option linter.unusedVariables false
set_option linter.unusedSimpArgs false

theorem rng_of (s : StV) (h : s.wf) : s.rng := by
  obtain ⟨h0, _, _, h3, _, _, h6, _⟩ := h
  have k0 : IntKind.i64.min = -9223372036854775808 := rfl
  have k1 : IntKind.i64.max = 9223372036854775807 := rfl
  have k2 : IntKind.u8.min = 0 := rfl
  have k3 : IntKind.u8.max = 255 := rfl
  simp only [Lit.wf, Bool.and_eq_true, decide_eq_true_eq] at h0 h3 h6
  refine ⟨⟨by omega, by omega⟩, ⟨by omega, by omega⟩, ⟨by omega, by omega⟩⟩
theorem unlike_law (a b : StV) (h1 : (parseL (Lib.split a.text [124])).1.same a = true) (h2 : (parseL (Lib.split b.text [124])).1.same b = true) :
    ((ByteArray.mk a.text.toArray).toList == (ByteArray.mk b.text.toArray).toList) = a.same b := by
  have e1 := (same_iff _ _).1 h1
  have e2 := (same_iff _ _).1 h2
  rw [ByteArray.toList_eq, ByteArray.toList_eq]
  rw [Bool.eq_iff_iff, beq_iff_eq, same_iff]
  constructor
  · intro h
    have h : a.text = b.text := h
    rw [← e1, ← e2, h]
  · rintro rfl; rfl
set_option maxHeartbeats 1000000 in
theorem marksUnlike_walk (a0 : StV) (w0 : a0.wf) (s0 : a0.small 1048576) (a1 : StV) (w1 : a1.wf) (s1 : a1.small 1048576) (w : World) (hT : Lib.Utf8Tabs 3 4 w) :
    Calls Tryd.prog 7 #[.agg #[.int .i64 a0.k, .string a0.el, .string a0.at_, .int .u8 a0.d, .string a0.pe, .string a0.re, .int .i64 a0.pa, .string a0.wo], .agg #[.int .i64 a1.k, .string a1.el, .string a1.at_, .int .u8 a1.d, .string a1.pe, .string a1.re, .int .i64 a1.pa, .string a1.wo]] w fun e w' => e = .returned (.bool true) ∧ Below w.heap.size w w' := by
  have r0 := rng_of a0 w0
  have r1 := rng_of a1 w1
  have l0 := text_len a0 r0 _ s0
  have l1 := text_len a1 r1 _ s1
  have hl := unlike_law a0 a1
  exact unlike_gen a0.k a0.d a0.pa a0.el a0.at_ a0.pe a0.re a0.wo a1.k a1.d a1.pa a1.el a1.at_ a1.pe a1.re a1.wo
    (parseL (Lib.split a0.text [124])).1.k (parseL (Lib.split a0.text [124])).1.d (parseL (Lib.split a0.text [124])).1.pa (parseL (Lib.split a0.text [124])).1.el (parseL (Lib.split a0.text [124])).1.at_ (parseL (Lib.split a0.text [124])).1.pe (parseL (Lib.split a0.text [124])).1.re (parseL (Lib.split a0.text [124])).1.wo
    (parseL (Lib.split a1.text [124])).1.k (parseL (Lib.split a1.text [124])).1.d (parseL (Lib.split a1.text [124])).1.pa (parseL (Lib.split a1.text [124])).1.el (parseL (Lib.split a1.text [124])).1.at_ (parseL (Lib.split a1.text [124])).1.pe (parseL (Lib.split a1.text [124])).1.re (parseL (Lib.split a1.text [124])).1.wo
    (parseL (Lib.split a0.text [124])).2 (parseL (Lib.split a1.text [124])).2 ⟨a0.text.toArray⟩ ⟨a1.text.toArray⟩ w hT
    (fun W hW => printS_any a0 r0 1048576 (by omega) s0 W (Utf8Tabs_below hT hW)) (fun W hW => printS_any a1 r1 1048576 (by omega) s1 W (Utf8Tabs_below hT hW))
    (fun W hW => parseS_any a0.text W (by omega) (Utf8Tabs_below hT hW)) (fun W hW => parseS_any a1.text W (by omega) (Utf8Tabs_below hT hW))
    (fun _ _ h1 h2 => hl h1 h2)
end Go.Proofs.YtlandmahjdaphaaDoor
