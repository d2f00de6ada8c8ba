/-
  PLAIN LAWS: pairs come back from their query.
-/
import Derived.Test.YtbcbbeenkndgcaaDoorPairs
import Derived.Test.YtbcbbeenkndgcaaDoorQuerySpec
import Derived.Test.YtbcbbeenkndgcaaDoorNormSpec
import Derived.Lib.Join
namespace Go.Proofs.YtbcbbeenkndgcaaDoor
set_option linter.unusedVariables false

theorem pct_eq (t : List UInt8) : ∀ c ∈ pctR false t, c ≠ 61 := by
  induction t with
  | nil => intro c hc; simp [pctR] at hc
  | cons d t ih =>
    intro c hc
    simp only [pctR, List.mem_append] at hc
    rcases hc with hc | hc
    · have key := allBytes (fun d => (if unresB d then [d] else pct2 d).all fun c => !(c == 61)) (by decide +kernel) d
      have hk : keepB false d t = unresB d := by unfold keepB; simp
      rw [hk] at hc
      have := List.all_eq_true.1 key c hc
      simpa using this
    · exact ih c hc
/-- A text encoded. -/
def encB (l : List UInt8) : List UInt8 := pctR false (repairR l)
theorem encB_len (l : List UInt8) : (encB l).length ≤ 12 * l.length := by
  have := repairR_len l; have := pctR_len false (repairR l); unfold encB; omega
/-- A pair in a query. -/
def pieceB (p : Pair) : List UInt8 := encB p.1 ++ 61 :: encB p.2
theorem piece_no (p : Pair) : 38 ∉ pieceB p := by
  unfold pieceB
  simp only [List.mem_append, List.mem_cons]
  rintro (h | h | h)
  · exact (pct_calm _ 38 h).2.2.2.2 rfl
  · cases h
  · exact (pct_calm _ 38 h).2.2.2.2 rfl
theorem plain_enc (l : List UInt8) : plainP (encB l) = repairR l := by
  unfold plainP encB
  rw [unp_pct]; rfl
theorem pairOf_piece (p : Pair) : pairOf (pieceB p) = (repairR p.1, repairR p.2) := by
  unfold pairOf pieceB
  rw [cutB_at 61 (encB p.1) _ (fun h => pct_eq _ 61 h rfl)]
  simp only [plain_enc]
theorem pairsF_join (r : List (List UInt8)) : ∀ x, 38 ∉ x → (∀ y ∈ r, 38 ∉ y) → pairsF (x ++ Lib.joinTail [38] r) = (x :: r).map pairOf := by
  induction r with
  | nil =>
    intro x hx _
    have h : cutB 38 (x ++ Lib.joinTail [38] []) = (x, [], false) := by
      show cutB 38 (x ++ []) = _
      rw [List.append_nil, cutB_no 38 x hx]
    rw [pairsF_last _ (by rw [h]), h]; rfl
  | cons y r ih =>
    intro x hx hr
    have h : cutB 38 (x ++ Lib.joinTail [38] (y :: r)) = (x, y ++ Lib.joinTail [38] r, true) := by
      show cutB 38 (x ++ 38 :: (y ++ Lib.joinTail [38] r)) = _
      rw [cutB_at 38 _ _ hx]
    rw [pairsF_more _ (by rw [h]), h, ih y (hr y (by simp)) fun z hz => hr z (by simp [hz])]
    rfl
def queryB (ps : List Pair) : List UInt8 := Lib.join (ps.map pieceB) [38]
theorem pairs_back (ps : List Pair) : pairsP (queryB ps) = ps.map fun p => (repairR p.1, repairR p.2) := by
  unfold queryB
  match ps with
  | [] => rfl
  | p :: r =>
    rw [List.map_cons, Lib.join_cons]
    unfold pairsP
    rw [if_neg (by simp [pieceB]), pairsF_join _ _ (piece_no p) (by intro y hy; obtain ⟨q, _, rfl⟩ := List.mem_map.1 hy; exact piece_no q), ← List.map_cons, List.map_map]
    congr 1
    funext p
    exact pairOf_piece p
/-- How much pairs hold. -/
def sumP (ps : List Pair) : Nat := (ps.map fun p => p.1.length + p.2.length + 1).sum
theorem sumP_len (ps : List Pair) : ps.length ≤ sumP ps := by
  induction ps with
  | nil => simp [sumP]
  | cons p r ih => simp only [sumP, List.map_cons, List.sum_cons, List.length_cons] at ih ⊢; omega
theorem sumP_mem (ps : List Pair) : ∀ p ∈ ps, p.1.length + p.2.length + 1 ≤ sumP ps := by
  induction ps with
  | nil => simp
  | cons p r ih =>
    intro q hq
    simp only [sumP, List.map_cons, List.sum_cons] at ih ⊢
    rcases List.mem_cons.1 hq with rfl | hq
    · omega
    · have := ih q hq; omega
theorem lens_sumP (ps : List Pair) : Lib.lens (ps.map pieceB) ≤ 12 * sumP ps := by
  induction ps with
  | nil => simp [Lib.lens, sumP]
  | cons p r ih =>
    have h3 := encB_len p.1
    have h4 := encB_len p.2
    have h5 : (pieceB p).length = (encB p.1).length + (encB p.2).length + 1 := by
      unfold pieceB
      simp only [List.length_append, List.length_cons]
      omega
    simp only [Lib.lens, sumP, List.map_cons, List.sum_cons] at ih ⊢
    omega
theorem queryB_len (ps : List Pair) : (queryB ps).length ≤ 13 * sumP ps := by
  have h1 := lens_sumP ps
  have h2 := sumP_len ps
  unfold queryB
  match ps with
  | [] => simp [Lib.join_nil]
  | p :: r =>
    rw [List.map_cons, Lib.join_cons, List.length_append, Lib.joinTail_length]
    simp only [Lib.lens, List.map_cons, List.sum_cons, List.length_cons, List.length_map, List.length_nil] at h1 h2 ⊢
    omega
end Go.Proofs.YtbcbbeenkndgcaaDoor
