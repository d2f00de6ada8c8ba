/-
  urlparts: plain, Pairs.
-/
import Derived.Test.YtbcbbeenkndgcaaDoorPctDec
import Derived.Test.YtbcbbeenkndgcaaDoorCut
import Derived.OwnWalk
import Derived.Deep.OwnRows
namespace Go.Proofs.YtbcbbeenkndgcaaDoor
open Go.RowKit
set_option linter.unusedVariables false
set_option linter.unusedSimpArgs false

theorem unp_len (l : List UInt8) : (unp l).1.length ≤ l.length := by
  induction hn : l.length using Nat.strongRecOn generalizing l with
  | _ n ih =>
    match l with
    | [] => simp [unp_nil]
    | c :: r =>
      simp only [List.length_cons] at hn
      rcases Bool.eq_false_or_eq_true (c != 37) with h | h
      · rw [unp_keep c r h]
        have := ih r.length (by omega) r rfl
        simp; omega
      · rcases Bool.eq_false_or_eq_true (codedB (c :: r)) with h2 | h2
        · rw [unp_code c r h h2]
          have := ih (r.drop 2).length (by simp; omega) (r.drop 2) rfl
          simp at this ⊢; omega
        · rw [unp_bad c r h h2]; simp
theorem plainP_len (l : List UInt8) : (plainP l).length ≤ l.length := by
  unfold plainP; split
  · exact unp_len l
  · exact Nat.le_refl _
set_option maxHeartbeats 400000 in
set_option maxRecDepth 100000 in
theorem plain_any (l : List UInt8) (w : World) (hz : l.length ≤ 1000000000) :
    Calls Tryd.prog 71 #[.string ⟨l.toArray⟩] w fun e w' => e = .returned (.string ⟨(plainP l).toArray⟩) ∧ Below w.heap.size w w' := by
  have cD := hide (fun w => pctDecode_any l w hz)
  have hp : plainP l = if (unp l).2.2 then (unp l).1 else l := rfl
  generalize unp l = u at cD hp
  obtain ⟨o, n, b⟩ := u
  simp only at cD hp
  cases b
  · have HP := hide (show plainP l = l by rw [hp]; rfl)
    simp only [Bool.false_eq_true, if_false] at cD
    clear hp
    go_enter Tryd.func71, Tryd.ntmps71
    go_wp2_with fail
    refine (cD.out _).mono ?_
    rintro e w1 ⟨rfl, hb1⟩
    go_wp2_with fail
    go_ret
    exact ⟨by rw [HP.out]; rfl, hb1⟩
  · have HP := hide (show plainP l = o by rw [hp]; rfl)
    simp only [if_true] at cD
    clear hp
    go_enter Tryd.func71, Tryd.ntmps71
    go_wp2_with fail
    refine (cD.out _).mono ?_
    rintro e w1 ⟨rfl, hb1⟩
    go_wp2_with fail
    go_ret
    exact ⟨by rw [HP.out]; rfl, hb1⟩
theorem cutB_more (c : UInt8) (l : List UInt8) (h : (cutB c l).2.2 = true) : (cutB c l).2.1.length < l.length := by
  have := congrArg List.length (cutB_back c l)
  rw [if_pos h] at this
  simp at this; omega
abbrev Pair := List UInt8 × List UInt8
def pairOf (one : List UInt8) : Pair := (plainP (cutB 61 one).1, plainP (cutB 61 one).2.1)
def pairsF (q : List UInt8) : List Pair := pairOf (cutB 38 q).1 :: (if h : (cutB 38 q).2.2 = true then pairsF (cutB 38 q).2.1 else [])
  termination_by q.length
  decreasing_by exact cutB_more 38 q h
theorem pairsF_more (q : List UInt8) (h : (cutB 38 q).2.2 = true) : pairsF q = pairOf (cutB 38 q).1 :: pairsF (cutB 38 q).2.1 := by rw [pairsF, dif_pos h]
theorem pairsF_last (q : List UInt8) (h : (cutB 38 q).2.2 = false) : pairsF q = [pairOf (cutB 38 q).1] := by rw [pairsF, dif_neg (by rw [h]; exact Bool.false_ne_true)]
def pairsP (q : List UInt8) : List Pair := if q = [] then [] else pairsF q
def attrCells (xs : List Pair) : List Value := xs.flatMap fun p => [.string ⟨p.1.toArray⟩, .string ⟨p.2.toArray⟩]
theorem attrCells_snoc (xs : List Pair) (p : Pair) : attrCells (xs ++ [p]) = attrCells xs ++ [.string ⟨p.1.toArray⟩, .string ⟨p.2.toArray⟩] := by simp [attrCells]
theorem own_keepP {w w' : World} {base n size : Nat} {e : TypeId} {v : Value} {xs : List Value} (h : w.ownsRow base e size v n xs) (hb : Below w.heap.size w w') : w'.ownsRow base e size v n xs :=
  h.kept (row := none) ⟨hb.os, hb.tape, hb.output, hb.size, fun k hk _ => hb.block k hk⟩ (by cases h : v.ownBlock <;> simp)
theorem grow_stepP {w wr w1 : World} {B k size : Nat} {e : TypeId} {v : Value} {xs : List Value} {o : Obj} (hown : wr.ownsRow B e size v k xs) (hb : Below B w wr) (hB : B ≤ wr.heap.size) (hg : (wr.alloc o).grownBy w1 v.ownBlock) : Below B w w1 :=
  (hb.alloc hB o).grown hg (by simp; omega) (fun j hj => (hown.lt j hj).1)
theorem info_attr : (Tryd.prog.info? 38).map (fun i => (i.zero, i.size, i.bytes)) = some (some (.agg #[.string ⟨#[]⟩, .string ⟨#[]⟩]), 2, 32) := by kernel_rfl
def moreB (q : List UInt8) (m : Bool) : List Pair := if m then pairsF q else []
def boolOf : Value → Nat | .bool true => 1 | _ => 0
def strLen : Value → Nat | .string s => s.size | _ => 0
set_option maxHeartbeats 4000000 in
set_option maxRecDepth 100000 in
theorem pairs_any (q : List UInt8) (w : World) (hz : q.length ≤ 100000000) :
    Calls Tryd.prog 34 #[.string ⟨q.toArray⟩] w fun e w' => ∃ v, e = .returned v ∧ w'.ownsRow w.heap.size 38 2 v (pairsP q).length (attrCells (pairsP q)) ∧ Below w.heap.size w w' := by
  obtain ⟨i0, hi, hz0, hz1, hz2⟩ := info_parts info_attr
  obtain ⟨P, hP⟩ : ∃ P, pairsP q = P := ⟨_, rfl⟩
  have hst : Hid ([] ++ moreB q (!q.isEmpty) = P) := by
    show _ = _
    rw [← hP]; unfold pairsP moreB
    cases q <;> simp
  rw [hP]
  clear hP
  obtain ⟨m0, hm0⟩ : ∃ b, (!q.isEmpty) = b := ⟨_, rfl⟩
  rw [hm0] at hst
  go_enter Tryd.func34, Tryd.ntmps34
  go_wp2_with fail
  go_loopw [0, 3, 4] (fun qv b mv wr => ∃ (r : List UInt8) (m : Bool) (xs : List Pair), qv = .string ⟨r.toArray⟩ ∧ mv = .bool m ∧ xs.length + r.length ≤ q.length + 1 ∧ (m = true → xs.length + r.length ≤ q.length) ∧ wr.ownsRow w.heap.size 38 2 b xs.length (attrCells xs) ∧ Below w.heap.size w wr ∧ Hid (xs ++ moreB r m = P)) (fun qv _ mv _ => strLen qv + boolOf mv)
  case atStart => exact ⟨q, m0, [], rfl, by rw [← hm0], by simp, by simp, World.ownsRow_nil _ _ _ _, Below.refl _ _, hst⟩
  case round =>
    obtain ⟨r, m, xs, rfl, rfl, hxl, hxm, hown, hb, hrel⟩ := hrel
    have hbz := hb.size
    cases m
    · have hR : xs = P := by have := hrel.out; simpa [moreB] using this
      subst hR
      clear hrel hst
      go_wp2_with fail
      go_ret
      exact ⟨_, rfl, hown, hb⟩
    · have hxm := hxm rfl
      have cC := hide (fun w => cut_any r 38 w (by omega))
      have hlen := cutB_len 38 r
      have hmr := cutB_more 38 r
      have hP2 : (cutB 38 r).2.2 = true → pairsF r = pairOf (cutB 38 r).1 :: pairsF (cutB 38 r).2.1 := pairsF_more r
      have hP3 : (cutB 38 r).2.2 = false → pairsF r = [pairOf (cutB 38 r).1] := pairsF_last r
      have hnn := cutB_none 38 r
      generalize cutB 38 r = c1 at cC hlen hmr hP2 hP3 hnn
      obtain ⟨one, rest, more⟩ := c1
      simp only at cC hlen hmr hP2 hP3 hnn
      have cC2 := hide (fun w => cut_any one 61 w (by omega))
      have hlen2 := cutB_len 61 one
      have hpo : pairOf one = (plainP (cutB 61 one).1, plainP (cutB 61 one).2.1) := rfl
      generalize cutB 61 one = c2 at cC2 hlen2 hpo
      obtain ⟨na, va, fo⟩ := c2
      simp only at cC2 hlen2 hpo
      have cN := hide (fun w => plain_any na w (by omega))
      have cV := hide (fun w => plain_any va w (by omega))
      generalize plainP na = pn at cN hpo
      generalize plainP va = pv at cV hpo
      have hnext : Hid ((xs ++ [(pn, pv)]) ++ moreB rest more = P) := by
        show _ = _
        have := hrel.out
        unfold moreB at this ⊢
        cases more
        · rw [← this, if_pos rfl, hP3 rfl, hpo]; simp
        · rw [← this, if_pos rfl, hP2 rfl, hpo]; simp
      have hsz : Hid ((⟨r.toArray⟩ : ByteArray).size = r.length ∧ (⟨rest.toArray⟩ : ByteArray).size = rest.length) := ⟨mk_size r, mk_size rest⟩
      have hfx : (xs ++ [(pn, pv)]).length + rest.length ≤ q.length + 1 := by simp; omega
      have hfm : more = true → (xs ++ [(pn, pv)]).length + rest.length ≤ q.length := fun h => by have := hmr h; simp; omega
      have hms : rest.length + (if more then 1 else 0) < r.length + 1 := by
        cases more
        · have := (hnn rfl).2; subst this; simp
        · have := hmr rfl; simp; omega
      have HF := hide (And.intro hfx (And.intro hfm hms))
      clear hP2 hP3 hpo hmr hrel hst hnn hfx hfm hms
      go_wp2_with fail
      refine (cC.out _).mono ?_
      rintro e w1 ⟨rfl, hb1⟩
      go_wp2_with fail
      refine (cC2.out _).mono ?_
      rintro e w2 ⟨rfl, hb2⟩
      go_wp2_with fail
      refine (cN.out _).mono ?_
      rintro e w3 ⟨rfl, hb3⟩
      go_wp2_with fail
      refine (cV.out _).mono ?_
      rintro e w4 ⟨rfl, hb4⟩
      have hbs := below_step (below_step (below_step hb1 hb2) hb3) hb4
      have hown4 := own_keepP hown hbs
      have hbb := hb.trans (hbs.mono hbz)
      have hbbz := hbb.size
      clear hown hbs hb1 hb2 hb3 hb4 hb
      go_wp2_with (at_builtin; refine wpList_append_own _ rfl _ _ 34 rfl w.heap.size 38 i0 (.agg #[.string ⟨#[]⟩, .string ⟨#[]⟩]) 2 32 Tryd.underlying34 hi hz0 hz1 hz2 rfl (by decide) _ _ _ rfl (hown4.alloc _) ⟨w4.heap.size, 0, none⟩ 1 1 [.string ⟨pn.toArray⟩, .string ⟨pv.toArray⟩] rfl rfl (by intro j u hj; match j, hj with | 0, hj => (simp at hj; subst hj; simp [Addr.add]) | 1, hj => (simp at hj; subst hj; simp [Addr.add])) (by intro u hu; simp at hu; rcases hu with rfl | rfl <;> rfl) (by unfold maxLen; omega) (by omega) (by simp; omega) ?_)
      intro v' w5 hown' hgrow _
      have hb' := grow_stepP hown4 hbb hbbz hgrow
      have HO := hide (show w5.ownsRow w.heap.size 38 2 v' (xs ++ [(pn, pv)]).length (attrCells (xs ++ [(pn, pv)])) by rw [attrCells_snoc, List.length_append]; exact hown')
      clear hown' hgrow hown4 hbb hbbz
      go_wp2_with fail
      go_roundw
      case rel => exact ⟨rest, more, xs ++ [(pn, pv)], rfl, rfl, HF.out.1, HF.out.2.1, HO, hb', hnext⟩
      case measure =>
        have h1 := HF.out.2.2
        have h2 := hsz.out
        show strLen (.string ⟨rest.toArray⟩) + boolOf (.bool more) < strLen (.string ⟨r.toArray⟩) + boolOf (.bool true)
        simp only [strLen, h2.1, h2.2]
        cases more <;> simp [boolOf] at h1 ⊢ <;> omega
end Go.Proofs.YtbcbbeenkndgcaaDoor
