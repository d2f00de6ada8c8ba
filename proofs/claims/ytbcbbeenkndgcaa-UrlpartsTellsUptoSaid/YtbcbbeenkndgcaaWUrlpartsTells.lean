/-
  UrlpartsTells: any text's parts, and a query's pairs, are as the page says. THE WALK.
-/
import Derived.Test.YtbcbbeenkndgcaaLSplit
import Derived.Test.YtbcbbeenkndgcaaQueryHq
namespace Go.Proofs.Ytbcbbeenkndgcaa
open Go.RowKit
set_option linter.unusedVariables false
set_option linter.unusedSimpArgs false

theorem attrCells_get (xs : List Pair) (i : Nat) (h : i < xs.length) : (attrCells xs)[i * 2]? = some (.string ⟨xs[i].1.toArray⟩) ∧ (attrCells xs)[i * 2 + 1]? = some (.string ⟨xs[i].2.toArray⟩) := by
  induction xs generalizing i with
  | nil => simp at h
  | cons x xs ih =>
    have e : attrCells (x :: xs) = .string ⟨x.1.toArray⟩ :: .string ⟨x.2.toArray⟩ :: attrCells xs := rfl
    rw [e]
    match i with
    | 0 => exact ⟨rfl, rfl⟩
    | i + 1 =>
      have := ih i (by simpa using h)
      have e2 : (i + 1) * 2 = i * 2 + 1 + 1 := by omega
      rw [e2]
      simpa using this
theorem own_cell2 {w : World} {base n : Nat} {e : TypeId} {A : Option Addr} {m c : Nat} {xs : List Value} (h : w.ownsRow base e 2 (.slice A m c) n xs) (i : Nat) (hi : i < n) :
    ∃ g, A = some ⟨g, 0, none⟩ ∧ w.cell? ⟨g, i * 2, none⟩ = xs[i * 2]? ∧ w.cell? ⟨g, i * 2 + 1, none⟩ = xs[i * 2 + 1]? := by
  rcases h.2 with ⟨_, h0⟩ | ⟨g, cap, cur, hv, _, hg, hnc, _, hsz, ht⟩
  · omega
  · have hA := (Value.slice.inj hv).1
    refine ⟨g, hA, ?_, ?_⟩
    · have : w.cell? ⟨g, i * 2, none⟩ = cur[i * 2]? := by simp [World.cell?, hg]
      rw [this, ← ht, List.getElem?_take_of_lt (by omega), Array.getElem?_toList]
    · have : w.cell? ⟨g, i * 2 + 1, none⟩ = cur[i * 2 + 1]? := by simp [World.cell?, hg]
      rw [this, ← ht, List.getElem?_take_of_lt (by omega), Array.getElem?_toList]
/-- Two attributes of the same parts, as the program compares them. -/
@[go_sem high] theorem eqAttr_self (s1 s2 : ByteArray) (w : World) :
    (Op.equalIn 10000 36 (.agg #[.string s1, .string s2]) (.agg #[.string s1, .string s2])).run Try.prog w = .ok true w := by
  have hS : Try.prog.underlying 36 = some (.struct (Try.prog.fieldsOf 36)) := by kernel_rfl
  have hp : Try.prog.stoodInHeld 36 = false := by kernel_rfl
  rw [show (10000 : Nat) = 9999 + 1 from rfl, run_equalIn_agg w 9999 36 _ _ hS hp]
  simp only [Program.fieldsOf, Try.underlying36]
  go_simp
theorem own_keepP2 {w w' : World} {base n size : Nat} {e : TypeId} {v : Value} {xs : List Value} (h : w.ownsRow base e size v n xs) (hb : Below w.heap.size w w') : w'.ownsRow base e size v n xs := own_keepP h hb
theorem own_keepP2' {w w' : World} {base n size : Nat} {e : TypeId} {v : Value} {xs : List Value} (h : w.ownsRow base e size v n xs) (hb : Below w.heap.size w w') : w'.ownsRow base e size v n xs := own_keepP h hb
set_option maxHeartbeats 8000000 in
set_option maxRecDepth 100000 in
theorem urlpartsTells_walk (a0 : ByteArray) (s0 : a0.size ≤ 1048576) (a1 : ByteArray) (s1 : a1.size ≤ 1048576) (w : World) :
    Calls Try.prog 5 #[.string a0, .string a1] w fun e w' => e = .returned (.bool true) ∧ Below w.heap.size w w' := by
  obtain ⟨s, rfl⟩ : ∃ l : List UInt8, a0 = ⟨l.toArray⟩ := ⟨a0.data.toList, rfl⟩
  obtain ⟨q, rfl⟩ : ∃ l : List UInt8, a1 = ⟨l.toArray⟩ := ⟨a1.data.toList, rfl⟩
  rw [mk_size] at s0 s1
  obtain ⟨i0, hi, hz0, hz1, hz2⟩ := info_parts info_attr
  have cS1 := fun w => split_any s w (by omega)
  have cS2 := fun w => lsplit_any s w (by omega)
  generalize splitB s = u at cS1 cS2
  obtain ⟨sc, ho, pa, qu, fr, hs, hh, hq, hf⟩ := u
  simp only [UrlV.cells] at cS1 cS2
  have cS1 := hide cS1; have cS2 := hide cS2
  have cQ := fun w => pairs_any q w (by omega)
  obtain ⟨P, hP⟩ : ∃ P, pairsP q = P := ⟨_, rfl⟩
  have hst : Hid ([] ++ moreB q (!q.isEmpty) = P) := by
    show _ = _
    rw [← hP]; unfold pairsP moreB
    cases q <;> simp
  rw [hP] at cQ
  clear hP
  have cQ := hide cQ
  obtain ⟨m0, hm0⟩ : ∃ b, (!q.isEmpty) = b := ⟨_, rfl⟩
  rw [hm0] at hst
  go_enter Try.func5, Try.ntmps5
  go_wp2_with fail
  refine (cQ.out _).mono ?_
  rintro e w1 ⟨lv, rfl, hol, hb1⟩
  obtain ⟨A1, c1, rfl⟩ := own_slice hol
  have hz1' := hb1.size
  go_wp2_with fail
  go_loopw [6, 7, 8] (fun b qv mv wr => ∃ (r : List UInt8) (m : Bool) (xs : List Pair), qv = .string ⟨r.toArray⟩ ∧ mv = .bool m ∧ xs.length + r.length ≤ q.length + 1 ∧ (m = true → xs.length + r.length ≤ q.length) ∧ wr.ownsRow w1.heap.size 36 2 b xs.length (attrCells xs) ∧ Below w1.heap.size w1 wr ∧ Hid (xs ++ moreB r m = P)) (fun _ qv mv _ => strLen qv + boolOf mv)
  case atStart => exact ⟨q, m0, [], rfl, by rw [← hm0], by simp, by simp, World.ownsRow_nil _ _ _ _, Below.refl _ _, hst⟩
  case round =>
    obtain ⟨r, m, xs, rfl, rfl, hxl, hxm, hown, hb, hrel⟩ := hrel
    have hbz := hb.size
    cases m
    · have hR : xs = P := by have := hrel.out; simpa [moreB] using this
      subst hR
      clear hrel hst hxm
      have hol2 := own_keepP2 hol hb
      obtain ⟨A2, c2, rfl⟩ := own_slice hown
      have hnl : xs.length ≤ 1048577 := by omega
      have hBw := hb1.trans (hb.mono hz1')
      clear hol
      go_wp2_with fail
      go_loopw [21] (fun i w2 => ∃ k : Nat, i = .int .i64 (k : Int) ∧ k ≤ xs.length ∧ Below wr.heap.size wr w2) (fun i _ => xs.length - (intOf i).toNat)
      case atStart => exact ⟨0, rfl, Nat.zero_le _, Below.refl _ _⟩
      case round =>
        obtain ⟨k, rfl, hk, hb2⟩ := hrel
        by_cases hlt : k < xs.length
        · obtain ⟨g1, rfl, c11, c12⟩ := own_cell2 (own_keepP2' hol2 hb2) k hlt
          obtain ⟨g2, rfl, c21, c22⟩ := own_cell2 (own_keepP2' hown hb2) k hlt
          rw [(attrCells_get xs k hlt).1] at c11 c21
          rw [(attrCells_get xs k hlt).2] at c12 c22
          generalize xs[k].1 = p1 at c11 c21
          generalize xs[k].2 = p2 at c12 c22
          have hlti : (k : Int) < (xs.length : Int) := by omega
          have hk0 : (0 : Int) ≤ (k : Int) := by omega
          go_wp2_with fail
          go_quiet (fail)
          go_wp2_with fail
          go_roundw
          case rel => exact ⟨k + 1, by go_num, by omega, below_drewN hb2 nq⟩
          case measure => simp [intOf]; omega
        · have hge : decide ((k : Int) < (xs.length : Int)) = false := by simp; omega
          have hBB := hBw.trans (hb2.mono (by have := hBw.size; omega))
          go_wp2_with fail
          refine (cS1.out _).mono ?_
          rintro e w3 ⟨rfl, hb3⟩
          go_wp2_with fail
          refine (cS2.out _).mono ?_
          rintro e w4 ⟨rfl, hb4⟩
          go_wp2_with fail
          refine (alive40 _).mono ?_
          rintro e w5 ⟨rfl, hb5⟩
          have hB5 := hBB.trans ((below_step (below_step hb3 hb4) hb5).mono hBB.size)
          go_wp2_with fail
          go_ret
          exact ⟨rfl, hB5⟩
    · have hxm := hxm rfl
      have cC := hide (lawCutN_any r 38 (by omega))
      have hlen := cutB_len 38 r
      have hmr := cutB_more 38 r
      have hP2 : (cutB 38 r).2.2 = true → pairsF r = pairOf (cutB 38 r).1 :: pairsF (cutB 38 r).2.1 := pairsF_more r
      have hP3 : (cutB 38 r).2.2 = false → pairsF r = [pairOf (cutB 38 r).1] := pairsF_last r
      have hnn := cutB_none 38 r
      generalize cutB 38 r = c1 at cC hlen hmr hP2 hP3 hnn
      obtain ⟨one, rest, more⟩ := c1
      simp only at cC hlen hmr hP2 hP3 hnn
      have cC2 := hide (lawCutN_any one 61 (by omega))
      have hlen2 := cutB_len 61 one
      have hpo : pairOf one = (plainP (cutB 61 one).1, plainP (cutB 61 one).2.1) := rfl
      generalize cutB 61 one = c2 at cC2 hlen2 hpo
      obtain ⟨na, va, fo⟩ := c2
      simp only at cC2 hlen2 hpo
      have cN := fun w => refUnpercent_any na w (by omega)
      have cV := fun w => refUnpercent_any va w (by omega)
      have hqn : (if (unp na).2.2 then (unp na).1 else na) = plainP na := rfl
      have hqv : (if (unp va).2.2 then (unp va).1 else va) = plainP va := rfl
      generalize plainP na = pn at hqn hpo
      generalize plainP va = pv at hqv hpo
      generalize unp na = un at cN hqn
      generalize unp va = uv at cV hqv
      obtain ⟨o1, n1, b1⟩ := un
      obtain ⟨o2, n2, b2⟩ := uv
      simp only at cN cV hqn hqv
      have hnext : Hid ((xs ++ [(pn, pv)]) ++ moreB rest more = P) := by
        show _ = _
        have := hrel.out
        unfold moreB at this ⊢
        cases more
        · rw [← this, if_pos rfl, hP3 rfl, hpo]; simp
        · rw [← this, if_pos rfl, hP2 rfl, hpo]; simp
      have hsz : Hid ((⟨r.toArray⟩ : ByteArray).size = r.length ∧ (⟨rest.toArray⟩ : ByteArray).size = rest.length) := ⟨mk_size r, mk_size rest⟩
      have hfx : (xs ++ [(pn, pv)]).length + rest.length ≤ q.length + 1 := by simp; omega
      have hfm : more = true → (xs ++ [(pn, pv)]).length + rest.length ≤ q.length := fun h => by have := hmr h; simp; omega
      have hms : rest.length + (if more then 1 else 0) < r.length + 1 := by
        cases more
        · have := (hnn rfl).2; subst this; simp
        · have := hmr rfl; simp; omega
      have HF := hide (And.intro hfx (And.intro hfm hms))
      clear hP2 hP3 hpo hmr hrel hst hnn hfx hfm hms
      have CN := hide cN; have CV := hide cV
      clear cN cV
      cases b1 <;> cases b2
      all_goals
        have cN := CN.out; have cV := CV.out
        simp only [if_true, Bool.false_eq_true, if_false] at cN cV hqn hqv
        first | subst o1 | subst na
        first | subst o2 | subst va
        have cN := hide cN; have cV := hide cV
        clear CN CV
        go_wp2_with fail
        refine (cC.out _).mono ?_
        rintro e x1 ⟨rfl, hc1⟩
        go_wp2_with fail
        refine (cC2.out _).mono ?_
        rintro e x2 ⟨rfl, hc2⟩
        go_wp2_with fail
        refine (cN.out _).mono ?_
        rintro e x3 ⟨rfl, hc3⟩
        go_wp2_with fail
        refine (cV.out _).mono ?_
        rintro e x4 ⟨rfl, hc4⟩
        have hbs := below_step (below_step (below_step hc1 hc2) hc3) hc4
        have hown4 := own_keepP hown hbs
        have hbb := hb.trans (hbs.mono hbz)
        have hbbz := hbb.size
        clear hown hbs hc1 hc2 hc3 hc4 hb
        go_wp2_with (at_builtin; refine wpList_append_own _ rfl _ _ 29 rfl w1.heap.size 36 i0 (.agg #[.string ⟨#[]⟩, .string ⟨#[]⟩]) 2 32 Try.underlying29 hi hz0 hz1 hz2 rfl (by decide) _ _ _ rfl (hown4.alloc _) ⟨x4.heap.size, 0, none⟩ 1 1 [.string ⟨pn.toArray⟩, .string ⟨pv.toArray⟩] rfl rfl (by intro j u hj; match j, hj with | 0, hj => (simp at hj; subst hj; simp [Addr.add]) | 1, hj => (simp at hj; subst hj; simp [Addr.add])) (by intro u hu; simp at hu; rcases hu with rfl | rfl <;> rfl) (by unfold maxLen; omega) (by omega) (by simp; omega) ?_)
        intro v' w5 hown' hgrow _
        have hb' := grow_stepP hown4 hbb hbbz hgrow
        have HO := hide (show w5.ownsRow w1.heap.size 36 2 v' (xs ++ [(pn, pv)]).length (attrCells (xs ++ [(pn, pv)])) by rw [attrCells_snoc, List.length_append]; exact hown')
        clear hown' hgrow hown4 hbb hbbz
        go_wp2_with fail
        go_roundw
        case rel => exact ⟨rest, more, xs ++ [(pn, pv)], rfl, rfl, HF.out.1, HF.out.2.1, HO, hb', hnext⟩
        case measure =>
          have h1 := HF.out.2.2
          have h2 := hsz.out
          show strLen (.string ⟨rest.toArray⟩) + boolOf (.bool more) < strLen (.string ⟨r.toArray⟩) + boolOf (.bool true)
          simp only [strLen, h2.1, h2.2]
          cases more <;> simp [boolOf] at h1 ⊢ <;> omega
end Go.Proofs.Ytbcbbeenkndgcaa
