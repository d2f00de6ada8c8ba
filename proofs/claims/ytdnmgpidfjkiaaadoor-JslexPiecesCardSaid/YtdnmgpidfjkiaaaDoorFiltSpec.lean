/-
  PLAIN LAWS: a filtered text has no scheme, or an allowed one.
-/
import Derived.Test.YtdnmgpidfjkiaaaDoorSchSpec
import Derived.Test.YtdnmgpidfjkiaaaDoorPctSpec
import Derived.Test.YtdnmgpidfjkiaaaDoorUtfSpec
namespace Go.Proofs.YtdnmgpidfjkiaaaDoor
set_option linter.unusedVariables false

theorem u8_self (c : UInt8) : u8 c.toNat = c := by unfold u8; simp
theorem decR_ascii (c : UInt8) (r : List UInt8) (h : c.toNat < 128) : decR (c :: r) = ((c.toNat : Int), 1) := by
  have hs : sizeR c = 1 := by unfold sizeR; rw [if_pos h]
  have ha : accR (c.toNat % maskR 1) (r.take (1 - 1)) = c.toNat := by
    simp [accR, maskR]; omega
  rw [decR_cons, hs, if_neg (by omega), if_neg (by simp), ha, if_pos]
  · refine ⟨by simp [badC]; omega, ?_⟩
    unfold encR
    rw [if_pos h, u8_self]
    simp
theorem decR_great (c : UInt8) (r : List UInt8) (h : 128 ≤ c.toNat) :
    (decR (c :: r) = (-1, 1)) ∨ (0 < (decR (c :: r)).1 ∧ encL (decR (c :: r)).1 = (c :: r).take (decR (c :: r)).2 ∧ 2 ≤ (decR (c :: r)).2 ∧ ∀ x ∈ (c :: r).take (decR (c :: r)).2, 128 ≤ x.toNat) := by
  rw [decR_cons]
  split
  · exact .inl rfl
  · rename_i h1
    split
    · exact .inl rfl
    · rename_i h2
      split
      · rename_i h3
        right
        have hs : 2 ≤ sizeR c := by
          have h0 : sizeR c ≠ 1 := by unfold sizeR; rw [if_neg (by omega)]; (repeat' split) <;> omega
          omega
        have htk : (c :: r).take (sizeR c) = c :: r.take (sizeR c - 1) := by
          obtain ⟨n, hn⟩ : ∃ n, sizeR c = n + 1 := ⟨sizeR c - 1, by omega⟩
          rw [hn]; rfl
        obtain ⟨h4, h5⟩ := h3
        generalize hA : accR (c.toNat % maskR (sizeR c)) (r.take (sizeR c - 1)) = A at h4 h5 ⊢
        have hpos : 0 < A := by
          rcases Nat.eq_zero_or_pos A with h0 | h0
          · subst h0
            have : encR 0 = [0] := by decide
            rw [this] at h5
            have := List.cons.inj h5
            rw [← this.1] at h
            exact absurd h (by decide)
          · exact h0
        refine ⟨by simp; omega, ?_, hs, ?_⟩
        · show encL (A : Int) = _
          rw [encL_good h4, htk]
          simpa using h5
        · show ∀ x ∈ (c :: r).take (sizeR c), _
          rw [htk]
          intro x hx
          rcases List.mem_cons.1 hx with rfl | hx
          · exact h
          · have h6 : (r.take (sizeR c - 1)).all contB = true := by simpa using h2
            have := List.all_eq_true.1 h6 x hx
            simp [contB] at this
            exact this.1
      · exact .inl rfl
theorem codedB_ne (c : UInt8) (l : List UInt8) (h : (c == 37) = false) : codedB (c :: l) = false := by
  match l with
  | [] => rfl
  | [a] => rfl
  | a :: b :: r =>
    show (c == 37 && _) = false
    rw [h]; rfl
theorem pct_high (nm : Bool) (q R : List UInt8) (h : ∀ x ∈ q, 128 ≤ x.toNat) : pctR nm (q ++ R) = q.flatMap pct2 ++ pctR nm R := by
  induction q with
  | nil => rfl
  | cons c q ih =>
    have hc := h c (by simp)
    have hk : keepB nm c (q ++ R) = false := by
      have h1 : unresB c = false ∧ resB c = false ∧ (c == 37) = false := by
        have := allBytes (fun c => !decide (128 ≤ c.toNat) || (!unresB c && !resB c && !(c == 37))) (by decide +kernel) c
        simp [hc] at this
        simpa [and_assoc] using this
      have h2 : codedB (c :: (q ++ R)) = false := codedB_ne c _ h1.2.2
      unfold keepB
      rw [h1.1, h1.2.1, h2]; cases nm <;> rfl
    simp only [List.cons_append, pctR, hk, List.flatMap_cons]
    rw [ih fun x hx => h x (by simp [hx])]
    simp
theorem peel {x V sch rest : List UInt8} (h : x ++ V = sch ++ 58 :: rest) (hx : 58 ∉ x) : ∃ sch', sch = x ++ sch' ∧ V = sch' ++ 58 :: rest := by
  induction x generalizing sch with
  | nil => exact ⟨sch, rfl, h⟩
  | cons y x ih =>
    match sch with
    | [] =>
      simp at h
      exact absurd h.1.symm (by intro e; exact hx (by simp [e]))
    | z :: sch =>
      simp only [List.cons_append, List.cons.injEq] at h
      obtain ⟨s', h1, h2⟩ := ih h.2 (by intro e; exact hx (by simp [e]))
      exact ⟨s', by rw [h1, h.1]; rfl, h2⟩
theorem pct2_no (c : UInt8) : 58 ∉ pct2 c := by
  have := allBytes (fun c => !(pct2 c).any (· == 58)) (by decide +kernel) c
  simp at this
  intro h
  exact absurd rfl (this 58 h)
def calm (sch : List UInt8) : Prop := 58 ∉ sch ∧ sch.any ender = false
theorem calm_cons {c : UInt8} {s : List UInt8} (h : calm (c :: s)) : c ≠ 58 ∧ ender c = false ∧ calm s := by
  obtain ⟨h1, h2⟩ := h
  simp only [List.any_cons, Bool.or_eq_false_iff] at h2
  exact ⟨fun e => h1 (by simp [e]), h2.1, fun e => h1 (by simp [e]), h2.2⟩
theorem calm_app {a b : List UInt8} (h : calm (a ++ b)) : calm b := by
  obtain ⟨h1, h2⟩ := h
  rw [List.any_append, Bool.or_eq_false_iff] at h2
  exact ⟨fun e => h1 (by simp [e]), h2.2⟩
theorem calm_join {a b : List UInt8} (ha : calm a) (hb : calm b) : calm (a ++ b) :=
  ⟨by simp [ha.1, hb.1], by rw [List.any_append, ha.2, hb.2]; rfl⟩
theorem calm_high {p : List UInt8} (h : ∀ x ∈ p, 128 ≤ x.toNat ∨ x = 0) : calm p := by
  have hx : ∀ x : UInt8, (128 ≤ x.toNat ∨ x = 0) → x ≠ 58 ∧ ender x = false := by
    intro x h
    have := allBytes (fun x => !(decide (128 ≤ x.toNat) || x == 0) || (!(x == 58) && !ender x)) (by decide +kernel) x
    rcases h with h | h
    · simpa [h] using this
    · subst h; decide
  refine ⟨fun hm => (hx 58 (h 58 hm)).1 rfl, ?_⟩
  rw [List.any_eq_false]
  intro x hxm
  rw [(hx x (h x hxm)).2]; decide
theorem repairR_cons (l : List UInt8) (h : l ≠ []) : repairR l = encL (fixC (decR l).1) ++ repairR (l.drop (decR l).2) := by
  unfold repairR; rw [charsR_cons l h, List.flatMap_cons]
/-- THE IDEA: what a normal text has ahead of a : stands so, or encoded, in the text. -/
theorem normal_scheme : ∀ (n : Nat) (l sch rest : List UInt8), l.length ≤ n → pctR true (repairR l) = sch ++ 58 :: rest → calm sch →
    ∃ a b, l = a ++ 58 :: b ∧ calm a ∧ (a.all isLetter = true → sch = a) := by
  intro n
  induction n with
  | zero =>
    intro l sch rest hl h _
    obtain rfl : l = [] := List.eq_nil_of_length_eq_zero (by omega)
    simp [repairR, charsR_nil, pctR] at h
  | succ n ih =>
    intro l sch rest hl h hs
    match l with
    | [] => simp [repairR, charsR_nil, pctR] at h
    | c :: r =>
      have hlr : r.length ≤ n := by simp at hl; omega
      by_cases hc : c.toNat < 128
      · by_cases hc0 : c = 0
        · subst hc0
          have hd : decR (0 :: r) = (0, 1) := decR_ascii 0 r (by decide)
          have hrep : repairR (0 :: r) = [239, 191, 189] ++ repairR r := by
            rw [repairR_cons _ (by simp), hd]
            show encL (fixC 0) ++ repairR r = _
            rw [show encL (fixC 0) = [239, 191, 189] by decide]
          rw [hrep, pct_high true _ _ (by decide)] at h
          obtain ⟨s', e1, e2⟩ := peel h (by decide)
          obtain ⟨a, b, h1, h2, h3⟩ := ih r s' rest hlr e2 (by rw [e1] at hs; exact calm_app hs)
          exact ⟨0 :: a, b, by rw [h1]; rfl, calm_join (a := [0]) (calm_high (by simp)) h2, fun h => by simp [isLetter] at h⟩
        · have hcp : ¬ (c.toNat : Int) ≤ 0 := by
            intro h0
            apply hc0
            apply UInt8.toNat_inj.1
            show c.toNat = 0
            omega
          have hrep : repairR (c :: r) = c :: repairR r := by
            rw [repairR_cons _ (by simp), decR_ascii c r hc]
            show encL (fixC c.toNat) ++ repairR r = _
            unfold fixC
            rw [if_neg hcp, encL_good (by simp [badC]; omega)]
            unfold encR
            rw [if_pos (by simpa using hc)]
            simp [u8_self]
          rw [hrep] at h
          simp only [pctR] at h
          by_cases hk : keepB true c (repairR r) = true
          · rw [hk, if_pos rfl] at h
            by_cases h58 : c = 58
            · refine ⟨[], r, by rw [h58]; rfl, ⟨by simp, rfl⟩, fun _ => ?_⟩
              match sch with
              | [] => rfl
              | z :: s' =>
                simp at h
                exact absurd (h.1.symm.trans h58) (calm_cons hs).1
            · obtain ⟨s', e1, e2⟩ := peel h (by simpa using Ne.symm h58)
              rw [e1] at hs
              obtain ⟨g1, g2, g3⟩ := calm_cons hs
              obtain ⟨a, b, h1, h2, h3⟩ := ih r s' rest hlr e2 g3
              refine ⟨c :: a, b, by rw [h1]; rfl, calm_join (a := [c]) ⟨by simpa using Ne.symm g1, by simp [g2]⟩ h2, fun hL => ?_⟩
              simp only [List.all_cons, Bool.and_eq_true] at hL
              rw [e1, h3 hL.2]; rfl
          · have hkf : keepB true c (repairR r) = false := by simpa using hk
            rw [hkf] at h
            simp only [Bool.false_eq_true, if_false] at h
            obtain ⟨s', e1, e2⟩ := peel h (pct2_no c)
            rw [e1] at hs
            have hnu : unresB c = false ∧ resB c = false := by
              unfold keepB at hkf
              simp only [Bool.true_and, Bool.or_eq_false_iff] at hkf
              exact ⟨hkf.1, hkf.2.1⟩
            have hne : c ≠ 58 ∧ ender c = false ∧ isLetter c = false := by
              have := allBytes (fun c => unresB c || resB c || (!(c == 58) && !ender c && !isLetter c)) (by decide +kernel) c
              simp [hnu.1, hnu.2] at this
              simpa [and_assoc] using this
            obtain ⟨a, b, h1, h2, h3⟩ := ih r s' rest hlr e2 (calm_app hs)
            refine ⟨c :: a, b, by rw [h1]; rfl, calm_join (a := [c]) ⟨by simpa using Ne.symm hne.1, by simp [hne.2.1]⟩ h2, fun hL => ?_⟩
            simp [hne.2.2] at hL
      · have hc' : 128 ≤ c.toNat := by omega
        rcases decR_great c r hc' with hd | ⟨g1, g2, g3, g4⟩
        · have hrep : repairR (c :: r) = [239, 191, 189] ++ repairR r := by
            rw [repairR_cons _ (by simp), hd]
            show encL (fixC (-1)) ++ repairR r = _
            rw [show encL (fixC (-1)) = [239, 191, 189] by decide]
          rw [hrep, pct_high true _ _ (by decide)] at h
          obtain ⟨s', e1, e2⟩ := peel h (by decide)
          obtain ⟨a, b, h1, h2, h3⟩ := ih r s' rest hlr e2 (by rw [e1] at hs; exact calm_app hs)
          refine ⟨c :: a, b, by rw [h1]; rfl, calm_join (a := [c]) (calm_high (by simp [hc'])) h2, fun hL => ?_⟩
          have : isLetter c = false := by
            have := allBytes (fun c => !decide (128 ≤ c.toNat) || !isLetter c) (by decide +kernel) c
            simpa [hc'] using this
          simp [this] at hL
        · have hp := decR_pos (c :: r) (by simp)
          have hrep := repairR_cons (c :: r) (by simp)
          rw [show fixC (decR (c :: r)).1 = (decR (c :: r)).1 by unfold fixC; rw [if_neg (by omega)], g2] at hrep
          rw [hrep, pct_high true _ _ g4] at h
          obtain ⟨s', e1, e2⟩ := peel h (by
            intro hm
            obtain ⟨y, _, hy⟩ := List.mem_flatMap.1 hm
            exact pct2_no y hy)
          have hdl : ((c :: r).drop (decR (c :: r)).2).length ≤ n := by
            rw [List.length_drop]; simp only [List.length_cons] at hl ⊢; omega
          obtain ⟨a, b, h1, h2, h3⟩ := ih _ s' rest hdl e2 (by rw [e1] at hs; exact calm_app hs)
          refine ⟨(c :: r).take (decR (c :: r)).2 ++ a, b, ?_, calm_join (calm_high fun x hx => .inl (g4 x hx)) h2, fun hL => ?_⟩
          · rw [List.append_assoc, ← h1, List.take_append_drop]
          · rw [List.all_append, Bool.and_eq_true] at hL
            have hm : c ∈ (c :: r).take (decR (c :: r)).2 := by
              obtain ⟨m, hm⟩ : ∃ m, (decR (c :: r)).2 = m + 1 := ⟨(decR (c :: r)).2 - 1, by omega⟩
              rw [hm]; simp
            have h5 := List.all_eq_true.1 hL.1 c hm
            have : isLetter c = false := by
              have := allBytes (fun c => !decide (128 ≤ c.toNat) || !isLetter c) (by decide +kernel) c
              simpa [hc'] using this
            rw [this] at h5; cases h5
def filterB (l : List UInt8) : List UInt8 := if (schemeB l).2 && !allowB (schemeB l).1 then markerL else pctR true (repairR l)
theorem calm_plain {a : List UInt8} (h : calm a) : plainTo a a.length := by
  intro j c hj hc
  have hm := List.mem_of_getElem? hc
  exact ⟨fun e => h.1 (by rw [← e]; exact hm), by have := List.any_eq_false.1 h.2 c hm; simpa using this⟩
theorem small_letter (c : UInt8) (h : smallB c ∈ ([104, 116, 112, 115, 109, 97, 105, 108, 111] : List UInt8)) : isLetter c = true := by
  have := allBytes (fun c => !([104, 116, 112, 115, 109, 97, 105, 108, 111] : List UInt8).any (· == smallB c) || isLetter c) (by decide +kernel) c
  have h2 : ([104, 116, 112, 115, 109, 97, 105, 108, 111] : List UInt8).any (· == smallB c) = true := by
    rw [List.any_eq_true]; exact ⟨smallB c, h, by simp⟩
  rw [h2] at this
  simpa using this
theorem allow_letters {a : List UInt8} (h : allowB (a.map smallB) = true) : a.all isLetter = true := by
  rw [List.all_eq_true]
  intro c hc
  apply small_letter
  have hm : smallB c ∈ a.map smallB := List.mem_map_of_mem hc
  unfold allowB at h
  simp only [Bool.or_eq_true, beq_iff_eq] at h
  rcases h with h | h | h
  · rw [h] at hm; exact (by decide : ∀ x ∈ ([104, 116, 116, 112] : List UInt8), x ∈ ([104, 116, 112, 115, 109, 97, 105, 108, 111] : List UInt8)) _ hm
  · rw [h] at hm; exact (by decide : ∀ x ∈ ([104, 116, 116, 112, 115] : List UInt8), x ∈ ([104, 116, 112, 115, 109, 97, 105, 108, 111] : List UInt8)) _ hm
  · rw [h] at hm; exact (by decide : ∀ x ∈ ([109, 97, 105, 108, 116, 111] : List UInt8), x ∈ ([104, 116, 112, 115, 109, 97, 105, 108, 111] : List UInt8)) _ hm
theorem split_scheme_calm {l : List UInt8} (h : (splitB l).hs = true) : ∃ rest, l = (splitB l).scheme ++ 58 :: rest ∧ calm (splitB l).scheme := by
  have key : ∀ m fr qu hf hq, (splitScheme fr qu hf hq m).hs = true → ∃ rest, m = (splitScheme fr qu hf hq m).scheme ++ 58 :: rest ∧ calm (splitScheme fr qu hf hq m).scheme := by
    intro m fr qu hf hq hh
    have hsp : ∀ sc hs x, (splitPath fr qu hf hq sc hs x).hs = hs ∧ (splitPath fr qu hf hq sc hs x).scheme = sc := by
      intro sc hs x; unfold splitPath; split <;> exact ⟨rfl, rfl⟩
    unfold splitScheme at hh ⊢
    split at hh
    · rename_i h1
      rw [if_pos h1, (hsp _ _ _).2]
      have h2 := h1
      unfold schemeB at h2
      split at h2
      · rename_i h3
        simp only [Bool.and_eq_true, Bool.not_eq_true'] at h3
        have := cutB_back 58 m
        rw [if_pos h3.1] at this
        exact ⟨_, this.symm, cutB_ahead 58 m, h3.2⟩
      · cases h2
    · rw [(hsp _ _ _).1] at hh; cases hh
  unfold splitB at h ⊢
  obtain ⟨rest, h1, h2⟩ := key _ _ _ _ _ h
  have e1 := cutB_back 35 l
  have e2 := cutB_back 63 (cutB 35 l).1
  refine ⟨rest ++ (if (cutB 63 (cutB 35 l).1).2.2 then 63 :: (cutB 63 (cutB 35 l).1).2.1 else []) ++ (if (cutB 35 l).2.2 then 35 :: (cutB 35 l).2.1 else []), ?_, h2⟩
  conv => lhs; rw [← e1, ← e2]
  conv => lhs; rw [h1]
  simp
theorem filter_allowed (l : List UInt8) (h : (splitB (filterB l)).hs = true) : allowB ((splitB (filterB l)).scheme.map smallB) = true := by
  unfold filterB at h ⊢
  split at h
  · exact absurd h (by decide +kernel)
  · rename_i hn
    rw [if_neg hn]
    obtain ⟨rest, e1, e2⟩ := split_scheme_calm h
    obtain ⟨a, b, h1, h2, h3⟩ := normal_scheme l.length l _ rest (Nat.le_refl _) e1 e2
    have hsc : schemeB l = (a.map smallB, true) := by rw [h1]; exact scheme_colon b (calm_plain h2)
    rw [hsc] at hn
    simp only [Bool.true_and, Bool.not_eq_true', Bool.not_eq_false] at hn
    have hn' : allowB (a.map smallB) = true := by simpa using hn
    rw [h3 (allow_letters hn')]
    exact hn'
end Go.Proofs.YtdnmgpidfjkiaaaDoor
