/-
  PLAIN LAWS of many texts, in one.
-/
import Derived.Test.YtnepogddjinpoaaGreatDoorFoFun3
namespace Go.Proofs.YtnepogddjinpoaaGreatDoor
open Go.RowKit
set_option linter.unusedVariables false
set_option linter.unusedSimpArgs false

/-- What is told: a flat value, or an error. -/
def ToldD (w : World) (r : ResD 0) (e : Ending) (w' : World) : Prop := ToldF w (r.1.getD nullD).k (r.1.getD nullD).i ⟨(r.1.getD nullD).s.toArray⟩ r.2 e w'
theorem nil_l (d : VD 0) : d.l = [] := by
  cases h : d.l with
  | nil => rfl
  | cons x _ => exact x.elim
theorem told_some {w : World} {d : VD 0} {f : Int} {e : Ending} {w' : World} (h : ToldF w d.k d.i ⟨d.s.toArray⟩ f e w') : ToldD w (some d, f) e w' := h
theorem told_none {w : World} {f : Int} {e : Ending} {w' : World} (h : ToldF w 0 0 ⟨#[]⟩ f e w') : ToldD w (none, f) e w' := h
theorem str_listF (l : List UInt8) : (⟨l.toArray⟩ : ByteArray).toList = l := by rw [ByteArray.toList_eq]
theorem eq_flat {a b : VD 0} (ha : FlatD a) (hb : FlatD b) : eqV 1 a b = (decide (a.k = b.k) && decide (a.i = b.i) && (a.s == b.s)) := by
  show (decide (a.k = b.k) && decide (a.i = b.i) && (a.s == b.s) && (a.l.length == b.l.length) && (a.ks == b.ks) && (a.l.zip b.l).all fun p => eqV 0 p.1 p.2) = _
  rw [nil_l a, nil_l b, ha.2.2, hb.2.2]
  simp
theorem ogSame {a b : VD 0} (ha : FlatD a) (hb : FlatD b) (P : Option Addr) (C : Nat) (P2 : Option Addr) (C2 : Nat) (Q : Option Addr) (D : Nat) (Q2 : Option Addr) (D2 : Nat) (w : World) :
    Calls Tryz.prog 203 #[.agg (vCells a.k a.i ⟨a.s.toArray⟩ P 0 C P2 0 C2), .agg (vCells b.k b.i ⟨b.s.toArray⟩ Q 0 D Q2 0 D2)] w fun e w' => e = .returned (.bool (eqV 1 a b)) ∧ Below w.heap.size w w' := by
  rw [eq_flat ha hb]
  by_cases h0 : a.k = b.k
  · by_cases h1 : a.i = b.i
    · rw [decide_eq_true h0, decide_eq_true h1]
      cases h2 : a.s == b.s with
      | true => exact ogSameY _ _ _ _ _ _ _ _ _ _ _ _ _ _ h0 h1 (by rw [str_listF, str_listF]; exact h2) w
      | false => exact ogSameS _ _ _ _ _ _ _ _ _ _ _ _ _ _ h0 h1 (by rw [str_listF, str_listF]; exact h2) w
    · rw [decide_eq_false h1, Bool.and_false, Bool.false_and]
      exact ogSameI _ _ _ _ _ _ _ _ _ _ _ _ _ _ h0 h1 w
  · rw [decide_eq_false h0, Bool.false_and, Bool.false_and]
    exact ogSameK _ _ _ _ _ _ _ _ _ _ _ _ _ _ h0 w
theorem isTrue_flat (d : VD 0) : isTrue d = truthC d.k d.i ⟨d.s.toArray⟩ 0 := by
  unfold isTrue
  rw [nil_l d]; rfl
theorem ogTwo (name : List UInt8) (hn : name ∈ [[101, 113], [108, 116], [97, 110, 100], [111, 114], [106, 111, 105, 110], [100, 101, 102, 97, 117, 108, 116], [105, 110, 100, 101, 120]]) {a b : VD 0} (ha : FlatD a) (hb : FlatD b) (P : Option Addr) (C : Nat) (P2 : Option Addr) (C2 : Nat) (Q : Option Addr) (D : Nat) (Q2 : Option Addr) (D2 : Nat) (w : World) :
    Calls Tryz.prog 161 #[.string ⟨name.toArray⟩, .agg (vCells a.k a.i ⟨a.s.toArray⟩ P 0 C P2 0 C2), .agg (vCells b.k b.i ⟨b.s.toArray⟩ Q 0 D Q2 0 D2)] w (ToldD w (twoR name a b)) := by
  have h5 : ¬ a.k = 5 := by have := ha.2.1; omega
  have h6 : ¬ a.k = 6 := by have := ha.2.1; omega
  simp only [List.mem_cons, List.mem_nil_iff, or_false] at hn
  rcases hn with rfl | rfl | rfl | rfl | rfl | rfl | rfl
  · rw [show twoR [101, 113] a b = (some (truthD (eqV 1 a b)), 0) by simp [twoR]]
    exact ogTwoEq _ _ _ _ _ _ _ _ _ _ _ _ _ _ _ w (fun W _ => ogSame ha hb P C P2 C2 Q D Q2 D2 W)
  · by_cases h3 : a.k = 3
    · by_cases h4 : b.k = 3
      · rw [show twoR [108, 116] a b = (some (truthD (decide (a.i < b.i))), 0) by simp [twoR, h3, h4]]
        rw [h3, h4]
        exact ogTwoLt _ _ _ _ _ _ _ _ _ _ _ _ _ _ _ _ _ _ w (fun W _ => ogLessNum a.i ⟨a.s.toArray⟩ P C P2 C2 b.i ⟨b.s.toArray⟩ Q D Q2 D2 W)
      · rw [show twoR [108, 116] a b = (none, 13) by simp [twoR, h3, h4]]
        rw [h3]
        exact ogTwoLt _ _ _ _ _ _ _ _ _ _ _ _ _ _ _ _ _ _ w (fun W _ => ogLessOdd3 a.i ⟨a.s.toArray⟩ P C P2 C2 b.k b.i ⟨b.s.toArray⟩ Q D Q2 D2 h4 W)
    · by_cases h4 : a.k = 4
      · by_cases h7 : b.k = 4
        · rw [show twoR [108, 116] a b = (some (truthD (Op.bytesLess a.s b.s)), 0) by simp [twoR, h4, h7]]
          rw [h4, h7]
          have hh := fun W => ogLessText a.i ⟨a.s.toArray⟩ P C P2 C2 b.i ⟨b.s.toArray⟩ Q D Q2 D2 W
          rw [str_listF, str_listF] at hh
          exact ogTwoLt _ _ _ _ _ _ _ _ _ _ _ _ _ _ _ _ _ _ w (fun W _ => hh W)
        · rw [show twoR [108, 116] a b = (none, 13) by simp [twoR, h4, h7]]
          rw [h4]
          exact ogTwoLt _ _ _ _ _ _ _ _ _ _ _ _ _ _ _ _ _ _ w (fun W _ => ogLessOdd4 a.i ⟨a.s.toArray⟩ P C P2 C2 b.k b.i ⟨b.s.toArray⟩ Q D Q2 D2 h7 W)
      · rw [show twoR [108, 116] a b = (none, 13) by simp [twoR, h3, h4]]
        exact ogTwoLt _ _ _ _ _ _ _ _ _ _ _ _ _ _ _ _ _ _ w (fun W _ => ogLessOdd a.k a.i ⟨a.s.toArray⟩ P C P2 C2 b.k b.i ⟨b.s.toArray⟩ Q D Q2 D2 h3 h4 W)
  · rw [show twoR [97, 110, 100] a b = (some (if isTrue a then b else a), 0) by simp [twoR]]
    refine (ogTwoAnd a.k a.i ⟨a.s.toArray⟩ P C P2 C2 b.k b.i ⟨b.s.toArray⟩ Q D Q2 D2 w).mono ?_
    intro e w' h
    rw [isTrue_flat]
    cases hq : truthC a.k a.i ⟨a.s.toArray⟩ 0 with
    | true => rw [hq] at h; exact h
    | false => rw [hq] at h; exact h
  · rw [show twoR [111, 114] a b = (some (if isTrue a then a else b), 0) by simp [twoR]]
    refine (ogTwoOr a.k a.i ⟨a.s.toArray⟩ P C P2 C2 b.k b.i ⟨b.s.toArray⟩ Q D Q2 D2 w).mono ?_
    intro e w' h
    rw [isTrue_flat]
    cases hq : truthC a.k a.i ⟨a.s.toArray⟩ 0 with
    | true => rw [hq] at h; exact h
    | false => rw [hq] at h; exact h
  · rw [show twoR [106, 111, 105, 110] a b = (none, 13) by simp [twoR, h5]]
    exact ogTwoJoin a.k a.i ⟨a.s.toArray⟩ P C P2 C2 b.k b.i ⟨b.s.toArray⟩ Q D Q2 D2 h5 w
  · rw [show twoR [100, 101, 102, 97, 117, 108, 116] a b = (some (if isTrue b then b else a), 0) by simp [twoR]]
    refine (ogTwoDefault a.k a.i ⟨a.s.toArray⟩ P C P2 C2 b.k b.i ⟨b.s.toArray⟩ Q D Q2 D2 w).mono ?_
    intro e w' h
    rw [isTrue_flat]
    cases hq : truthC b.k b.i ⟨b.s.toArray⟩ 0 with
    | true => rw [hq] at h; exact h
    | false => rw [hq] at h; exact h
  · rw [show twoR [105, 110, 100, 101, 120] a b = (none, 13) by simp [twoR, h5, h6]]
    exact ogTwoIndex _ _ _ _ _ _ _ _ _ _ _ _ _ _ _ _ _ _ w (fun W _ => ogIndexOdd a.k a.i ⟨a.s.toArray⟩ P C P2 C2 b.k b.i ⟨b.s.toArray⟩ Q D Q2 D2 h5 h6 W)
set_option maxHeartbeats 400000 in
theorem ogLower (s : ByteArray) (w : World) (hs : s.size ≤ 9223372036854775807) :
    Calls Tryz.prog 202 #[.string s] w fun e w' => e = .returned (.string ⟨(s.data.toList.map smallB).toArray⟩) ∧ Below w.heap.size w w' := by
  have hc := hide (lower_any s w hs)
  go_enter Tryz.func202, Tryz.ntmps202
  go_wp2_with (go_at_call 225; refine (Hid.out hc).mono ?_; rintro e w1 ⟨rfl, hb⟩)
  go_ret
  exact ⟨rfl, hb⟩
/-- What a function of one tells. -/
def oneR (name : List UInt8) (a : VD 0) : ResD 0 :=
  if name = [108, 101, 110] then (let q := lenC a.k ⟨a.s.toArray⟩ a.l.length; if q.2 = 0 then (some (intD q.1), 0) else (none, q.2))
  else if name = [110, 111, 116] then (some (truthD (!isTrue a)), 0)
  else if name = [117, 112, 112, 101, 114] then (if a.k = 4 then (some (textD (a.s.map greatB)), 0) else (none, 13))
  else (if a.k = 4 then (some (textD (a.s.map smallB)), 0) else (none, 13))
theorem ogOne (name : List UInt8) (hn : name ∈ [[108, 101, 110], [110, 111, 116], [117, 112, 112, 101, 114], [108, 111, 119, 101, 114]]) {a : VD 0} (ha : FlatD a) (hs : a.s.length ≤ 1048576) (P : Option Addr) (C : Nat) (P2 : Option Addr) (C2 : Nat) (w : World) :
    Calls Tryz.prog 160 #[.string ⟨name.toArray⟩, .agg (vCells a.k a.i ⟨a.s.toArray⟩ P 0 C P2 0 C2)] w (ToldD w (oneR name a)) := by
  have hz : (⟨a.s.toArray⟩ : ByteArray).size ≤ 1048576 := by simpa [ByteArray.size] using hs
  simp only [List.mem_cons, List.mem_nil_iff, or_false] at hn
  rcases hn with rfl | rfl | rfl | rfl
  · by_cases hE : (lenC a.k ⟨a.s.toArray⟩ 0).2 = 0
    · rw [show oneR [108, 101, 110] a = (some (intD (lenC a.k ⟨a.s.toArray⟩ 0).1), 0) by simp [oneR, nil_l a, hE]]
      exact ogOneLen a.k a.i ⟨a.s.toArray⟩ P C P2 C2 _ (Prod.ext rfl hE) w
    · rw [show oneR [108, 101, 110] a = (none, (lenC a.k ⟨a.s.toArray⟩ 0).2) by simp [oneR, nil_l a, hE]]
      exact ogOneLenOdd a.k a.i ⟨a.s.toArray⟩ P C P2 C2 _ _ rfl hE w
  · rw [show oneR [110, 111, 116] a = (some (truthD (!truthC a.k a.i ⟨a.s.toArray⟩ 0)), 0) by simp [oneR, isTrue_flat a]]
    exact ogOneNot a.k a.i ⟨a.s.toArray⟩ P C P2 C2 w
  · by_cases h4 : a.k = 4
    · rw [show oneR [117, 112, 112, 101, 114] a = (some (textD (a.s.map greatB)), 0) by simp [oneR, h4]]
      refine ogOneUpper _ _ _ _ _ _ _ _ _ _ _ w (fun W _ => ?_)
      rw [h4]
      exact ogLetters a.i ⟨a.s.toArray⟩ P C P2 C2 201 (enters_of Tryz.func201 (by kernel_rfl) rfl) ⟨(a.s.map greatB).toArray⟩ W (fun W2 _ => upper_any ⟨a.s.toArray⟩ W2 (by omega))
    · rw [show oneR [117, 112, 112, 101, 114] a = (none, 13) by simp [oneR, h4]]
      exact ogOneUpper _ _ _ _ _ _ _ _ _ _ _ w (fun W _ => ogLettersOdd a.k a.i ⟨a.s.toArray⟩ P C P2 C2 _ h4 W)
  · by_cases h4 : a.k = 4
    · rw [show oneR [108, 111, 119, 101, 114] a = (some (textD (a.s.map smallB)), 0) by simp [oneR, h4]]
      refine ogOneLower _ _ _ _ _ _ _ _ _ _ _ w (fun W _ => ?_)
      rw [h4]
      exact ogLetters a.i ⟨a.s.toArray⟩ P C P2 C2 202 (enters_of Tryz.func202 (by kernel_rfl) rfl) ⟨(a.s.map smallB).toArray⟩ W (fun W2 _ => ogLower ⟨a.s.toArray⟩ W2 (by omega))
    · rw [show oneR [108, 111, 119, 101, 114] a = (none, 13) by simp [oneR, h4]]
      exact ogOneLower _ _ _ _ _ _ _ _ _ _ _ w (fun W _ => ogLettersOdd a.k a.i ⟨a.s.toArray⟩ P C P2 C2 _ h4 W)
end Go.Proofs.YtnepogddjinpoaaGreatDoor

namespace Go.Proofs.YtnepogddjinpoaaGreatDoor
open Go.RowKit
set_option linter.unusedVariables false
set_option linter.unusedSimpArgs false

/-- A flat value, as an element. -/
def FlatC : Rel (VD 0) := fun _ _ vs d => ∃ a c a2 c2, vs = [.int .i64 d.k, .int .i64 d.i, .string ⟨d.s.toArray⟩, .slice a 0 c, .slice a2 0 c2]
theorem FlatC.steady : Steady FlatC := fun _ _ _ _ _ _ _ h => h
/-- A flat value within the reach. -/
def FineF (d : VD 0) : Prop := FlatD d ∧ GoodD d
theorem ogPrint {d : VD 0} (h : FineF d) (P : Option Addr) (C : Nat) (P2 : Option Addr) (C2 : Nat) (w : World) :
    Calls Tryz.prog 138 #[.agg (vCells d.k d.i ⟨d.s.toArray⟩ P 0 C P2 0 C2)] w fun e w' => e = .returned (.string ⟨(printV 1 d).toArray⟩) ∧ Below w.heap.size w w' := by
  obtain ⟨⟨h0, h4, hk⟩, hm, hn⟩ := h
  obtain ⟨k, i, s, l, ks⟩ := d
  simp only at h0 h4 hk
  rw [printV_mk]
  rcases (show k = 0 ∨ k = 1 ∨ k = 2 ∨ k = 3 ∨ k = 4 by omega) with h | h | h | h | h <;> subst h
  · exact ogPrintLow 0 i _ P P2 0 C 0 C2 _ w (.inl ⟨rfl, rfl⟩)
  · exact ogPrintLow 1 i _ P P2 0 C 0 C2 _ w (.inr (.inl ⟨rfl, rfl⟩))
  · exact ogPrintLow 2 i _ P P2 0 C 0 C2 _ w (.inr (.inr ⟨rfl, rfl⟩))
  · exact ogPrintInt i _ P P2 0 C 0 C2 w hn.1.1 hn.1.2
  · exact ogPrintElse 4 i _ P P2 0 C 0 C2 w (.inr (.inl rfl))
/-- Its print. -/
def pr1 (d : VD 0) : List UInt8 := printV 1 d
theorem join_sep (sep : List UInt8) : ∀ (l : List (List UInt8)) (j : Nat), sepFrom sep (j + 1) l = (l.map fun p => sep ++ p).flatten := by
  intro l
  induction l with
  | nil => intro j; rfl
  | cons p l ih =>
    intro j
    show (if j + 1 = 0 then [] else sep) ++ p ++ sepFrom sep (j + 1 + 1) l = _
    rw [if_neg (by omega), ih]
    simp
theorem join_cons2 (sep a b : List UInt8) (r : List (List UInt8)) : Lib.join (a :: b :: r) sep = a ++ sep ++ Lib.join (b :: r) sep := by
  simp [Lib.join, List.intercalate, List.intersperse]
theorem join_is (sep : List UInt8) (l : List (List UInt8)) : Lib.join l sep = sepFrom sep 0 l := by
  cases l with
  | nil => rfl
  | cons a l =>
    show _ = (if 0 = 0 then [] else sep) ++ a ++ sepFrom sep (0 + 1) l
    rw [if_pos rfl, join_sep, List.nil_append]
    induction l generalizing a with
    | nil => simp [Lib.join, List.intercalate]
    | cons b l ih => rw [join_cons2, ih b]; simp
theorem info_strO : (Tryz.prog.info? 9).map (fun i => (i.zero, i.size, i.bytes)) = some (some (.string .empty), 1, 16) := by kernel_rfl
def strO (l : List (List UInt8)) : List Value := l.map fun s => .string ⟨s.toArray⟩
set_option maxHeartbeats 4000000 in
set_option maxRecDepth 100000 in
theorem ogPrints (U : World → Nat → Prop) (hU : Lasts U) (a : Option Addr) (c : Nat) (l : List (VD 0)) (sep : List UInt8) (w : World)
    (hL : AtR FlatC 5 U w a l) (hl : l.length ≤ 64) (hf : ∀ x ∈ l, FineF x) (hsep : sep.length ≤ 2000000) :
    Calls Tryz.prog 197 #[.slice a l.length c, .string ⟨sep.toArray⟩] w fun e w' => e = .returned (.string ⟨(sepFrom sep 0 (l.map pr1)).toArray⟩) ∧ Below w.heap.size w w' := by
  obtain ⟨i0, hi, hz0, hz1, hz2⟩ := info_parts info_strO
  obtain ⟨S, hS⟩ : ∃ x : ByteArray, (⟨sep.toArray⟩ : ByteArray) = x := ⟨_, rfl⟩
  rw [hS]
  have hjl : (sepFrom sep 0 (l.map pr1)).length ≤ 140737488355328 := by
    have h1 : ∀ (l : List (VD 0)) (j : Nat), (∀ x ∈ l, FineF x) → (sepFrom sep j (l.map pr1)).length ≤ l.length * 40000000 := by
      intro l
      induction l with
      | nil => intro j _; simp [sepFrom]
      | cons x l ih =>
        intro j h
        have h2 := ih (j + 1) (fun y hy => h y (by simp [hy]))
        have h3 : (pr1 x).length + 4 ≤ 25 * massV 1 x := print_len 1 x (h x (by simp)).2.2
        have h4 := (h x (by simp)).2.1
        show ((if j = 0 then [] else sep) ++ pr1 x ++ sepFrom sep (j + 1) (l.map pr1)).length ≤ (l.length + 1) * 40000000
        have h5 : (if j = 0 then [] else sep).length ≤ 2000000 := by split; simp; exact hsep
        simp only [List.length_append]
        have h6 : (massV 1 x) ≤ 1048576 := h4
        omega
    have := h1 l 0 hf
    omega
  have HS := hide hS; have HL := hide hL; have HF := hide hf; have HJ := hide hjl
  have hlen : l.length ≤ 64 := hl
  clear hS hL hf hsep hjl hl
  go_enter Tryz.func197, Tryz.ntmps197
  go_wp2_with (at_make; refine wpList_make_own _ rfl _ _ 24 rfl w.heap.size 9 i0 (.string .empty) 1 Tryz.underlying24 hi hz0 hz1 .i64 .i64 _ l.length rfl rfl rfl (by rw [hz2]; omega) (by unfold maxLen; omega) (Nat.le_refl _) ?_; intro w0 hown0 hgrow0)
  have hB0 : Below w.heap.size w w0 := (Below.refl _ w).grown hgrow0 (Nat.le_refl _) (fun k e => by cases e)
  go_loopw [5, 13] (fun o i wr => ∃ (k : Nat) (A0 : Option Addr) (cp : Nat), o = .slice A0 k cp ∧ i = .int .i64 (k : Int) ∧ k ≤ l.length ∧ wr.ownsRow w.heap.size 9 1 (.slice A0 k cp) k (strO ((l.map pr1).take k)) ∧ Below w.heap.size w wr) (fun _ i _ => l.length - (intOf i).toNat)
  case atStart => exact ⟨0, _, _, rfl, rfl, Nat.zero_le _, hown0, hB0⟩
  case round =>
    obtain ⟨k, A0, cp, rfl, rfl, hk, hown, hb⟩ := hrel
    have hbz := hb.size
    by_cases hlt : k < l.length
    · obtain ⟨x, hx⟩ : ∃ x, l[k]? = some x := ⟨_, List.getElem?_eq_getElem hlt⟩
      obtain ⟨g, o, vs, rfl, hg, _, _, hcell, P, C, P2, C2, rfl⟩ := (HL.out.on FlatC.steady (hU.stays hb)) k x hx
      have f0 := hcell 0 _ rfl; have f1 := hcell 1 _ rfl; have f2 := hcell 2 _ rfl; have f3 := hcell 3 _ rfl; have f4 := hcell 4 _ rfl
      simp only [Nat.add_zero] at f0
      have hki : (k : Int) < (l.length : Int) := by omega
      have hk9 : k < 64 := by omega
      have hnx := hide (show strO ((l.map pr1).take k) ++ [.string ⟨(pr1 x).toArray⟩] = strO ((l.map pr1).take (k + 1)) by
        rw [List.take_add_one, List.getElem?_map, hx]; simp [strO])
      have cP : Hid (∀ W, Calls Tryz.prog 138 #[.agg (vCells x.k x.i ⟨x.s.toArray⟩ P 0 C P2 0 C2)] W fun e w' => e = .returned (.string ⟨(pr1 x).toArray⟩) ∧ Below W.heap.size W w') := hide (fun W => ogPrint (HF.out x (List.mem_of_getElem? hx)) P C P2 C2 W)
      obtain ⟨T, hT⟩ : ∃ T : ByteArray, (⟨(pr1 x).toArray⟩ : ByteArray) = T := ⟨_, rfl⟩
      rw [hT] at cP hnx
      obtain ⟨kx, ix, sx, lx, qx⟩ := x
      obtain ⟨sX, hsX⟩ : ∃ T : ByteArray, (⟨sx.toArray⟩ : ByteArray) = T := ⟨_, rfl⟩
      simp only [hsX] at f0 f1 f2 f3 f4 cP
      clear hx hcell hT hsX
      go_wp2_with fail
      refine name_world fun W1 hW1 => ?_
      have C1 : Chg [] wr W1 := by subst hW1; (repeat' (first | with_reducible exact Chg.refl _ _ | with_reducible refine Chg.alloc ?_ _ | with_reducible refine Chg.drew ?_ | with_reducible refine Chg.drewN ?_ _ | with_reducible refine Chg.set_ ?_ _ _ (by first | (simp; done) | (simp; omega) | omega)))
      clear hW1
      refine (cP.out W1).mono ?_
      rintro e w3 ⟨rfl, hb3⟩
      have hb3w := (C1.below hb3).bel
      have hown3 : w3.ownsRow w.heap.size 9 1 (.slice A0 k cp) k (strO ((l.map pr1).take k)) := hown.kept (row := none) ⟨hb3w.os, hb3w.tape, hb3w.output, hb3w.size, fun k hk _ => hb3w.block k hk⟩ (by cases h : (Value.slice A0 k cp).ownBlock <;> simp)
      have hbw := hb.trans (hb3w.mono hb.size)
      have hbws := hbw.size
      clear hown hb3 f0 f1 f2 f3 f4 C1
      go_wp2_with (at_builtin; refine wpList_append_own _ rfl _ _ 24 rfl w.heap.size 9 i0 (.string .empty) 1 16 Tryz.underlying24 hi hz0 hz1 hz2 rfl (by decide) _ _ _ rfl (hown3.alloc _) ⟨w3.heap.size, 0, none⟩ 1 1 [.string T] rfl rfl (by intro j u hj; match j, hj with | 0, hj => (simp at hj; subst hj; simp [Addr.add])) (by intro u hu; simp at hu; subst hu; rfl) (by unfold maxLen; omega) (by omega) (by simp; omega) ?_)
      intro v' w5 hown' hgrow _
      obtain ⟨A5, c5, rfl⟩ := own_sliceO hown'
      rw [hnx.out] at hown'
      have hbF := (hbw.alloc hbws _).grown hgrow (by simp; omega) (fun j hj => (hown3.lt j hj).1)
      go_wp2_with fail
      go_roundw
      case rel => exact ⟨k + 1, A5, c5, rfl, by go_num, by omega, hown', hbF⟩
      case measure => simp [intOf]; omega
    · have hk2 : k = l.length := by omega
      have hlen2 : (l.map pr1).length = l.length := List.length_map ..
      rw [List.take_of_length_le (by omega)] at hown
      have hge : decide ((k : Int) < (l.length : Int)) = false := decide_eq_false (by omega)
      have cJ : ∀ W, Below w.heap.size w W → Below wr.heap.size wr W → Calls Tryz.prog 132 #[.slice A0 k cp, .string S] W fun e w' => e = .returned (.string ⟨(sepFrom sep 0 (l.map pr1)).toArray⟩) ∧ Below W.heap.size W w' := by
        intro W hW hW2
        rw [← HS.out]
        have hjl := HJ.out
        rw [← join_is] at hjl ⊢
        rcases hown.2 with ⟨he, h0⟩ | ⟨g, cap, cur, hv, _, hg, hcap, _⟩
        · injection he with e1 e2 e3
          subst e2
          have hl0 : l = [] := List.length_eq_zero_iff.1 (by omega)
          subst hl0
          exact (Tryz.strings_Join_none _ _ _ W).mono fun e w' h => ⟨h.1, by rw [h.2]; exact Below.refl _ _⟩
        · injection hv with e1 e2 e3
          subst e1
          have hcells := hown.cells (g := g) rfl
          have hgl : g < wr.heap.size := (Array.getElem?_eq_some_iff.1 hg).1
          have hq := Tryz.strings_Join g 0 cp ((l.map pr1).map fun q => (⟨q.toArray⟩ : ByteArray)) ⟨sep.toArray⟩ W (fun j x hx => by
            have hc := hcells j (.string x) (by
              rw [List.getElem?_map] at hx
              obtain ⟨y, hy, rfl⟩ := Option.map_eq_some_iff.1 hx
              unfold strO
              rw [List.getElem?_map, hy]; rfl)
            have h2 := hW2.cell (p := ⟨g, j, none⟩) hgl
            rw [Nat.zero_add, h2]
            have h3 : (⟨g, 0, none⟩ : Addr).add j = ⟨g, j, none⟩ := by unfold Addr.add; split <;> simp_all
            rw [h3] at hc
            exact hc) (Nat.lt_of_lt_of_le hgl hW2.size) (by simp; omega) (by simp; omega) (by simpa [Function.comp_def] using hjl)
          have e4 : ((l.map pr1).map fun q => (⟨q.toArray⟩ : ByteArray)).length = k := by simp; omega
          rw [e4] at hq
          simpa [Function.comp_def] using hq
      have cJ := hide cJ
      have hB := hide hb
      clear hown hb hk2 hlen2
      go_wp2_with fail
      refine (cJ.out _ hB.out (Below.refl _ _)).mono ?_
      rintro e w5 ⟨rfl, hb5⟩
      go_wp2_with fail
      go_ret
      exact ⟨rfl, hB.out.trans (hb5.mono hB.out.size)⟩
end Go.Proofs.YtnepogddjinpoaaGreatDoor

namespace Go.Proofs.YtnepogddjinpoaaGreatDoor
open Go.RowKit
set_option linter.unusedVariables false
set_option linter.unusedSimpArgs false

/-- Is nothing used that the kind does not? -/
def usedB (k i : Int) (s : List UInt8) : Bool := (decide (k = 3) || decide (i = 0)) && (decide (k = 4) || s.isEmpty)
set_option maxHeartbeats 4000000 in
set_option maxRecDepth 100000 in
theorem ogUsed (k i : Int) (s : ByteArray) (a : Option Addr) (c : Nat) (a2 : Option Addr) (c2 : Nat) (w : World) (h0 : 0 ≤ k) (h4 : k ≤ 4) : Calls Tryz.prog 162 #[.agg (vCells k i s a 0 c a2 0 c2)] w fun e w' => e = .returned (.bool (usedB k i s.toList)) ∧ Below w.heap.size w w' := by
  obtain ⟨R, hR⟩ : ∃ R, usedB k i s.toList = R := ⟨_, rfl⟩
  rw [hR]
  have HR := hide hR
  clear hR
  obtain ⟨ie, hie⟩ : ∃ b, decide (i = 0) = b := ⟨_, rfl⟩
  obtain ⟨se, hse⟩ : ∃ b, s.toList.isEmpty = b := ⟨_, rfl⟩
  have hie2 : (i == 0) = ie := by rw [← hie]; by_cases h : i = 0 <;> simp [h]
  have hse2 : (s.toList == []) = se := by rw [← hse]; cases s.toList <;> rfl
  have HI := hide hie; have HS := hide hse
  clear hie
  rcases (show k = 0 ∨ k = 1 ∨ k = 2 ∨ k = 3 ∨ k = 4 by omega) with h | h | h | h | h <;> subst h <;> cases ie <;> cases se
  all_goals
    clear h0 h4
    go_enter Tryz.func162, Tryz.ntmps162
    go_wp2_with fail
    go_ret
    refine ⟨by rw [← HR.out]; simp [usedB, HI.out, HS.out], ?_⟩
    refine name_it (C := fun W => Below w.heap.size w W) fun W hW => ?_
    have C1 : Chg [] w W := by subst hW; (repeat' (first | with_reducible exact Chg.refl _ _ | with_reducible refine Chg.alloc ?_ _ | with_reducible refine Chg.drew ?_ | with_reducible refine Chg.drewN ?_ _ | with_reducible refine Chg.set_ ?_ _ _ (by first | (simp; done) | (simp; omega) | omega)))
    exact C1.bel
set_option maxHeartbeats 1000000 in
set_option maxRecDepth 100000 in
theorem ogKeys (k i : Int) (s : ByteArray) (a : Option Addr) (c : Nat) (a2 : Option Addr) (c2 : Nat) (w : World) (h4 : k ≤ 4) : Calls Tryz.prog 163 #[.agg (vCells k i s a 0 c a2 0 c2)] w fun e w' => e = .returned (.bool true) ∧ Below w.heap.size w w' := by
  have e0 : (k == 6) = false := by rw [beq_eq_false_iff_ne]; omega
  have e1 : (k != 6) = true := by simp; omega
  clear h4
  go_enter Tryz.func163, Tryz.ntmps163
  go_wp2_with fail
  go_ret
  refine ⟨rfl, ?_⟩
  refine name_it (C := fun W => Below w.heap.size w W) fun W hW => ?_
  have C1 : Chg [] w W := by subst hW; (repeat' (first | with_reducible exact Chg.refl _ _ | with_reducible refine Chg.alloc ?_ _ | with_reducible refine Chg.drew ?_ | with_reducible refine Chg.drewN ?_ _ | with_reducible refine Chg.set_ ?_ _ _ (by first | (simp; done) | (simp; omega) | omega)))
  exact C1.bel
/-- The error of a flat value. -/
def flatE (k i : Int) (s : List UInt8) : Int := if 4096 < s.length then 5 else if usedB k i s then 0 else 9
set_option maxHeartbeats 2000000 in
set_option maxRecDepth 100000 in
theorem ogNested (k i : Int) (s : ByteArray) (a : Option Addr) (c : Nat) (a2 : Option Addr) (c2 : Nat) (w : World) (h0 : 0 ≤ k) (h4 : k ≤ 4) : Calls Tryz.prog 124 #[.agg (vCells k i s a 0 c a2 0 c2), .int .i64 16] w fun e w' => e = .returned (.int .i64 (flatE k i s.toList)) ∧ Below w.heap.size w w' := by
  have cU := hide (fun W => ogUsed k i s a c a2 c2 W h0 h4)
  have cK := hide (fun W => ogKeys k i s a c a2 c2 W h4)
  obtain ⟨R, hR⟩ : ∃ R, flatE k i s.toList = R := ⟨_, rfl⟩
  rw [hR]
  obtain ⟨u, hu⟩ : ∃ u, usedB k i s.toList = u := ⟨_, rfl⟩
  have hsz : s.size = s.toList.length := by rw [ByteArray.toList_eq]; rfl
  have e5 : (k == 5) = false := by rw [beq_eq_false_iff_ne]; omega
  have e6 : (k == 6) = false := by rw [beq_eq_false_iff_ne]; omega
  simp only [hu] at cU
  by_cases hl : 4096 < s.size
  · have hRe : R = 5 := by rw [← hR]; unfold flatE; rw [if_pos (by omega)]
    have q : decide ((4096 : Int) < (s.size : Int)) = true := decide_eq_true (by omega)
    clear hR hu hsz h0 h4
    go_enter Tryz.func124, Tryz.ntmps124
    go_wp2_with fail
    go_ret
    refine ⟨by rw [hRe]; rfl, ?_⟩
    refine name_it (C := fun W => Below w.heap.size w W) fun W hW => ?_
    have C1 : Chg [] w W := by subst hW; (repeat' (first | with_reducible exact Chg.refl _ _ | with_reducible refine Chg.alloc ?_ _ | with_reducible refine Chg.drew ?_ | with_reducible refine Chg.drewN ?_ _ | with_reducible refine Chg.set_ ?_ _ _ (by first | (simp; done) | (simp; omega) | omega)))
    exact C1.bel
  · have q : decide ((4096 : Int) < (s.size : Int)) = false := decide_eq_false (by omega)
    have hRe : R = if u then 0 else 9 := by rw [← hR]; unfold flatE; rw [if_neg (by omega), hu]
    clear hR hu hsz h0 h4
    cases u with
    | false =>
      go_enter Tryz.func124, Tryz.ntmps124
      go_wp2_with fail
      refine name_world fun W hW => ?_
      have C1 : Chg [] w W := by subst hW; (repeat' (first | with_reducible exact Chg.refl _ _ | with_reducible refine Chg.alloc ?_ _ | with_reducible refine Chg.drew ?_ | with_reducible refine Chg.drewN ?_ _ | with_reducible refine Chg.set_ ?_ _ _ (by first | (simp; done) | (simp; omega) | omega)))
      clear hW
      refine (cU.out W).mono ?_
      rintro e w1 ⟨rfl, hb1⟩
      have C2 := hide (C1.below hb1)
      clear hb1 C1
      go_wp2_with fail
      go_ret
      exact ⟨by rw [hRe]; rfl, C2.out.bel⟩
    | true =>
      go_enter Tryz.func124, Tryz.ntmps124
      go_wp2_with fail
      refine name_world fun W hW => ?_
      have C1 : Chg [] w W := by subst hW; (repeat' (first | with_reducible exact Chg.refl _ _ | with_reducible refine Chg.alloc ?_ _ | with_reducible refine Chg.drew ?_ | with_reducible refine Chg.drewN ?_ _ | with_reducible refine Chg.set_ ?_ _ _ (by first | (simp; done) | (simp; omega) | omega)))
      have K : Blk W w.heap.size 26 (vCells k i s a 0 c a2 0 c2) := by subst hW; (repeat' (first | with_reducible exact Blk.new_ (by first | rfl | (simp; done) | (simp; omega)) | with_reducible refine Blk.alloc_ ?_ | with_reducible refine Blk.drew ?_ | with_reducible refine Blk.drewN ?_ _ | with_reducible refine Blk.far_ ?_ (by first | (simp; done) | (simp; omega) | omega) | with_reducible apply Blk.set_eq | rfl))
      clear hW
      refine (cU.out W).mono ?_
      rintro e w1 ⟨rfl, hb1⟩
      have C2 := C1.trans (Chg.of_below (S := []) hb1) (by simp)
      have K1 := K.chg (Chg.of_below (S := []) hb1) (by simp)
      have k0 := K1.cell 0; have k1 := K1.cell 1; have k2 := K1.cell 2; have k3 := K1.cell 3; have k4 := K1.cell 4; simp at k0 k1 k2 k3 k4
      clear K hb1 C1
      go_wp2_with fail
      refine (cK.out w1).mono ?_
      rintro e w2 ⟨rfl, hb2⟩
      have C3 := hide (C2.trans (Chg.of_below (S := []) hb2) (by simp))
      have K2 := K1.chg (Chg.of_below (S := []) hb2) (by simp)
      clear k0 k1 k2 k3 k4 K1 C2 hb2
      have m0 := K2.cell 0; have m1 := K2.cell 1; have m2 := K2.cell 2; have m3 := K2.cell 3; have m4 := K2.cell 4; simp at m0 m1 m2 m3 m4
      clear K2
      go_wp2_with fail
      refine wp_loop_rounds 1 ?_
      rw [rounds_succ]
      go_wp2_with fail
      go_ret
      exact ⟨by rw [hRe]; rfl, C3.out.bel⟩
set_option maxRecDepth 100000 in
theorem ogCheck (k i : Int) (s : ByteArray) (a : Option Addr) (c : Nat) (a2 : Option Addr) (c2 : Nat) (w : World) (h0 : 0 ≤ k) (h4 : k ≤ 4) : Calls Tryz.prog 104 #[.agg (vCells k i s a 0 c a2 0 c2)] w fun e w' => e = .returned (.int .i64 (flatE k i s.toList)) ∧ Below w.heap.size w w' := by
  have cN := hide (fun W => ogNested k i s a c a2 c2 W h0 h4)
  obtain ⟨R, hR⟩ : ∃ R, flatE k i s.toList = R := ⟨_, rfl⟩
  simp only [hR] at cN ⊢
  clear hR
  go_enter Tryz.func104, Tryz.ntmps104
  go_wp2_with fail
  refine name_world fun W hW => ?_
  have C1 : Chg [] w W := by subst hW; (repeat' (first | with_reducible exact Chg.refl _ _ | with_reducible refine Chg.alloc ?_ _ | with_reducible refine Chg.drew ?_ | with_reducible refine Chg.drewN ?_ _ | with_reducible refine Chg.set_ ?_ _ _ (by first | (simp; done) | (simp; omega) | omega)))
  clear hW
  refine (cN.out W).mono ?_
  rintro e w1 ⟨rfl, hb1⟩
  have C2 := hide (C1.trans (Chg.of_below (S := []) hb1) (by simp))
  clear hb1 C1
  go_wp2_with fail
  go_ret
  exact ⟨rfl, C2.out.bel⟩
theorem check_flat {d : VD 0} (h : FlatD d) : checkV 1 0 d = 0 ↔ flatE d.k d.i d.s = 0 := by
  obtain ⟨h0, h4, hk⟩ := h
  obtain ⟨k, i, s, l, ks⟩ := d
  simp only at h0 h4 hk
  subst hk
  have hl : l = [] := nil_l ⟨k, i, s, l, []⟩
  subst hl
  show checkV 1 0 (⟨k, i, s, [], []⟩ : VN (VT 0)) = 0 ↔ flatE k i s = 0
  rw [checkV_mk]
  have hf : firstE (List.map (checkV 0 (0 + 1)) ([] : List (VT 0))) = 0 := rfl
  have e : headErr 0 k i s.length ([] : List (VT 0)).length ([] : List (List UInt8)).length (risingK []) = flatE k i s := by
    unfold headErr flatE usedB
    rw [if_neg (by omega)]
    by_cases h1 : 4096 < s.length
    · rw [if_pos h1, if_pos h1]
    · rw [if_neg h1, if_neg h1, if_neg (by simp)]
      rw [if_neg (show ¬ (k = 6 ∧ _) from fun h => by have := h.1; omega)]
      by_cases h3 : k = 3 <;> by_cases h4' : k = 4 <;> by_cases hi : i = 0 <;> cases s <;> simp [h3, h4', hi] <;> omega
  rw [e, hf]
  by_cases h : flatE k i s = 0
  · simp [h]
  · rw [if_neg h]
set_option maxHeartbeats 1000000 in
set_option maxRecDepth 100000 in
theorem ogSafe (esc k : Int) (h0 : 0 ≤ k) (h4 : k ≤ 4) (w : World) : Calls Tryz.prog 105 #[.int .i64 esc, .int .i64 k] w fun e w' => e = .returned (.bool false) ∧ w = w' := by
  rcases (show k = 0 ∨ k = 1 ∨ k = 2 ∨ k = 3 ∨ k = 4 by omega) with h | h | h | h | h <;> subst h
  all_goals
    clear h0 h4
    go_enter Tryz.func105, Tryz.ntmps105
    go_wp2_with fail
    go_ret
    exact ⟨rfl, rfl⟩
/-- A flat value's print; of null nothing. -/
def toldL (d : VD 0) : List UInt8 := if d.k = 0 then [] else pr1 d
set_option maxHeartbeats 1000000 in
set_option maxRecDepth 100000 in
theorem ogTold {d : VD 0} (h : FineF d) (P : Option Addr) (C : Nat) (P2 : Option Addr) (C2 : Nat) (w : World) :
    Calls Tryz.prog 109 #[.agg (vCells d.k d.i ⟨d.s.toArray⟩ P 0 C P2 0 C2)] w fun e w' => e = .returned (.string ⟨(toldL d).toArray⟩) ∧ Below w.heap.size w w' := by
  have cP : Hid (∀ W, Calls Tryz.prog 138 #[.agg (vCells d.k d.i ⟨d.s.toArray⟩ P 0 C P2 0 C2)] W fun e w' => e = .returned (.string ⟨(pr1 d).toArray⟩) ∧ Below W.heap.size W w') := hide (fun W => ogPrint h P C P2 C2 W)
  clear h
  unfold toldL
  obtain ⟨T, hT⟩ : ∃ T : ByteArray, (⟨(pr1 d).toArray⟩ : ByteArray) = T := ⟨_, rfl⟩
  obtain ⟨k, i, s, l, ks⟩ := d
  simp only [hT] at cP
  simp only
  obtain ⟨S, hS⟩ : ∃ S : ByteArray, (⟨s.toArray⟩ : ByteArray) = S := ⟨_, rfl⟩
  simp only [hS] at cP ⊢
  by_cases hk : k = 0
  · subst hk
    rw [if_pos rfl]
    clear hT hS
    go_enter Tryz.func109, Tryz.ntmps109
    go_wp2_with fail
    go_ret
    refine ⟨rfl, ?_⟩
    refine name_it (C := fun W => Below w.heap.size w W) fun W hW => ?_
    have C1 : Chg [] w W := by subst hW; (repeat' (first | with_reducible exact Chg.refl _ _ | with_reducible refine Chg.alloc ?_ _ | with_reducible refine Chg.drew ?_ | with_reducible refine Chg.drewN ?_ _ | with_reducible refine Chg.set_ ?_ _ _ (by first | (simp; done) | (simp; omega) | omega)))
    exact C1.bel
  · have e0 : (k == 0) = false := by simpa using hk
    rw [if_neg hk, hT]
    clear hT hS hk
    go_enter Tryz.func109, Tryz.ntmps109
    go_wp2_with fail
    refine name_world fun W hW => ?_
    have C1 : Chg [] w W := by subst hW; (repeat' (first | with_reducible exact Chg.refl _ _ | with_reducible refine Chg.alloc ?_ _ | with_reducible refine Chg.drew ?_ | with_reducible refine Chg.drewN ?_ _ | with_reducible refine Chg.set_ ?_ _ _ (by first | (simp; done) | (simp; omega) | omega)))
    clear hW
    refine (cP.out W).mono ?_
    rintro e w1 ⟨rfl, hb1⟩
    have C2 := hide (C1.trans (Chg.of_below (S := []) hb1) (by simp))
    clear hb1 C1
    go_wp2_with fail
    go_ret
    exact ⟨rfl, C2.out.bel⟩
end Go.Proofs.YtnepogddjinpoaaGreatDoor
