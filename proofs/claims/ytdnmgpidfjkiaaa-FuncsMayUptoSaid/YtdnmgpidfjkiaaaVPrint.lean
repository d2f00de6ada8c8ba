/-
  values.Print of any value.
-/
import Derived.Test.YtdnmgpidfjkiaaaVal
import Derived.Test.YtdnmgpidfjkiaaaVMass
import Derived.Test.YtdnmgpidfjkiaaaVOwn
import Derived.Test.YtdnmgpidfjkiaaaShelf
import Derived.Test.YtdnmgpidfjkiaaaBuilder
import Derived.Test.YtdnmgpidfjkiaaaPrint
import Derived.Test.YtdnmgpidfjkiaaaBytes
import Derived.Shelf.Abstract
namespace Go.Proofs.Ytdnmgpidfjkiaaa
open Go.RowKit
set_option linter.unusedVariables false
set_option linter.unusedSimpArgs false

@[go_sem] theorem run_makeFuncP (P : Program) (fn : Fn) (first cap : Array Value) (w : World) : (Instr.makeFunc fn first cap).run P w = .ok (.func fn first cap) w := rfl
/-- Prints, one behind the other, each behind what stands ahead of it, with blanks between. -/
def bodyFrom (f : Nat → List UInt8) : Nat → List (List UInt8) → List UInt8
  | _, [] => []
  | j, p :: r => (if j = 0 then [] else [32]) ++ f j ++ p ++ bodyFrom f (j + 1) r
theorem bodyFrom_snoc (f : Nat → List UInt8) : ∀ (l : List (List UInt8)) (j : Nat) (p : List UInt8), bodyFrom f j (l ++ [p]) = bodyFrom f j l ++ ((if j + l.length = 0 then [] else [32]) ++ f (j + l.length) ++ p) := by
  intro l
  induction l with
  | nil => intro j p; simp [bodyFrom]
  | cons q l ih =>
    intro j p
    simp only [List.cons_append, bodyFrom, ih, List.length_cons]
    rw [show j + 1 + l.length = j + (l.length + 1) by omega]
    simp only [List.append_assoc]
theorem bodyFrom_take (f : Nat → List UInt8) {l : List (List UInt8)} {j : Nat} {p : List UInt8} (h : l[j]? = some p) : bodyFrom f 0 (l.take (j + 1)) = bodyFrom f 0 (l.take j) ++ ((if j = 0 then [] else [32]) ++ f j ++ p) := by
  have hj := (List.getElem?_eq_some_iff.1 h).1
  rw [List.take_add_one, h]
  simp only [Option.toList_some]
  rw [bodyFrom_snoc]
  simp only [List.length_take, Nat.zero_add]
  rw [Nat.min_eq_left (by omega)]
theorem bodyFrom_le (f : Nat → List UInt8) : ∀ (l : List (List UInt8)) (j i : Nat), (bodyFrom f i (l.take j)).length ≤ (bodyFrom f i l).length := by
  intro l
  induction l with
  | nil => intro j i; simp
  | cons p l ih =>
    intro j i
    cases j with
    | zero => simp [bodyFrom]
    | succ j =>
      have := ih j (i + 1)
      simp only [List.take_succ_cons, bodyFrom, List.length_append]
      omega
abbrev IsB (B b : Nat) (l : List UInt8) (w : World) : Prop := Lib.IsBuilder 79 5 B b (Lib.byteCells l) w
theorem isB_lt {B b : Nat} {l : List Value} {w : World} (h : Lib.IsBuilder 79 5 B b l w) : b < w.heap.size := by rcases h with h | h <;> exact h.lt
theorem wByteP (B b : Nat) (l : List UInt8) (c : UInt8) (w : World) (h : IsB B b l w) (hlen : l.length + 1 ≤ 140737488355328) (hBw : B ≤ w.heap.size) :
    Calls Try.prog 46 #[.pointer (some ⟨b, 0, none⟩), .int .u8 (c.toNat : Int)] w fun e w' => e = .returned .nilIface ∧ IsB B b (l ++ [c]) w' ∧ Below B w w' ∧ Spare b w w' :=
  (writeByte_any B b _ _ w h (by rw [Lib.byteCells_length]; omega) hBw).mono fun e w' ⟨h1, h2, h3, h4⟩ => ⟨h1, .inr (by rw [show Lib.byteCells (l ++ [c]) = Lib.byteCells l ++ [.int .u8 (c.toNat : Int)] by simp [Lib.byteCells]]; exact h2), h3, h4⟩
theorem wStrP (B b : Nat) (l m : List UInt8) (w : World) (h : IsB B b l w) (hlen : l.length + m.length ≤ 140737488355328) (hBw : B ≤ w.heap.size) :
    Calls Try.prog 65 #[.pointer (some ⟨b, 0, none⟩), .string ⟨m.toArray⟩] w fun e w' => (∃ v, e = .returned v) ∧ IsB B b (l ++ m) w' ∧ Below B w w' ∧ Spare b w w' :=
  (writeString_any B b _ ⟨m.toArray⟩ w h (by rw [Lib.byteCells_length]; simp [ByteArray.size]; omega) hBw).mono fun e w' ⟨h1, h2, h3, h4⟩ => ⟨⟨_, h1⟩, .inr (by rw [show Lib.byteCells (l ++ m) = Lib.byteCells l ++ Lib.strCells ⟨m.toArray⟩ by simp [Lib.byteCells, Lib.strCells]]; exact h2), h3, h4⟩

set_option maxHeartbeats 8000000 in
set_option maxRecDepth 100000 in
theorem all_any {n : Nat} (U : World → Nat → Prop) (hU : ∀ w w' b, Below w.heap.size w w' → b < w.heap.size → U w b → U w' b) (g : Nat) (eg : ∀ args w, (callFunc g args).run Try.prog w = .ok (.enter g args) w) (lb : Array Value) (f : Nat → List UInt8)
    (P : VT n → List UInt8) (a : Option Addr) (c : Nat) (l : List (VT n)) (b : Nat) (pre : List UInt8) (w0 w : World) (hw : Below w0.heap.size w0 w)
    (hL : ValsAt U w0 (IsV U w0 n) a l) (hz : l.length * 80 ≤ 140737488351232)
    (hf : ∀ (j : Nat) (W : World), j < l.length → Below w0.heap.size w0 W → Calls Try.prog g (#[.int .i64 (j : Int)] ++ lb) W fun e w' => e = .returned (.string ⟨(f j).toArray⟩) ∧ Below W.heap.size W w')
    (hP : ∀ (v : Value) (x : VT n) (W : World), x ∈ l → IsV U W n v x → Calls Try.prog 32 #[v] W fun e w' => e = .returned (.string ⟨(P x).toArray⟩) ∧ Below W.heap.size W w')
    (hI : IsB w0.heap.size b pre w) (hlen : pre.length + (bodyFrom f 0 (l.map P)).length ≤ 140737488355328) :
    Calls Try.prog 47 #[.pointer (some ⟨b, 0, none⟩), .slice a l.length c, .func (.func g) #[] lb] w fun e w' => e = .returned (.tuple #[]) ∧ IsB w0.heap.size b (pre ++ bodyFrom f 0 (l.map P)) w' ∧ Below w0.heap.size w w' := by
  obtain ⟨m, hm⟩ : ∃ m, l.length = m := ⟨_, rfl⟩
  rw [hm] at hz hf ⊢
  have hw0 := hw.size
  obtain ⟨B, hB⟩ : ∃ B, w0.heap.size = B := ⟨_, rfl⟩
  have HM := hide hm; have HL := hide hL; have HF := hide hf; have HP := hide hP; have HW := hide hw
  have HI := hide hI; have HLEN := hide hlen
  clear hm hL hf hP hw hI hlen
  go_enter Try.func47, Try.ntmps47
  go_wp2_with fail
  go_loopw [10] (fun i wr => ∃ j : Nat, i = .int .i64 (j : Int) ∧ j ≤ m ∧ IsB w0.heap.size b (pre ++ bodyFrom f 0 ((l.map P).take j)) wr ∧ Below w0.heap.size w wr) (fun i _ => m - (intOf i).toNat)
  case atStart => exact ⟨0, rfl, Nat.zero_le _, by simpa [bodyFrom] using HI.out, Below.refl _ _⟩
  case round =>
    obtain ⟨j, rfl, hj, hI, hb⟩ := hrel
    by_cases hil : j < m
    · obtain ⟨x, hx⟩ : ∃ x, l[j]? = some x := ⟨_, List.getElem?_eq_getElem (by have := HM.out; omega)⟩
      have hb0 := HW.out.trans hb
      obtain ⟨g1, o1, rfl, hg, _, ka, ia, sa, aa, na, ca, ba, ma, da, hF5, hV⟩ := HL.out j x hx
      obtain ⟨f0, f1, f2, f3, f4⟩ := hF5.on (hb0.block g1 hg)
      have hgr : g1 < wr.heap.size := Nat.lt_of_lt_of_le hg hb0.size
      have hji : (j : Int) < (m : Int) := by omega
      have hxp : (l.map P)[j]? = some (P x) := by rw [List.getElem?_map, hx]; rfl
      have hbt := bodyFrom_take f hxp
      have hlt : (pre ++ bodyFrom f 0 ((l.map P).take j)).length + ((if j = 0 then [] else [32]) ++ f j ++ P x).length ≤ 140737488355328 := by
        have h1 := bodyFrom_le f (l.map P) (j + 1) 0
        rw [hbt, List.length_append] at h1
        have h2 := HLEN.out
        rw [List.length_append]; omega
      simp only [List.length_append] at hlt
      obtain ⟨cur, hcur⟩ : ∃ cur, pre ++ bodyFrom f 0 ((l.map P).take j) = cur := ⟨_, rfl⟩
      have hcl : cur.length = pre.length + (bodyFrom f 0 ((l.map P).take j)).length := by rw [← hcur, List.length_append]
      rw [← hcl] at hlt
      clear hcl
      rw [hcur] at hI
      have hbl := isB_lt hI
      have hnext : pre ++ bodyFrom f 0 ((l.map P).take (j + 1)) = cur ++ ((if j = 0 then [] else [32]) ++ f j ++ P x) := by rw [hbt, ← hcur]; simp only [List.append_assoc]
      have hmem := List.mem_of_getElem? hx
      have HNEXT := hide hnext
      have hBr := hb.size
      have hb0s := hb0.size
      have HB0 := hide hb0
      have hbox := Blk.new wr 25 #[.int .i64 ka, .int .i64 ia, .string sa, .slice aa na ca, .slice ba ma da]
      have hI0 := isB_keep hI (((Below.refl _ wr).alloc (Nat.le_refl _) (.cells #[.int .i64 ka, .int .i64 ia, .string sa, .slice aa na ca, .slice ba ma da] 25)))
      have hbA := hb.alloc hb0s (.cells #[.int .i64 ka, .int .i64 ia, .string sa, .slice aa na ca, .slice ba ma da] 25)
      have HBA := hide hbA
      have HV := hide hV
      have HI0 := hide hI0; have HBOX := hide hbox
      clear hV hx hb0 hxp hbt hcur hnext hI hI0 hbox hbA hb
      rcases Nat.eq_zero_or_pos j with h0 | h0
      · subst h0
        have hz0 : decide ((0 : Int) < ((0 : Nat) : Int)) = false := rfl
        simp only [if_pos, List.length_nil, Nat.zero_add] at hlt
        simp only [Nat.zero_mul, Nat.add_zero] at f0 f1 f2 f3 f4
        go_wp2_with fail
        refine (HF.out 0 _ hil (HW.out.trans HBA.out)).mono ?_
        rintro e w2 ⟨rfl, hb2⟩
        have HI1 := hide (isB_keep HI0.out hb2)
        have HBOX := hide (HBOX.out.below hb2 HBOX.out.lt)
        have HBA := hide (HBA.out.trans (hb2.mono (by have := HBA.out.size; omega)))
        go_wp2_with fail
        refine (wStrP w0.heap.size b (cur) (f 0) _ HI1.out (by first | omega | (simp only [List.length_append, List.length_singleton]; omega)) (by have := HBA.out.size; omega)).mono ?_
        rintro e w3 ⟨⟨v, rfl⟩, hI3, hb3, hs3⟩
        have hbox := hs3.blk HBOX.out (by decide) (by omega)
        have HBA := hide (HBA.out.trans hb3)
        have c0 := hbox.cell 0; have c1 := hbox.cell 1; have c2 := hbox.cell 2; have c3 := hbox.cell 3; have c4 := hbox.cell 4
        simp at c0 c1 c2 c3 c4
        have hw3 := HW.out.trans HBA.out
        have cP := hide (HP.out _ x w3 hmem (IsV.on (Stays.of_below hw3 fun b h => hU _ _ b hw3 h) n _ _ HV.out))
        clear hbox hs3 hb3 hw3
        go_wp2_with fail
        refine (cP.out).mono ?_
        rintro e w4 ⟨rfl, hb4⟩
        have HI4 := hide (isB_keep hI3 hb4)
        have HBA := hide (HBA.out.trans (hb4.mono (by have := HBA.out.size; omega)))
        clear c0 c1 c2 c3 c4 hI3
        go_wp2_with fail
        refine (wStrP w0.heap.size b (cur ++ f 0) (P x) _ HI4.out (by first | omega | (simp only [List.length_append, List.length_singleton]; omega)) (by have := HBA.out.size; omega)).mono ?_
        rintro e w5 ⟨⟨v5, rfl⟩, hI5, hb5, hs5⟩
        have HI5 := hide hI5
        clear hI5 hs5
        go_wp2_with fail
        go_roundw
        case rel => exact ⟨1, by go_num, by omega, by rw [HNEXT.out]; simpa using HI5.out, HBA.out.trans hb5⟩
        case measure => simp [intOf]; omega
      · have hz0 : decide (0 < j) = true := decide_eq_true h0
        have hj0 : j ≠ 0 := by omega
        simp only [if_neg hj0, List.length_singleton] at hlt
        rw [if_neg hj0] at HNEXT
        go_wp2_with fail
        refine (wByteP w0.heap.size b cur 32 _ HI0.out (by omega) (by have := HBA.out.size; omega)).mono ?_
        rintro e w1 ⟨rfl, hI1, hb1, hs1⟩
        have HBOX := hide (hs1.blk HBOX.out (by decide) (by omega))
        have HBA := hide (HBA.out.trans hb1)
        have HI0 := hide hI1
        clear hI1 hb1 hs1
        go_wp2_with fail
        refine (HF.out j _ hil (HW.out.trans HBA.out)).mono ?_
        rintro e w2 ⟨rfl, hb2⟩
        have HI1 := hide (isB_keep HI0.out hb2)
        have HBOX := hide (HBOX.out.below hb2 HBOX.out.lt)
        have HBA := hide (HBA.out.trans (hb2.mono (by have := HBA.out.size; omega)))
        go_wp2_with fail
        refine (wStrP w0.heap.size b (cur ++ [32]) (f j) _ HI1.out (by first | omega | (simp only [List.length_append, List.length_singleton]; omega)) (by have := HBA.out.size; omega)).mono ?_
        rintro e w3 ⟨⟨v, rfl⟩, hI3, hb3, hs3⟩
        have hbox := hs3.blk HBOX.out (by decide) (by omega)
        have HBA := hide (HBA.out.trans hb3)
        have c0 := hbox.cell 0; have c1 := hbox.cell 1; have c2 := hbox.cell 2; have c3 := hbox.cell 3; have c4 := hbox.cell 4
        simp at c0 c1 c2 c3 c4
        have hw3 := HW.out.trans HBA.out
        have cP := hide (HP.out _ x w3 hmem (IsV.on (Stays.of_below hw3 fun b h => hU _ _ b hw3 h) n _ _ HV.out))
        clear hbox hs3 hb3 hw3
        go_wp2_with fail
        refine (cP.out).mono ?_
        rintro e w4 ⟨rfl, hb4⟩
        have HI4 := hide (isB_keep hI3 hb4)
        have HBA := hide (HBA.out.trans (hb4.mono (by have := HBA.out.size; omega)))
        clear c0 c1 c2 c3 c4 hI3
        go_wp2_with fail
        refine (wStrP w0.heap.size b (cur ++ [32] ++ f j) (P x) _ HI4.out (by first | omega | (simp only [List.length_append, List.length_singleton]; omega)) (by have := HBA.out.size; omega)).mono ?_
        rintro e w5 ⟨⟨v5, rfl⟩, hI5, hb5, hs5⟩
        have HI5 := hide hI5
        clear hI5 hs5
        go_wp2_with fail
        go_roundw
        case rel => exact ⟨j + 1, by go_num, by omega, by rw [HNEXT.out]; simpa using HI5.out, HBA.out.trans hb5⟩
        case measure => simp [intOf]; omega
    · obtain rfl : j = m := by omega
      have hif : decide ((j : Int) < (j : Int)) = false := by simp
      rw [List.take_of_length_le (by rw [List.length_map]; have := HM.out; omega)] at hI
      go_wp2_with fail
      go_end0
      exact ⟨rfl, hI, hb⟩
theorem mkAppP (x y : List UInt8) : ((⟨x.toArray⟩ : ByteArray) ++ ⟨y.toArray⟩) = ⟨(x ++ y).toArray⟩ := by apply ByteArray.ext; simp
/-- What stands ahead of a record's value, by its place. -/
def keyAhead (ks : List (List UInt8)) (j : Nat) : List UInt8 := (match ks[j]? with | some k => k | none => []) ++ [58]
def printV : (n : Nat) → VT n → List UInt8
  | 0, _ => []
  | n + 1, d =>
    if VN.k d = 0 then [110, 117, 108, 108]
    else if VN.k d = 1 then [102, 97, 108, 115, 101]
    else if VN.k d = 2 then [116, 114, 117, 101]
    else if VN.k d = 3 then pInt (VN.i d)
    else if VN.k d = 5 then [91] ++ bodyFrom (fun _ => []) 0 ((VN.l d).map (printV n)) ++ [93]
    else if VN.k d = 6 then [123] ++ bodyFrom (keyAhead (VN.ks d)) 0 ((VN.l d).map (printV n)) ++ [125]
    else VN.s d
theorem printV_mk {n : Nat} (k i : Int) (s : List UInt8) (l : List (VT n)) (ks : List (List UInt8)) : printV (n + 1) (⟨k, i, s, l, ks⟩ : VN (VT n)) =
    if k = 0 then [110, 117, 108, 108] else if k = 1 then [102, 97, 108, 115, 101] else if k = 2 then [116, 114, 117, 101] else if k = 3 then pInt i
    else if k = 5 then [91] ++ bodyFrom (fun _ => []) 0 (l.map (printV n)) ++ [93] else if k = 6 then [123] ++ bodyFrom (keyAhead ks) 0 (l.map (printV n)) ++ [125] else s := rfl
theorem print1P_any (n : Int) (w : World) : Calls Try.prog 48 #[.int .i64 n] w fun e w' => e = .returned (.string ⟨#[]⟩) ∧ w = w' := by
  go_enter Try.func48, Try.ntmps48
  go_wp2
  go_ret
  exact ⟨rfl, rfl⟩
set_option maxHeartbeats 2000000 in
set_option maxRecDepth 100000 in
theorem print2P_any (U : World → Nat → Prop) (hU : ∀ w w' b, Below w.heap.size w w' → b < w.heap.size → U w b → U w' b) (j : Nat) (ks : List (List UInt8)) (vb : Nat) (v0 v1 v2 v3 : Value) (b : Option Addr) (e : Nat) (w : World) (K : Blk w vb 25 #[v0, v1, v2, v3, .slice b ks.length e]) (hS : StrsAt U w b ks) (hj : j < 140737488351232) (hk : ∀ k ∈ ks, k.length ≤ 140737488351232) :
    Calls Try.prog 49 #[.int .i64 (j : Int), .pointer (some ⟨vb, 0, none⟩)] w fun e w' => e = .returned (.string ⟨(keyAhead ks j).toArray⟩) ∧ Below w.heap.size w w' := by
  have c4 := K.cell 4
  simp at c4
  have kl := K.lt
  rcases Nat.lt_or_ge j ks.length with h | h
  · obtain ⟨x, hx⟩ : ∃ x, ks[j]? = some x := ⟨_, List.getElem?_eq_getElem h⟩
    obtain ⟨g1, o1, rfl, hg1, _, f1⟩ := hS j x hx
    have hxl := hk x (List.mem_of_getElem? hx)
    have hji : decide ((j : Int) < (ks.length : Int)) = true := decide_eq_true (by omega)
    have hjl : (j : Int) < (ks.length : Int) := by omega
    have he : keyAhead ks j = x ++ [58] := by unfold keyAhead; rw [hx]
    rw [he]
    have hsum : ¬ (9223372036854775807 < ((⟨x.toArray⟩ : ByteArray).size : Int) + 1) := by rw [show ((⟨x.toArray⟩ : ByteArray).size) = x.length by simp [ByteArray.size]]; omega
    clear hS hk hx he K
    go_enter Try.func49, Try.ntmps49
    go_wp2_with fail
    rw [show (⟨#[58]⟩ : ByteArray) = ⟨([58] : List UInt8).toArray⟩ from rfl, mkAppP]
    go_ret
    exact ⟨rfl, Below.refl _ _⟩
  · have hji : decide ((j : Int) < (ks.length : Int)) = false := decide_eq_false (by omega)
    have he : keyAhead ks j = [58] := by unfold keyAhead; rw [List.getElem?_eq_none h]; rfl
    rw [he]
    clear hS hk he K
    go_enter Try.func49, Try.ntmps49
    go_wp2_with fail
    go_ret
    exact ⟨rfl, Below.refl _ _⟩
set_option maxHeartbeats 8000000 in
set_option maxRecDepth 100000 in
theorem print_k5 {n : Nat} (U : World → Nat → Prop) (hU : ∀ w w' b, Below w.heap.size w w' → b < w.heap.size → U w b → U w' b) (i : Int) (s : List UInt8) (l : List (VT n)) (ks : List (List UInt8)) (a b : Option Addr) (c e : Nat) (w : World)
    (hS : StrsAt U w b ks) (hL : ValsAt U w (IsV U w n) a l) (hz2 : l.length * 80 ≤ 140737488351232) (hk : ∀ k ∈ ks, k.length ≤ 140737488351232) (hlen : 2 + (bodyFrom (fun _ => []) 0 (l.map (printV n))).length ≤ 140737488355328)
    (hP : ∀ (v : Value) (x : VT n) (W : World), x ∈ l → IsV U W n v x → Calls Try.prog 32 #[v] W fun e w' => e = .returned (.string ⟨(printV n x).toArray⟩) ∧ Below W.heap.size W w') :
    Calls Try.prog 32 #[valV 5 i ⟨s.toArray⟩ a l.length c b ks.length e] w fun e w' => e = .returned (.string ⟨([91] ++ bodyFrom (fun _ => []) 0 (l.map (printV n)) ++ [93]).toArray⟩) ∧ Below w.heap.size w w' := by
  obtain ⟨X, hX⟩ : ∃ x : ByteArray, (⟨s.toArray⟩ : ByteArray) = x := ⟨_, rfl⟩
  rw [hX]
  clear hX
  have K1 := Blk.new w 25 #[.int .i64 5, .int .i64 i, .string X, .slice a l.length c, .slice b ks.length e]
  have hBW := (Below.refl w.heap.size w).alloc (Nat.le_refl _) (.cells #[.int .i64 5, .int .i64 i, .string X, .slice a l.length c, .slice b ks.length e] 25)
  have hLW := hL.on (R' := IsV U (w.alloc (.cells #[.int .i64 5, .int .i64 i, .string X, .slice a l.length c, .slice b ks.length e] 25)) n) (Stays.of_below hBW fun b h => hU _ _ b hBW h) (IsV.on (Stays.of_below hBW fun b h => hU _ _ b hBW h) n)
  have hSW := hS.on (Stays.of_below hBW fun b h => hU _ _ b hBW h)
  have hsz : (w.alloc (.cells #[.int .i64 5, .int .i64 i, .string X, .slice a l.length c, .slice b ks.length e] 25)).heap.size = w.heap.size + 1 := by simp
  have HP := hide hP; have HLEN := hide hlen; have HK := hide hk
  clear hL hP hlen hS hk
  go_enter Try.func32, Try.ntmps32
  go_wp2_with fail
  generalize w.alloc (.cells #[.int .i64 5, .int .i64 i, .string X, .slice a l.length c, .slice b ks.length e] 25) = W0 at K1 hBW hLW hSW hsz ⊢
  have hI : IsB W0.heap.size (w.heap.size + 1) [] (W0.alloc (.cells #[.pointer none, .slice none 0 0] 79)) := by rw [← hsz]; exact .inl ⟨Nat.le_refl _, .slice none 0 0, heap_alloc_new W0 _, by simpa [Lib.byteCells] using World.ownsRow_nil _ _ _ _, by simp [Value.ownBlock]⟩
  have hB1 := (Below.refl W0.heap.size W0).alloc (Nat.le_refl _) (.cells #[.pointer none, .slice none 0 0] 79)
  have HSZ := hide hsz
  clear hsz
  refine (wByteP W0.heap.size (w.heap.size + 1) [] 91 _ hI (by simp) (by simp)).mono ?_
  rintro e w2 ⟨rfl, hI2, hb2, _⟩
  have hB2 := hB1.trans hb2
  clear hI hB1 hb2
  have K2 := K1.below hB2 K1.lt
  have p3 := K2.cell 3
  simp at p3
  have z2 := K2.lt
  go_wp2_with fail
  have cA := all_any U hU 48 (enters_of Try.func48 (by kernel_rfl) rfl) #[] (fun _ => []) (printV n) a c l (w.heap.size + 1) [91] W0 w2 hB2 hLW hz2
    (fun j W _ _ => (print1P_any (j : Int) W).mono fun e w' h => ⟨h.1, by rw [← h.2]; exact Below.refl _ _⟩) HP.out (by simpa using hI2) (by have := HLEN.out; simp only [List.length_singleton]; omega)
  refine cA.mono ?_
  rintro e w3 ⟨rfl, hI3, hb3⟩
  have hB3 := hB2.trans hb3
  clear p3 z2 K2 hI2 hB2 hb3 cA
  go_wp2_with fail
  refine (wByteP W0.heap.size (w.heap.size + 1) _ 93 _ hI3 (by have := HLEN.out; simp only [List.length_append, List.length_singleton]; omega) hB3.size).mono ?_
  rintro e w4 ⟨rfl, hI4, hb4, _⟩
  have hB4 := hB3.trans hb4
  clear hI3 hB3 hb4
  go_wp2_with fail
  refine (Try.Builder_String_any_k W0.heap.size (w.heap.size + 1) _ w4 (Lib.IsBuilderF.of hI4) hB4.size).mono ?_
  rintro e w5 ⟨rfl, _, hb5, _⟩
  go_wp2_with fail
  go_ret
  exact ⟨rfl, hBW.trans ((hB4.trans hb5).mono (by have := HSZ.out; omega))⟩
set_option maxHeartbeats 8000000 in
set_option maxRecDepth 100000 in
theorem print_k6 {n : Nat} (U : World → Nat → Prop) (hU : ∀ w w' b, Below w.heap.size w w' → b < w.heap.size → U w b → U w' b) (i : Int) (s : List UInt8) (l : List (VT n)) (ks : List (List UInt8)) (a b : Option Addr) (c e : Nat) (w : World)
    (hS : StrsAt U w b ks) (hL : ValsAt U w (IsV U w n) a l) (hz2 : l.length * 80 ≤ 140737488351232) (hk : ∀ k ∈ ks, k.length ≤ 140737488351232) (hlen : 2 + (bodyFrom (keyAhead ks) 0 (l.map (printV n))).length ≤ 140737488355328)
    (hP : ∀ (v : Value) (x : VT n) (W : World), x ∈ l → IsV U W n v x → Calls Try.prog 32 #[v] W fun e w' => e = .returned (.string ⟨(printV n x).toArray⟩) ∧ Below W.heap.size W w') :
    Calls Try.prog 32 #[valV 6 i ⟨s.toArray⟩ a l.length c b ks.length e] w fun e w' => e = .returned (.string ⟨([123] ++ bodyFrom (keyAhead ks) 0 (l.map (printV n)) ++ [125]).toArray⟩) ∧ Below w.heap.size w w' := by
  obtain ⟨X, hX⟩ : ∃ x : ByteArray, (⟨s.toArray⟩ : ByteArray) = x := ⟨_, rfl⟩
  rw [hX]
  clear hX
  have K1 := Blk.new w 25 #[.int .i64 6, .int .i64 i, .string X, .slice a l.length c, .slice b ks.length e]
  have hBW := (Below.refl w.heap.size w).alloc (Nat.le_refl _) (.cells #[.int .i64 6, .int .i64 i, .string X, .slice a l.length c, .slice b ks.length e] 25)
  have hLW := hL.on (R' := IsV U (w.alloc (.cells #[.int .i64 6, .int .i64 i, .string X, .slice a l.length c, .slice b ks.length e] 25)) n) (Stays.of_below hBW fun b h => hU _ _ b hBW h) (IsV.on (Stays.of_below hBW fun b h => hU _ _ b hBW h) n)
  have hSW := hS.on (Stays.of_below hBW fun b h => hU _ _ b hBW h)
  have hsz : (w.alloc (.cells #[.int .i64 6, .int .i64 i, .string X, .slice a l.length c, .slice b ks.length e] 25)).heap.size = w.heap.size + 1 := by simp
  have HP := hide hP; have HLEN := hide hlen; have HK := hide hk
  clear hL hP hlen hS hk
  go_enter Try.func32, Try.ntmps32
  go_wp2_with fail
  generalize w.alloc (.cells #[.int .i64 6, .int .i64 i, .string X, .slice a l.length c, .slice b ks.length e] 25) = W0 at K1 hBW hLW hSW hsz ⊢
  have hI : IsB W0.heap.size (w.heap.size + 1) [] (W0.alloc (.cells #[.pointer none, .slice none 0 0] 79)) := by rw [← hsz]; exact .inl ⟨Nat.le_refl _, .slice none 0 0, heap_alloc_new W0 _, by simpa [Lib.byteCells] using World.ownsRow_nil _ _ _ _, by simp [Value.ownBlock]⟩
  have hB1 := (Below.refl W0.heap.size W0).alloc (Nat.le_refl _) (.cells #[.pointer none, .slice none 0 0] 79)
  have HSZ := hide hsz
  clear hsz
  refine (wByteP W0.heap.size (w.heap.size + 1) [] 123 _ hI (by simp) (by simp)).mono ?_
  rintro e w2 ⟨rfl, hI2, hb2, _⟩
  have hB2 := hB1.trans hb2
  clear hI hB1 hb2
  have K2 := K1.below hB2 K1.lt
  have p3 := K2.cell 3
  simp at p3
  have z2 := K2.lt
  go_wp2_with fail
  have cA := all_any U hU 49 (enters_of Try.func49 (by kernel_rfl) rfl) #[.pointer (some ⟨w.heap.size, 0, none⟩)] (keyAhead ks) (printV n) a c l (w.heap.size + 1) [123] W0 w2 hB2 hLW hz2
    (fun j W hj hw => print2P_any U hU j ks w.heap.size _ _ _ _ b e W (K1.below hw K1.lt) (hSW.on (Stays.of_below hw fun b h => hU _ _ b hw h)) (by omega) HK.out) HP.out (by simpa using hI2) (by have := HLEN.out; simp only [List.length_singleton]; omega)
  refine cA.mono ?_
  rintro e w3 ⟨rfl, hI3, hb3⟩
  have hB3 := hB2.trans hb3
  clear p3 z2 K2 hI2 hB2 hb3 cA
  go_wp2_with fail
  refine (wByteP W0.heap.size (w.heap.size + 1) _ 125 _ hI3 (by have := HLEN.out; simp only [List.length_append, List.length_singleton]; omega) hB3.size).mono ?_
  rintro e w4 ⟨rfl, hI4, hb4, _⟩
  have hB4 := hB3.trans hb4
  clear hI3 hB3 hb4
  go_wp2_with fail
  refine (Try.Builder_String_any_k W0.heap.size (w.heap.size + 1) _ w4 (Lib.IsBuilderF.of hI4) hB4.size).mono ?_
  rintro e w5 ⟨rfl, _, hb5, _⟩
  go_wp2_with fail
  go_ret
  exact ⟨rfl, hBW.trans ((hB4.trans hb5).mono (by have := HSZ.out; omega))⟩
end Go.Proofs.Ytdnmgpidfjkiaaa
