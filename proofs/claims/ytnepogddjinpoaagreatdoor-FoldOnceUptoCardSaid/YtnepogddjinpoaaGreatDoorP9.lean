/-
  PLAIN LAWS of many texts, in one.
-/
import Derived.Test.YtnepogddjinpoaaGreatDoorP6
import Derived.Test.YtnepogddjinpoaaGreatDoorP2
import Derived.Test.YtnepogddjinpoaaGreatDoorFuncB
import Derived.Test.YtnepogddjinpoaaGreatDoorBuildT
import Derived.Test.YtnepogddjinpoaaGreatDoorM1
import Derived.Test.YtnepogddjinpoaaGreatDoorP14
import Derived.Test.YtnepogddjinpoaaGreatDoorBytes
import Derived.Test.YtnepogddjinpoaaGreatDoorFoFun3
namespace Go.Proofs.YtnepogddjinpoaaGreatDoor
open Go.RowKit
set_option linter.unusedVariables false
set_option linter.unusedSimpArgs false

/-- The variable that strings.Index reads. -/
def LenO (w : World) : Prop := ∃ m : Int, w.cell? ⟨0, 0, none⟩ = some (.int .i64 m) ∧ 0 < w.heap.size
theorem LenO.below {w w' : World} (h : LenO w) (hb : Below w.heap.size w w') : LenO w' := by
  obtain ⟨m, h1, h2⟩ := h
  exact ⟨m, (hb.cell (p := ⟨0, 0, none⟩) h2).trans h1, Nat.lt_of_lt_of_le h2 hb.size⟩
def cssSet : ByteArray := ⟨#[32, 46, 44, 37, 35, 43, 45]⟩
def cssB (c : UInt8) : Bool := !isLetter c && (decide ((c.toNat : Int) < 48) || decide ((57 : Int) < (c.toNat : Int))) && decide (Lib.indexByte cssSet.data.toList ((c.toNat : Int)).toNat.toUInt8 < 0)
set_option maxHeartbeats 1000000 in
set_option maxRecDepth 100000 in
theorem css_pays : PredB Tryz.prog 218 #[] cssB := by
  intro w c
  have cL := hide (fun W => letter_any c W)
  have cI := hide (fun W => Tryz.strings_IndexByte cssSet (c.toNat : Int) W)
  unfold cssB
  obtain ⟨b1, h1⟩ : ∃ b, isLetter c = b := ⟨_, rfl⟩
  obtain ⟨I, hI⟩ : ∃ b, Lib.indexByte cssSet.data.toList ((c.toNat : Int)).toNat.toUInt8 = b := ⟨_, rfl⟩
  obtain ⟨b2, h2⟩ : ∃ b, decide ((c.toNat : Int) < 48) = b := ⟨_, rfl⟩
  obtain ⟨b3, h3⟩ : ∃ b, decide ((57 : Int) < (c.toNat : Int)) = b := ⟨_, rfl⟩
  obtain ⟨b4, h4⟩ : ∃ b, decide (I < 0) = b := ⟨_, rfl⟩
  simp only [h1, hI] at cL cI
  rw [h1, hI, h2, h3, h4]
  unfold cssSet at cI
  clear h1 hI
  show Calls Tryz.prog 218 #[.int .u8 (c.toNat : Int)] w _
  cases b1 <;> cases b2 <;> cases b3 <;> cases b4
  all_goals
    go_enter Tryz.func218, Tryz.ntmps218
    go_wp2_with (first | (go_at_call 152; refine (cL.out _).mono ?_; rintro e w1 ⟨rfl, rfl⟩) | (go_at_call 212; refine (cI.out _).mono ?_; rintro e w1 ⟨rfl, rfl⟩))
    go_ret
    exact ⟨by first | rfl | simp, rfl⟩
set_option maxHeartbeats 1000000 in
set_option maxRecDepth 100000 in
theorem cssPlain_any (s : ByteArray) (w : World) (hT : LenO w) : Calls Tryz.prog 179 #[.string s] w fun e w' => ∃ b, e = .returned (.bool b) ∧ Below w.heap.size w w' := by
  by_cases hl : 4096 < s.size
  · have q : decide ((4096 : Int) < (s.size : Int)) = true := decide_eq_true (by omega)
    go_enter Tryz.func179, Tryz.ntmps179
    go_wp2_with fail
    go_ret
    exact ⟨_, rfl, Below.refl _ _⟩
  · have q : decide ((4096 : Int) < (s.size : Int)) = false := decide_eq_false (by omega)
    obtain ⟨t, ht⟩ : ∃ t : List UInt8, s.data.toList.map smallB = t := ⟨_, rfl⟩
    have htl : t.length ≤ 4096 := by rw [← ht, List.length_map]; have h : s.size = s.data.toList.length := by rfl
                                     omega
    have cL := hide (fun W => ogLower s W (by omega))
    simp only [ht] at cL
    have htz : (⟨t.toArray⟩ : ByteArray).size = t.length := by simp [ByteArray.size]
    have cC := hide (fun (sub : ByteArray) (W : World) (h : LenO W) => (by
      obtain ⟨m, hm, _⟩ := h
      exact Tryz.strings_Contains ⟨t.toArray⟩ sub m W (by omega) hm : Calls Tryz.prog 217 #[.string ⟨t.toArray⟩, .string sub] W fun e w' => e = .returned (.bool (Lib.contains (⟨t.toArray⟩ : ByteArray).data.toList sub.data.toList)) ∧ w' = W))
    obtain ⟨b1, h1⟩ : ∃ b, Lib.contains (⟨t.toArray⟩ : ByteArray).data.toList (⟨#[101, 120, 112, 114, 101, 115, 115, 105, 111, 110]⟩ : ByteArray).data.toList = b := ⟨_, rfl⟩
    obtain ⟨b2, h2⟩ : ∃ b, Lib.contains (⟨t.toArray⟩ : ByteArray).data.toList (⟨#[117, 114, 108]⟩ : ByteArray).data.toList = b := ⟨_, rfl⟩
    have c1 := hide (fun W h => cC.out ⟨#[101, 120, 112, 114, 101, 115, 115, 105, 111, 110]⟩ W h)
    have c2 := hide (fun W h => cC.out ⟨#[117, 114, 108]⟩ W h)
    simp only [h1] at c1
    simp only [h2] at c2
    have HT := hide hT
    clear h1 h2 cC ht hT
    cases b1 <;> cases b2
    all_goals
      go_enter Tryz.func179, Tryz.ntmps179
      go_wp2_with fail
      refine (cL.out _).mono ?_
      rintro e w1 ⟨rfl, hb1⟩
      have HT1 := hide (HT.out.below hb1)
      have HB1 := hide hb1
      clear hb1
      go_wp2_with fail
      refine (c1.out _ HT1.out).mono ?_
      rintro e w2 ⟨rfl, rfl⟩
      first
        | (go_wp2_with fail
           go_ret
           exact ⟨_, rfl, HB1.out⟩)
        | (go_wp2_with fail
           refine (c2.out _ HT1.out).mono ?_
           rintro e w3 ⟨rfl, rfl⟩
           go_wp2_with fail
           go_ret
           exact ⟨_, rfl, HB1.out⟩)
        | (go_wp2_with fail
           refine (c2.out _ HT1.out).mono ?_
           rintro e w3 ⟨rfl, rfl⟩
           obtain ⟨cap, W1, hcv, hrow, hbel, hlt, hcap⟩ := conv_bytes w3 ⟨t.toArray⟩
           have cF := hide (containsFuncB 218 #[] (enters_of Tryz.func218 (by kernel_rfl) rfl) cssB css_pays t w3.heap.size t.length cap W1 (by simpa using hrow) rfl (by omega))
           have hBB := hide (HB1.out.trans (hbel.mono HB1.out.size))
           rw [htz] at hcv
           clear hrow hbel hcap hlt
           go_wp2_with fail
           refine (cF.out).mono ?_
           rintro e w4 ⟨rfl, rfl⟩
           go_wp2_with fail
           go_ret
           exact ⟨_, rfl, hBB.out⟩)
set_option maxHeartbeats 1000000 in
set_option maxRecDepth 100000 in
theorem cssFilter_any (l : List UInt8) (w : World) (hT : LenO w) : Calls Tryz.prog 137 #[.string ⟨l.toArray⟩] w fun e w' => ∃ t : List UInt8, e = .returned (.string ⟨t.toArray⟩) ∧ t.length ≤ l.length + 8 ∧ Below w.heap.size w w' := by
  have cP := hide (cssPlain_any ⟨l.toArray⟩ w hT)
  clear hT
  go_enter Tryz.func137, Tryz.ntmps137
  go_wp2_with fail
  refine (cP.out).mono ?_
  rintro e w1 ⟨b, rfl, hb1⟩
  have HB := hide hb1
  clear hb1
  cases b with
  | true =>
    go_wp2_with fail
    go_ret
    exact ⟨l, rfl, by omega, HB.out⟩
  | false =>
    go_wp2_with fail
    go_ret
    exact ⟨[90, 103, 111, 116, 109, 112, 108, 90], rfl, by simp, HB.out⟩
end Go.Proofs.YtnepogddjinpoaaGreatDoor

namespace Go.Proofs.YtnepogddjinpoaaGreatDoor
open Go.RowKit
set_option linter.unusedVariables false
set_option linter.unusedSimpArgs false

/-- A builder at block b, its buffer in a block from G on. -/
def AtG (T : TypeId) (G b : Nat) (p : Value) (bs : List Value) (w : World) : Prop :=
  b < G ∧ G ≤ w.heap.size ∧ ∃ v, Blk w b T #[p, v] ∧ w.ownsRow G 5 1 v bs.length bs
def IsG (T : TypeId) (G b : Nat) (l : List UInt8) (w : World) : Prop := AtG T G b (.pointer none) (Lib.byteCells l) w ∨ AtG T G b (.pointer (some ⟨b, 0, none⟩)) (Lib.byteCells l) w
/-- What a step leaves: all below G but the builder's block. -/
def KeepG (G b : Nat) (w w' : World) : Prop := ∀ a : World, a.heap.size = G → Chg [b] a w → Chg [b] a w'
theorem ownG_lt {w : World} {G n : Nat} {e : TypeId} {v : Value} {xs : List Value} (h : w.ownsRow G e 1 v n xs) {k : Nat} (hk : v.ownBlock = some k) : G ≤ k := (h.lt k hk).1
theorem isG_new (T : TypeId) {G b : Nat} {w : World} (hb : b < G) (hG : G ≤ w.heap.size) (h : Blk w b T #[.pointer none, .slice none 0 0]) : IsG T G b [] w :=
  .inl ⟨hb, hG, _, h, by simpa [Lib.byteCells] using World.ownsRow_nil _ _ _ _⟩
theorem isG_bt {T : TypeId} {G b : Nat} {l : List UInt8} {w : World} (h : IsG T G b l w) : IsBT T b b l w := by
  have key : ∀ p, AtG T G b p (Lib.byteCells l) w → Lib.BuilderAt T 5 b b p (Lib.byteCells l) w := by
    rintro p ⟨h1, h2, v, h3, h4⟩
    refine ⟨Nat.le_refl _, v, h3, ?_, fun e => by have := ownG_lt h4 e; omega⟩
    rcases h4.2 with h5 | ⟨g, cap, cur, h5, h6, h7⟩
    · exact ⟨h4.1, .inl h5⟩
    · exact ⟨h4.1, .inr ⟨g, cap, cur, h5, by omega, h7⟩⟩
  rcases h with h | h
  · exact .inl (key _ h)
  · exact .inr (key _ h)
theorem btG_copyCheck {T : TypeId} (hT : BT T) (G b : Nat) (l : List UInt8) (w : World) (h : IsG T G b l w) :
    Calls Tryz.prog 166 #[.pointer (some ⟨b, 0, none⟩)] w fun e w' => e = .returned (.tuple #[]) ∧ AtG T G b (.pointer (some ⟨b, 0, none⟩)) (Lib.byteCells l) w' ∧ KeepG G b w w' := by
  rcases h with ⟨h1, h2, v, h3, h4⟩ | ⟨h1, h2, v, h3, h4⟩
  · have c0 := h3.cell 0
    simp at c0
    refine (bt_copyCheck_fresh hT b w c0 (by unfold World.shape?; rw [show w.heap[b]? = _ from h3]; rfl) (h3.frozen 0)).mono ?_
    rintro e w' ⟨rfl, rfl⟩
    have hc : Chg [b] w (w.setCell ⟨b, 0, none⟩ (.pointer (some ⟨b, 0, none⟩))) := (Chg.refl _ _).set_ _ _ (.inl (by simp))
    refine ⟨rfl, ⟨h1, by simpa using h2, v, ?_, own_chg h4 hc (fun k hk hm => ?_)⟩, fun a ha hc2 => hc2.trans hc (by intro x hx; exact .inl hx)⟩
    · have := h3.set_ 0 (.pointer (some ⟨b, 0, none⟩))
      simpa using this
    · have := ownG_lt h4 hk
      simp at hm
      omega
  · have c0 := h3.cell 0
    simp at c0
    refine (bt_copyCheck_used hT b w c0).mono ?_
    rintro e w' ⟨rfl, rfl⟩
    exact ⟨rfl, ⟨h1, h2, v, h3, h4⟩, fun a ha hc => hc⟩
set_option maxHeartbeats 2000000 in
set_option maxRecDepth 100000 in
theorem btG_byte {T : TypeId} (hT : BT T) (G b : Nat) (l : List UInt8) (c : UInt8) (w : World) (h : IsG T G b l w) (hlen : l.length + 1 ≤ 140737488355328) :
    Calls Tryz.prog 127 #[.pointer (some ⟨b, 0, none⟩), .int .u8 (c.toNat : Int)] w fun e w' => e = .returned .nilIface ∧ IsG T G b (l ++ [c]) w' ∧ KeepG G b w w' := by
  obtain ⟨i0, hi, hz0, hz1, hz2⟩ := info_parts infoByte
  have hl : (Lib.byteCells l).length = l.length := Lib.byteCells_length l
  have HC := hide (fun W (h : IsG T G b l W) => btG_copyCheck hT G b l W h)
  have H := hide h
  clear h
  go_enter Tryz.func127, Tryz.ntmps127
  go_wp2_with (go_at_call 166; refine (HC.out _ H.out).mono ?_)
  rintro e w1 ⟨rfl, ⟨hbG, hG, v, hbk, hown⟩, hK⟩
  have c0 := hbk.cell 0
  have c1 := hbk.cell 1
  simp at c0 c1
  have lb := hbk.lt
  have HB := hide hbk
  have HK := hide hK
  clear hK hbk
  go_wp2_with (at_builtin; refine wpList_append_own _ rfl _ _ 119 rfl G 5 i0 (.int .u8 0) 1 1 Tryz.underlying119 hi hz0 hz1 hz2 rfl (by decide) _ _ _ rfl (hown.alloc _) ⟨w1.heap.size, 0, none⟩ 1 1 [.int .u8 (c.toNat : Int)] rfl rfl ?c1 ?c2 ?c3 ?c4 ?c5 ?_)
  case c1 =>
    intro j u hj
    match j, hj with
    | 0, hj => simp at hj; subst hj; simp [Addr.add]
  case c2 => intro u hu; simp at hu; subst hu; rfl
  case c3 => unfold maxLen; omega
  case c4 => omega
  case c5 => simp; omega
  intro v' w2 hown' hgrow _
  have hne : some b ≠ v.ownBlock := fun e => by have := ownG_lt hown e.symm; omega
  have hb2 : Blk w2 b T #[.pointer (some ⟨b, 0, none⟩), v] := (HB.out.alloc _).grown hgrow hne
  have hC2 : Chg v.ownBlock.toList w1 w2 := ((Chg.refl _ w1).alloc _).grown hgrow (fun k hk => .inl (by rw [hk]; simp))
  have d0 := hb2.cell 0
  have d1 := hb2.cell 1
  have f1 := hb2.frozen 1
  have l2 := hb2.lt
  simp at d0 d1
  obtain ⟨g, cap, rfl⟩ : ∃ g cap, v' = .slice (some ⟨g, 0, none⟩) (l.length + 1) cap := by
    rcases hown'.2 with ⟨_, h0⟩ | ⟨g, cap, cur, hv, _⟩
    · omega
    · exact ⟨g, cap, hv⟩
  have HO := hide hown
  have HO2 := hide hown'
  have HB2 := hide hb2
  have HC2 := hide hC2
  clear hown hown' hb2 hC2 hgrow hne
  go_wp2
  go_ret
  have hs : Chg [b] w2 (w2.setCell ⟨b, 1, none⟩ (.slice (some ⟨g, 0, none⟩) (l.length + 1) cap)) := (Chg.refl _ _).set_ _ _ (.inl (by simp))
  refine ⟨rfl, .inr ⟨hbG, by have := HC2.out.size; simp; omega, _, by have := HB2.out.set_ 1 (.slice (some ⟨g, 0, none⟩) (l.length + 1) cap); simpa using this, ?_⟩, ?_⟩
  · have e : Lib.byteCells (l ++ [c]) = Lib.byteCells l ++ [.int .u8 (c.toNat : Int)] := by simp [Lib.byteCells]
    rw [e]
    have := own_chg HO2.out hs (fun k hk hm => by have := ownG_lt HO2.out hk; simp at hm; omega)
    rw [List.length_append, hl]
    exact this
  · intro a ha hc
    refine ((HK.out a ha hc).trans HC2.out (fun x hx => ?_)).trans hs (fun x hx => .inl hx)
    exact .inr (by have := ownG_lt HO.out (Option.mem_toList.1 hx); omega)
set_option maxHeartbeats 2000000 in
set_option maxRecDepth 100000 in
theorem btG_str {T : TypeId} (hT : BT T) (G b : Nat) (l m : List UInt8) (w : World) (h : IsG T G b l w) (hlen : l.length + m.length ≤ 140737488355328) :
    Calls Tryz.prog 126 #[.pointer (some ⟨b, 0, none⟩), .string ⟨m.toArray⟩] w fun e w' => (∃ v, e = .returned v) ∧ IsG T G b (l ++ m) w' ∧ KeepG G b w w' := by
  obtain ⟨i0, hi, hz0, hz1, hz2⟩ := info_parts infoByte
  have hl : (Lib.byteCells l).length = l.length := Lib.byteCells_length l
  have hml : (⟨m.toArray⟩ : ByteArray).size = m.length := by simp [ByteArray.size]
  have HC := hide (fun W (h : IsG T G b l W) => btG_copyCheck hT G b l W h)
  have H := hide h
  have he : Lib.byteCells (l ++ m) = Lib.byteCells l ++ Lib.strCells ⟨m.toArray⟩ := by simp [Lib.byteCells, Lib.strCells]
  have HE := hide he
  clear h he
  obtain ⟨M, hM⟩ : ∃ M : ByteArray, (⟨m.toArray⟩ : ByteArray) = M := ⟨_, rfl⟩
  rw [hM] at hml HE ⊢
  clear hM
  go_enter Tryz.func126, Tryz.ntmps126
  go_wp2_with (go_at_call 166; refine (HC.out _ H.out).mono ?_)
  rintro e w1 ⟨rfl, ⟨hbG, hG, v, hbk, hown⟩, hK⟩
  have c0 := hbk.cell 0
  have c1 := hbk.cell 1
  simp at c0 c1
  have lb := hbk.lt
  have HB := hide hbk
  have HK := hide hK
  clear hK hbk
  go_wp2_with (at_builtin; refine Lib.wpList_append_own_string _ rfl _ _ 119 9 rfl G 5 i0 Tryz.underlying119 Tryz.underlying9 hi hz0 hz1 hz2 _ _ _ rfl hown M rfl ?c3 ?c4 ?c5 ?_)
  case c3 => unfold maxLen; omega
  case c4 => omega
  case c5 => omega
  intro v' w2 hown' hgrow _
  have hne : some b ≠ v.ownBlock := fun e => by have := ownG_lt hown e.symm; omega
  have hb2 : Blk w2 b T #[.pointer (some ⟨b, 0, none⟩), v] := HB.out.grown hgrow hne
  have hC2 : Chg v.ownBlock.toList w1 w2 := (Chg.refl _ w1).grown hgrow (fun k hk => .inl (by rw [hk]; simp))
  have d0 := hb2.cell 0
  have d1 := hb2.cell 1
  have f1 := hb2.frozen 1
  have l2 := hb2.lt
  simp at d0 d1
  obtain ⟨ao, n', cap, rfl⟩ : ∃ ao n' cap, v' = .slice ao n' cap := by
    rcases hown'.2 with ⟨hv, _⟩ | ⟨g, cap, cur, hv, _⟩
    · exact ⟨_, _, _, hv⟩
    · exact ⟨_, _, _, hv⟩
  have HO := hide hown
  have HO2 := hide hown'
  have HB2 := hide hb2
  have HC2 := hide hC2
  clear hown hown' hb2 hC2 hgrow hne
  go_wp2
  go_ret2
  have hs : Chg [b] w2 (w2.setCell ⟨b, 1, none⟩ (.slice ao n' cap)) := (Chg.refl _ _).set_ _ _ (.inl (by simp))
  refine ⟨⟨_, rfl⟩, .inr ⟨hbG, by have := HC2.out.size; simp; omega, _, by have := HB2.out.set_ 1 (.slice ao n' cap); simpa using this, ?_⟩, ?_⟩
  · rw [HE.out]
    have := own_chg HO2.out hs (fun k hk hm => by have := ownG_lt HO2.out hk; simp at hm; omega)
    rw [List.length_append, Lib.strCells_length, hl]
    first | exact this | (rw [hml]; exact this) | (rw [← hml] at this; exact this)
  · intro a ha hc
    refine ((HK.out a ha hc).trans HC2.out (fun x hx => ?_)).trans hs (fun x hx => .inl hx)
    exact .inr (by have := ownG_lt HO.out (Option.mem_toList.1 hx); omega)
end Go.Proofs.YtnepogddjinpoaaGreatDoor

namespace Go.Proofs.YtnepogddjinpoaaGreatDoor
open Go.RowKit
set_option linter.unusedVariables false
set_option linter.unusedSimpArgs false

def escB (c : UInt8) : List UInt8 :=
  if c = 38 then [38, 97, 109, 112, 59]
  else if c = 60 then [38, 108, 116, 59]
  else if c = 62 then [38, 103, 116, 59]
  else if c = 34 then [38, 35, 51, 52, 59]
  else if c = 39 then [38, 35, 51, 57, 59]
  else if c = 43 then [38, 35, 52, 51, 59]
  else [c]
def escF (l : List UInt8) : List UInt8 := l.flatMap escB
theorem escB_len (c : UInt8) : (escB c).length ≤ 5 := by
  unfold escB
  repeat' split
  all_goals simp
theorem escF_len (l : List UInt8) : (escF l).length ≤ 5 * l.length := by
  induction l with
  | nil => simp [escF]
  | cons c l ih =>
    have h := escB_len c
    show (escB c ++ escF l).length ≤ 5 * (l.length + 1)
    rw [List.length_append]
    omega
theorem escF_snoc (l : List UInt8) (c : UInt8) : escF (l ++ [c]) = escF l ++ escB c := by simp [escF]
set_option maxHeartbeats 2000000 in
set_option maxRecDepth 100000 in
theorem escape_any (l : List UInt8) (w : World) (hz : l.length ≤ 100000000) (hT : Lib.Utf8Tabs 1 2 w) :
    Calls Tryz.prog 106 #[.string ⟨l.toArray⟩] w fun e w' => e = .returned (.string ⟨(escF (repairR l)).toArray⟩) ∧ Below w.heap.size w w' := by
  have hrl := repairR_len l
  have cR := hide (fun W (hb : Below w.heap.size w W) => utfRepair_any l W (by omega) (Utf8Tabs_below hT hb))
  obtain ⟨r, hr⟩ : ∃ r, repairR l = r := ⟨_, rfl⟩
  rw [hr] at hrl ⊢
  simp only [hr] at cR
  have hrz : r.length ≤ 400000000 := by omega
  have hsz : (⟨r.toArray⟩ : ByteArray).size = r.length := by simp [ByteArray.size]
  clear hr hrl hT hz
  go_enter Tryz.func106, Tryz.ntmps106
  go_wp2_with fail
  refine name_world fun W hW => ?_
  have C1 : Chg [] w W := by subst hW; (repeat' (first | with_reducible exact Chg.refl _ _ | with_reducible refine Chg.alloc ?_ _ | with_reducible refine Chg.drew ?_ | with_reducible refine Chg.drewN ?_ _ | with_reducible refine Chg.set_ ?_ _ _ (by first | (simp; done) | (simp; omega) | omega)))
  have K1 : Blk W w.heap.size 184 #[.pointer none, .slice none 0 0] := by subst hW; (repeat' (first | with_reducible exact Blk.new_ (by first | rfl | (simp; done) | (simp; omega)) | with_reducible refine Blk.alloc_ ?_ | with_reducible refine Blk.drew ?_ | with_reducible refine Blk.drewN ?_ _ | with_reducible refine Blk.far_ ?_ (by first | (simp; done) | (simp; omega) | omega) | with_reducible apply Blk.set_eq | rfl))
  clear hW
  refine (cR.out W C1.bel).mono ?_
  rintro e w1 ⟨rfl, hb1⟩
  have C2 := C1.trans (Chg.of_below (S := []) hb1) (by simp)
  have K2 := K1.chg (Chg.of_below (S := []) hb1) (by simp)
  obtain ⟨cap, W1, hcv, hrow, hbel, hlt, hcap⟩ := conv_bytes w1 ⟨r.toArray⟩
  have C3 := hide (C2.trans (Chg.of_below (S := []) hbel) (by simp))
  have K3 := K2.chg (Chg.of_below (S := []) hbel) (by simp)
  have hbg : w.heap.size < w1.heap.size := K2.lt
  have HG0 := hide (isG_new 184 (G := W1.heap.size) (by omega) (Nat.le_refl _) K3)
  have HROW := hide hrow
  rw [hsz] at hcv
  obtain ⟨G, hG⟩ : ∃ G, G = W1.heap.size := ⟨_, rfl⟩
  rw [← hG] at HG0
  have HGE := hide hG
  clear hb1 C1 C2 K1 K2 K3 hrow hbel hcap hG
  go_wp2_with fail
  go_loopw [10] (fun iv wr => ∃ (k : Nat) (ys : List UInt8), iv = .int .i64 (k : Int) ∧ k ≤ r.length ∧ ys.length ≤ 5 * k ∧ Hid (ys = escF (r.take k)) ∧ Hid (IsG 184 G w.heap.size ys wr) ∧ Hid (Chg [w.heap.size] W1 wr)) (fun iv _ => r.length - (intOf iv).toNat)
  case atStart => exact ⟨0, [], rfl, Nat.zero_le _, Nat.le_refl _, hide rfl, HG0, hide (Chg.refl _ _)⟩
  case round =>
    obtain ⟨k, ys, rfl, hk, hyl, hys, hI, hC⟩ := hrel
    clear HG0 hcv
    by_cases hlt2 : k < r.length
    · obtain ⟨c, hc⟩ : ∃ c, r[k]? = some c := ⟨_, List.getElem?_eq_getElem hlt2⟩
      have f0 : wr.cell? ⟨w1.heap.size, k, none⟩ = some (.int .u8 (c.toNat : Int)) := by
        have h1 := HROW.out.cell (j := k) (c := c) (by simpa using hc)
        exact (cellB (hC.out.block w1.heap.size hlt (by simp; omega)) _).trans h1
      have hgw := Nat.lt_of_lt_of_le hlt hC.out.size
      have hnx : ∀ m, escB c = m → Hid (ys ++ m = escF (r.take (k + 1))) := fun m hm => hide (by rw [hys.out, List.take_add_one, hc]; simp only [Option.toList_some]; rw [escF_snoc, hm])
      have hki : (k : Int) < (r.length : Int) := by omega
      have hk9 : k < 400000000 := by omega
      have cS := hide (fun m (hm : m.length ≤ 5) => btG_str btBuilder G w.heap.size ys m wr hI.out (by omega))
      have cB := hide (btG_byte btBuilder G w.heap.size ys c wr hI.out (by omega))
      have HLT := hide hlt2
      clear hc hlt2
      by_cases h38 : c = 38
      · subst h38
        have e38 : ((((38 : UInt8).toNat : Nat) : Int)) = 38 := by decide
        rw [e38] at f0
        have hn := hnx [38, 97, 109, 112, 59] (by decide)
        clear hnx cB
        go_wp2_with fail
        refine (cS.out [38, 97, 109, 112, 59] (by decide)).mono ?_
        rintro e w3 ⟨⟨v, rfl⟩, hI3, hK3⟩
        have HI3 := hide hI3
        have HC3 := hide (hK3 W1 HGE.out.symm hC.out)
        clear hI3 hK3
        have hlt2 := HLT.out
        go_wp2_with fail
        go_roundw
        case rel => exact ⟨k + 1, ys ++ [38, 97, 109, 112, 59], by go_num, by omega, by simp; omega, hn, HI3, HC3⟩
        case measure => simp [intOf]; omega
      have n38 : (((c.toNat : Nat) : Int) == 38) = false := by rw [beq_eq_false_iff_ne]; intro h; exact h38 (UInt8.toNat_inj.1 (by have e : (38 : UInt8).toNat = 38 := rfl; omega))
      by_cases h60 : c = 60
      · subst h60
        have e60 : ((((60 : UInt8).toNat : Nat) : Int)) = 60 := by decide
        rw [e60] at f0
        have hn := hnx [38, 108, 116, 59] (by decide)
        clear hnx cB
        go_wp2_with fail
        refine (cS.out [38, 108, 116, 59] (by decide)).mono ?_
        rintro e w3 ⟨⟨v, rfl⟩, hI3, hK3⟩
        have HI3 := hide hI3
        have HC3 := hide (hK3 W1 HGE.out.symm hC.out)
        clear hI3 hK3
        have hlt2 := HLT.out
        go_wp2_with fail
        go_roundw
        case rel => exact ⟨k + 1, ys ++ [38, 108, 116, 59], by go_num, by omega, by simp; omega, hn, HI3, HC3⟩
        case measure => simp [intOf]; omega
      have n60 : (((c.toNat : Nat) : Int) == 60) = false := by rw [beq_eq_false_iff_ne]; intro h; exact h60 (UInt8.toNat_inj.1 (by have e : (60 : UInt8).toNat = 60 := rfl; omega))
      by_cases h62 : c = 62
      · subst h62
        have e62 : ((((62 : UInt8).toNat : Nat) : Int)) = 62 := by decide
        rw [e62] at f0
        have hn := hnx [38, 103, 116, 59] (by decide)
        clear hnx cB
        go_wp2_with fail
        refine (cS.out [38, 103, 116, 59] (by decide)).mono ?_
        rintro e w3 ⟨⟨v, rfl⟩, hI3, hK3⟩
        have HI3 := hide hI3
        have HC3 := hide (hK3 W1 HGE.out.symm hC.out)
        clear hI3 hK3
        have hlt2 := HLT.out
        go_wp2_with fail
        go_roundw
        case rel => exact ⟨k + 1, ys ++ [38, 103, 116, 59], by go_num, by omega, by simp; omega, hn, HI3, HC3⟩
        case measure => simp [intOf]; omega
      have n62 : (((c.toNat : Nat) : Int) == 62) = false := by rw [beq_eq_false_iff_ne]; intro h; exact h62 (UInt8.toNat_inj.1 (by have e : (62 : UInt8).toNat = 62 := rfl; omega))
      by_cases h34 : c = 34
      · subst h34
        have e34 : ((((34 : UInt8).toNat : Nat) : Int)) = 34 := by decide
        rw [e34] at f0
        have hn := hnx [38, 35, 51, 52, 59] (by decide)
        clear hnx cB
        go_wp2_with fail
        refine (cS.out [38, 35, 51, 52, 59] (by decide)).mono ?_
        rintro e w3 ⟨⟨v, rfl⟩, hI3, hK3⟩
        have HI3 := hide hI3
        have HC3 := hide (hK3 W1 HGE.out.symm hC.out)
        clear hI3 hK3
        have hlt2 := HLT.out
        go_wp2_with fail
        go_roundw
        case rel => exact ⟨k + 1, ys ++ [38, 35, 51, 52, 59], by go_num, by omega, by simp; omega, hn, HI3, HC3⟩
        case measure => simp [intOf]; omega
      have n34 : (((c.toNat : Nat) : Int) == 34) = false := by rw [beq_eq_false_iff_ne]; intro h; exact h34 (UInt8.toNat_inj.1 (by have e : (34 : UInt8).toNat = 34 := rfl; omega))
      by_cases h39 : c = 39
      · subst h39
        have e39 : ((((39 : UInt8).toNat : Nat) : Int)) = 39 := by decide
        rw [e39] at f0
        have hn := hnx [38, 35, 51, 57, 59] (by decide)
        clear hnx cB
        go_wp2_with fail
        refine (cS.out [38, 35, 51, 57, 59] (by decide)).mono ?_
        rintro e w3 ⟨⟨v, rfl⟩, hI3, hK3⟩
        have HI3 := hide hI3
        have HC3 := hide (hK3 W1 HGE.out.symm hC.out)
        clear hI3 hK3
        have hlt2 := HLT.out
        go_wp2_with fail
        go_roundw
        case rel => exact ⟨k + 1, ys ++ [38, 35, 51, 57, 59], by go_num, by omega, by simp; omega, hn, HI3, HC3⟩
        case measure => simp [intOf]; omega
      have n39 : (((c.toNat : Nat) : Int) == 39) = false := by rw [beq_eq_false_iff_ne]; intro h; exact h39 (UInt8.toNat_inj.1 (by have e : (39 : UInt8).toNat = 39 := rfl; omega))
      by_cases h43 : c = 43
      · subst h43
        have e43 : ((((43 : UInt8).toNat : Nat) : Int)) = 43 := by decide
        rw [e43] at f0
        have hn := hnx [38, 35, 52, 51, 59] (by decide)
        clear hnx cB
        go_wp2_with fail
        refine (cS.out [38, 35, 52, 51, 59] (by decide)).mono ?_
        rintro e w3 ⟨⟨v, rfl⟩, hI3, hK3⟩
        have HI3 := hide hI3
        have HC3 := hide (hK3 W1 HGE.out.symm hC.out)
        clear hI3 hK3
        have hlt2 := HLT.out
        go_wp2_with fail
        go_roundw
        case rel => exact ⟨k + 1, ys ++ [38, 35, 52, 51, 59], by go_num, by omega, by simp; omega, hn, HI3, HC3⟩
        case measure => simp [intOf]; omega
      have n43 : (((c.toNat : Nat) : Int) == 43) = false := by rw [beq_eq_false_iff_ne]; intro h; exact h43 (UInt8.toNat_inj.1 (by have e : (43 : UInt8).toNat = 43 := rfl; omega))
      have hn := hnx [c] (by unfold escB; rw [if_neg h38]; rw [if_neg h60]; rw [if_neg h62]; rw [if_neg h34]; rw [if_neg h39]; rw [if_neg h43])
      clear hnx cS h38 h60 h62 h34 h39 h43
      go_wp2_with fail
      refine (cB.out).mono ?_
      rintro e w3 ⟨rfl, hI3, hK3⟩
      have HI3 := hide hI3
      have HC3 := hide (hK3 W1 HGE.out.symm hC.out)
      clear hI3 hK3
      have hlt2 := HLT.out
      go_wp2_with fail
      go_roundw
      case rel => exact ⟨k + 1, ys ++ [c], by go_num, by omega, by simp; omega, hn, HI3, HC3⟩
      case measure => simp [intOf]; omega
    · obtain rfl : k = r.length := by omega
      have hif : decide ((r.length : Int) < (r.length : Int)) = false := by simp
      have hye : ys = escF r := by rw [hys.out, List.take_length]
      subst hye
      have hBel : Below w.heap.size w wr := ((C3.out.mono (S' := [w.heap.size]) (by simp)).trans (hC.out) (by simp) |>.mono (S' := []) (by intro x hx; simp at hx; subst hx; exact .inr (Nat.le_refl _))).bel
      have HBel := hide hBel
      have cT := hide (btString w.heap.size w.heap.size (escF r) wr (isG_bt hI.out) hBel.size)
      clear hys hlt2 hk hBel
      go_wp2_with fail
      refine cT.out.mono ?_
      rintro e w3 ⟨rfl, hb4⟩
      go_wp2_with fail
      go_ret
      exact ⟨rfl, HBel.out.trans hb4⟩
end Go.Proofs.YtnepogddjinpoaaGreatDoor

namespace Go.Proofs.YtnepogddjinpoaaGreatDoor
open Go.RowKit
set_option linter.unusedVariables false
set_option linter.unusedSimpArgs false

/-- The variables that the filters read. -/
def Vars (w : World) : Prop := Lib.Utf8Tabs 1 2 w ∧ LenO w
theorem Vars.below {w w' : World} (h : Vars w) (hb : Below w.heap.size w w') : Vars w' := ⟨Utf8Tabs_below h.1 hb, h.2.below hb⟩
theorem esc_cutF (q : List UInt8) : (⟨(34 :: (q ++ [34])).toArray⟩ : ByteArray).extract 1 (q.length + 1) = ⟨q.toArray⟩ := by
  rw [Lib.extract_mk]
  simp
set_option maxHeartbeats 1000000 in
theorem ogJs (l : List UInt8) (w : World) (hz : l.length ≤ 1000000000) (hT : Lib.Utf8Tabs 1 2 w) :
    Calls Tryz.prog 136 #[.string ⟨l.toArray⟩] w fun e w' => e = .returned (.string ⟨(escR l).toArray⟩) ∧ Below w.heap.size w w' := by
  have hl := escR_len l
  have cQ := hide (quote_any l w hz hT)
  generalize escR l = q at cQ hl ⊢
  have hx := esc_cutF q
  have hqi : (q.length : Int) ≤ 12000000000 := by omega
  have hsz : (34 :: (q ++ [34])).length = q.length + 2 := by simp
  have hsi : ((34 :: (q ++ [34])).length : Int) = (q.length : Int) + 2 := by omega
  generalize (34 :: (q ++ [34])) = r at cQ hx hsz hsi
  go_enter Tryz.func136, Tryz.ntmps136
  go_wp2_with fail
  refine (cQ.out).mono ?_
  rintro e w1 ⟨rfl, hb1⟩
  go_wp2_with fail
  go_ret
  exact ⟨by show Ending.returned (.string (ByteArray.extract ⟨r.toArray⟩ 1 (q.length + 2 - 1))) = _; rw [show q.length + 2 - 1 = q.length + 1 by omega, hx], hb1⟩
/-- A text, and how long it is at most. -/
def Some (w : World) (n : Nat) (e : Ending) (w' : World) : Prop := ∃ t : List UInt8, e = .returned (.string ⟨t.toArray⟩) ∧ t.length ≤ n ∧ Below w.heap.size w w'
theorem filterB_len (l : List UInt8) : (filterB l).length ≤ 12 * l.length + 9 := by
  unfold filterB
  split
  · have h : markerL.length ≤ 9 := by decide
    omega
  · have h1 := pctR_len true (repairR l)
    have h2 := repairR_len l
    omega
theorem sEsc (l : List UInt8) (n : Nat) (hl : l.length ≤ n) (hn : n ≤ 100000000) (w : World) (hV : Vars w) : Calls Tryz.prog 106 #[.string ⟨l.toArray⟩] w (Some w (20 * n)) :=
  (escape_any l w (by omega) hV.1).mono fun e w' ⟨h1, h2⟩ => ⟨_, h1, by have h3 := escF_len (repairR l); have h4 := repairR_len l; omega, h2⟩
theorem sFil (l : List UInt8) (n : Nat) (hl : l.length ≤ n) (hn : n ≤ 100000000) (w : World) (hV : Vars w) : Calls Tryz.prog 133 #[.string ⟨l.toArray⟩] w (Some w (12 * n + 9)) :=
  (filter_any l w (by omega) hV.1).mono fun e w' ⟨h1, h2⟩ => ⟨_, h1, by have h3 := filterB_len l; omega, h2⟩
theorem sNor (l : List UInt8) (n : Nat) (hl : l.length ≤ n) (hn : n ≤ 100000000) (w : World) (hV : Vars w) : Calls Tryz.prog 134 #[.string ⟨l.toArray⟩] w (Some w (12 * n)) :=
  (normal_any l w (by omega) hV.1).mono fun e w' ⟨h1, h2⟩ => ⟨_, h1, by have h3 := pctR_len true (repairR l); have h4 := repairR_len l; omega, h2⟩
theorem sEnc (l : List UInt8) (n : Nat) (hl : l.length ≤ n) (hn : n ≤ 100000000) (w : World) (hV : Vars w) : Calls Tryz.prog 135 #[.string ⟨l.toArray⟩] w (Some w (12 * n)) :=
  (encode_any l w (by omega) hV.1).mono fun e w' ⟨h1, h2⟩ => ⟨_, h1, by have h3 := pctR_len false (repairR l); have h4 := repairR_len l; omega, h2⟩
theorem sJs (l : List UInt8) (n : Nat) (hl : l.length ≤ n) (hn : n ≤ 100000000) (w : World) (hV : Vars w) : Calls Tryz.prog 136 #[.string ⟨l.toArray⟩] w (Some w (12 * n)) :=
  (ogJs l w (by omega) hV.1).mono fun e w' ⟨h1, h2⟩ => ⟨_, h1, by have h3 := escR_len l; omega, h2⟩
theorem sCss (l : List UInt8) (n : Nat) (hl : l.length ≤ n) (hn : n ≤ 100000000) (w : World) (hV : Vars w) : Calls Tryz.prog 137 #[.string ⟨l.toArray⟩] w (Some w (n + 8)) :=
  (cssFilter_any l w hV.2).mono fun e w' ⟨t, h1, h2, h3⟩ => ⟨t, h1, by omega, h3⟩
set_option maxHeartbeats 1000000 in
set_option maxRecDepth 100000 in
theorem ogPlain1 (l : List UInt8) (hl : l.length ≤ 4096) (w : World) (hV : Vars w) : Calls Tryz.prog 108 #[.int .i64 1, .string ⟨l.toArray⟩] w (Some w 1000000) := by
  have c1 := hide (sEsc l 4096 hl (by decide) w hV)
  have HV := hide hV
  clear hV hl
  go_enter Tryz.func108, Tryz.ntmps108
  go_wp2_with fail
  refine c1.out.mono ?_
  rintro e w1 ⟨t1, rfl, hl1, hb1⟩
  have HL := hide hl1
  have HB := hide hb1
  clear hl1 hb1
  go_wp2_with fail
  go_ret
  exact ⟨t1, rfl, by have := HL.out; omega, HB.out⟩
set_option maxHeartbeats 1000000 in
set_option maxRecDepth 100000 in
theorem ogPlain2 (l : List UInt8) (hl : l.length ≤ 4096) (w : World) (hV : Vars w) : Calls Tryz.prog 108 #[.int .i64 2, .string ⟨l.toArray⟩] w (Some w 1000000) := by
  have c1 := hide (sEsc l 4096 hl (by decide) w hV)
  have HV := hide hV
  clear hV hl
  go_enter Tryz.func108, Tryz.ntmps108
  go_wp2_with fail
  refine c1.out.mono ?_
  rintro e w1 ⟨t1, rfl, hl1, hb1⟩
  have HL := hide hl1
  have HB := hide hb1
  clear hl1 hb1
  go_wp2_with fail
  go_ret
  exact ⟨t1, rfl, by have := HL.out; omega, HB.out⟩
set_option maxHeartbeats 1000000 in
set_option maxRecDepth 100000 in
theorem ogPlain3 (l : List UInt8) (hl : l.length ≤ 4096) (w : World) (hV : Vars w) : Calls Tryz.prog 108 #[.int .i64 3, .string ⟨l.toArray⟩] w (Some w 1000000) := by
  have c1 := hide (sEsc l 4096 hl (by decide) w hV)
  have HV := hide hV
  clear hV hl
  go_enter Tryz.func108, Tryz.ntmps108
  go_wp2_with fail
  refine c1.out.mono ?_
  rintro e w1 ⟨t1, rfl, hl1, hb1⟩
  have HL := hide hl1
  have HB := hide hb1
  clear hl1 hb1
  go_wp2_with fail
  go_ret
  exact ⟨t1, rfl, by have := HL.out; omega, HB.out⟩
set_option maxHeartbeats 1000000 in
set_option maxRecDepth 100000 in
theorem ogPlain4 (l : List UInt8) (hl : l.length ≤ 4096) (w : World) (hV : Vars w) : Calls Tryz.prog 108 #[.int .i64 4, .string ⟨l.toArray⟩] w (Some w 1000000) := by
  have c1 := hide (sFil l 4096 hl (by decide) w hV)
  have HV := hide hV
  clear hV hl
  go_enter Tryz.func108, Tryz.ntmps108
  go_wp2_with fail
  refine c1.out.mono ?_
  rintro e w1 ⟨t1, rfl, hl1, hb1⟩
  have c2 := hide (sEsc t1 49161 (by omega) (by decide) w1 (HV.out.below hb1))
  have HB := hide hb1
  clear hl1 hb1 c1
  go_wp2_with fail
  refine c2.out.mono ?_
  rintro e w2 ⟨t2, rfl, hl2, hb2⟩
  have HL := hide hl2
  have HB2 := hide (HB.out.trans (hb2.mono HB.out.size))
  clear hl2 hb2
  go_wp2_with fail
  go_ret
  exact ⟨t2, rfl, by have := HL.out; omega, HB2.out⟩
set_option maxHeartbeats 1000000 in
set_option maxRecDepth 100000 in
theorem ogPlain5 (l : List UInt8) (hl : l.length ≤ 4096) (w : World) (hV : Vars w) : Calls Tryz.prog 108 #[.int .i64 5, .string ⟨l.toArray⟩] w (Some w 1000000) := by
  have c1 := hide (sNor l 4096 hl (by decide) w hV)
  have HV := hide hV
  clear hV hl
  go_enter Tryz.func108, Tryz.ntmps108
  go_wp2_with fail
  refine c1.out.mono ?_
  rintro e w1 ⟨t1, rfl, hl1, hb1⟩
  have c2 := hide (sEsc t1 49152 (by omega) (by decide) w1 (HV.out.below hb1))
  have HB := hide hb1
  clear hl1 hb1 c1
  go_wp2_with fail
  refine c2.out.mono ?_
  rintro e w2 ⟨t2, rfl, hl2, hb2⟩
  have HL := hide hl2
  have HB2 := hide (HB.out.trans (hb2.mono HB.out.size))
  clear hl2 hb2
  go_wp2_with fail
  go_ret
  exact ⟨t2, rfl, by have := HL.out; omega, HB2.out⟩
set_option maxHeartbeats 1000000 in
set_option maxRecDepth 100000 in
theorem ogPlain6 (l : List UInt8) (hl : l.length ≤ 4096) (w : World) (hV : Vars w) : Calls Tryz.prog 108 #[.int .i64 6, .string ⟨l.toArray⟩] w (Some w 1000000) := by
  have c1 := hide (sEnc l 4096 hl (by decide) w hV)
  have HV := hide hV
  clear hV hl
  go_enter Tryz.func108, Tryz.ntmps108
  go_wp2_with fail
  refine c1.out.mono ?_
  rintro e w1 ⟨t1, rfl, hl1, hb1⟩
  have c2 := hide (sEsc t1 49152 (by omega) (by decide) w1 (HV.out.below hb1))
  have HB := hide hb1
  clear hl1 hb1 c1
  go_wp2_with fail
  refine c2.out.mono ?_
  rintro e w2 ⟨t2, rfl, hl2, hb2⟩
  have HL := hide hl2
  have HB2 := hide (HB.out.trans (hb2.mono HB.out.size))
  clear hl2 hb2
  go_wp2_with fail
  go_ret
  exact ⟨t2, rfl, by have := HL.out; omega, HB2.out⟩
set_option maxHeartbeats 1000000 in
set_option maxRecDepth 100000 in
theorem ogPlain8 (l : List UInt8) (hl : l.length ≤ 4096) (w : World) (hV : Vars w) : Calls Tryz.prog 108 #[.int .i64 8, .string ⟨l.toArray⟩] w (Some w 1000000) := by
  have c1 := hide (sJs l 4096 hl (by decide) w hV)
  have HV := hide hV
  clear hV hl
  go_enter Tryz.func108, Tryz.ntmps108
  go_wp2_with fail
  refine c1.out.mono ?_
  rintro e w1 ⟨t1, rfl, hl1, hb1⟩
  have HL := hide hl1
  have HB := hide hb1
  clear hl1 hb1
  go_wp2_with fail
  go_ret
  exact ⟨t1, rfl, by have := HL.out; omega, HB.out⟩
set_option maxHeartbeats 1000000 in
set_option maxRecDepth 100000 in
theorem ogPlain10 (l : List UInt8) (hl : l.length ≤ 4096) (w : World) (hV : Vars w) : Calls Tryz.prog 108 #[.int .i64 10, .string ⟨l.toArray⟩] w (Some w 1000000) := by
  have c1 := hide (sJs l 4096 hl (by decide) w hV)
  have HV := hide hV
  clear hV hl
  go_enter Tryz.func108, Tryz.ntmps108
  go_wp2_with fail
  refine c1.out.mono ?_
  rintro e w1 ⟨t1, rfl, hl1, hb1⟩
  have c2 := hide (sEsc t1 49152 (by omega) (by decide) w1 (HV.out.below hb1))
  have HB := hide hb1
  clear hl1 hb1 c1
  go_wp2_with fail
  refine c2.out.mono ?_
  rintro e w2 ⟨t2, rfl, hl2, hb2⟩
  have HL := hide hl2
  have HB2 := hide (HB.out.trans (hb2.mono HB.out.size))
  clear hl2 hb2
  go_wp2_with fail
  go_ret
  exact ⟨t2, rfl, by have := HL.out; omega, HB2.out⟩
set_option maxHeartbeats 1000000 in
set_option maxRecDepth 100000 in
theorem ogPlain11 (l : List UInt8) (hl : l.length ≤ 4096) (w : World) (hV : Vars w) : Calls Tryz.prog 108 #[.int .i64 11, .string ⟨l.toArray⟩] w (Some w 1000000) := by
  have c1 := hide (sCss l 4096 hl (by decide) w hV)
  have HV := hide hV
  clear hV hl
  go_enter Tryz.func108, Tryz.ntmps108
  go_wp2_with fail
  refine c1.out.mono ?_
  rintro e w1 ⟨t1, rfl, hl1, hb1⟩
  have HL := hide hl1
  have HB := hide hb1
  clear hl1 hb1
  go_wp2_with fail
  go_ret
  exact ⟨t1, rfl, by have := HL.out; omega, HB.out⟩
set_option maxHeartbeats 1000000 in
set_option maxRecDepth 100000 in
theorem ogPlain12 (l : List UInt8) (hl : l.length ≤ 4096) (w : World) (hV : Vars w) : Calls Tryz.prog 108 #[.int .i64 12, .string ⟨l.toArray⟩] w (Some w 1000000) := by
  have c1 := hide (sCss l 4096 hl (by decide) w hV)
  have HV := hide hV
  clear hV hl
  go_enter Tryz.func108, Tryz.ntmps108
  go_wp2_with fail
  refine c1.out.mono ?_
  rintro e w1 ⟨t1, rfl, hl1, hb1⟩
  have c2 := hide (sEsc t1 4104 (by omega) (by decide) w1 (HV.out.below hb1))
  have HB := hide hb1
  clear hl1 hb1 c1
  go_wp2_with fail
  refine c2.out.mono ?_
  rintro e w2 ⟨t2, rfl, hl2, hb2⟩
  have HL := hide hl2
  have HB2 := hide (HB.out.trans (hb2.mono HB.out.size))
  clear hl2 hb2
  go_wp2_with fail
  go_ret
  exact ⟨t2, rfl, by have := HL.out; omega, HB2.out⟩
theorem ogPlain (esc : Int) (h1 : 1 ≤ esc) (h12 : esc ≤ 12) (h7 : ¬ esc = 7) (h9 : ¬ esc = 9) (l : List UInt8) (hl : l.length ≤ 4096) (w : World) (hV : Vars w) : Calls Tryz.prog 108 #[.int .i64 esc, .string ⟨l.toArray⟩] w (Some w 1000000) := by
  rcases (show esc = 1 ∨ esc = 2 ∨ esc = 3 ∨ esc = 4 ∨ esc = 5 ∨ esc = 6 ∨ esc = 8 ∨ esc = 10 ∨ esc = 11 ∨ esc = 12 by omega) with h | h | h | h | h | h | h | h | h | h <;> subst h
  · exact ogPlain1 l hl w hV
  · exact ogPlain2 l hl w hV
  · exact ogPlain3 l hl w hV
  · exact ogPlain4 l hl w hV
  · exact ogPlain5 l hl w hV
  · exact ogPlain6 l hl w hV
  · exact ogPlain8 l hl w hV
  · exact ogPlain10 l hl w hV
  · exact ogPlain11 l hl w hV
  · exact ogPlain12 l hl w hV
theorem pInt_le22 (n : Int) (h0 : -9223372036854775808 ≤ n) (h1 : n ≤ 9223372036854775807) : (pInt n).length ≤ 22 := by
  have := pInt_le21 n h0 h1
  omega
set_option maxHeartbeats 1000000 in
set_option maxRecDepth 100000 in
theorem ogLit {d : VD 0} (h : FineF d) (hs : d.s.length ≤ 4096) (P : Option Addr) (C : Nat) (P2 : Option Addr) (C2 : Nat) (w : World) (hV : Vars w) :
    Calls Tryz.prog 107 #[.agg (vCells d.k d.i ⟨d.s.toArray⟩ P 0 C P2 0 C2)] w (Some w 49190) := by
  obtain ⟨⟨h0, h4, hk⟩, hm, hn⟩ := h
  obtain ⟨k, i, s, l, ks⟩ := d
  simp only at h0 h4 hs
  have lo := hn.1.1
  have hi := hn.1.2
  simp only [VN.i] at lo hi
  clear hn hm hk
  have cI := hide (fun W => print_any i W lo hi)
  have hpl := pInt_le22 i lo hi
  have HV := hide hV
  have cQ := hide (fun W (hb : Below w.heap.size w W) => quote_any s W (by omega) (HV.out.below hb).1)
  have hel := escR_len s
  obtain ⟨q, hq⟩ : ∃ q, (34 :: (escR s ++ [34])) = q := ⟨_, rfl⟩
  have hql : q.length ≤ 49160 := by rw [← hq]; simp; omega
  simp only [hq] at cQ
  obtain ⟨pi, hpi⟩ : ∃ q, pInt i = q := ⟨_, rfl⟩
  simp only [hpi] at cI hpl
  obtain ⟨S, hS⟩ : ∃ q : ByteArray, (⟨s.toArray⟩ : ByteArray) = q := ⟨_, rfl⟩
  simp only [hS] at cQ ⊢
  have HPL := hide hpl
  have HQL := hide hql
  clear hq hpi hS hel hs hV lo hi hpl hql
  rcases (show k = 0 ∨ k = 1 ∨ k = 2 ∨ k = 3 ∨ k = 4 by omega) with h | h | h | h | h <;> subst h <;> clear h0 h4
  · go_enter Tryz.func107, Tryz.ntmps107
    go_wp2_with fail
    go_ret
    refine ⟨[110, 117, 108, 108], rfl, by simp, ?_⟩
    refine name_it (C := fun W => Below w.heap.size w W) fun W hW => ?_
    have C1 : Chg [] w W := by subst hW; (repeat' (first | with_reducible exact Chg.refl _ _ | with_reducible refine Chg.alloc ?_ _ | with_reducible refine Chg.drew ?_ | with_reducible refine Chg.drewN ?_ _ | with_reducible refine Chg.set_ ?_ _ _ (by first | (simp; done) | (simp; omega) | omega)))
    exact C1.bel
  · go_enter Tryz.func107, Tryz.ntmps107
    go_wp2_with fail
    go_ret
    refine ⟨[102, 97, 108, 115, 101], rfl, by simp, ?_⟩
    refine name_it (C := fun W => Below w.heap.size w W) fun W hW => ?_
    have C1 : Chg [] w W := by subst hW; (repeat' (first | with_reducible exact Chg.refl _ _ | with_reducible refine Chg.alloc ?_ _ | with_reducible refine Chg.drew ?_ | with_reducible refine Chg.drewN ?_ _ | with_reducible refine Chg.set_ ?_ _ _ (by first | (simp; done) | (simp; omega) | omega)))
    exact C1.bel
  · go_enter Tryz.func107, Tryz.ntmps107
    go_wp2_with fail
    go_ret
    refine ⟨[116, 114, 117, 101], rfl, by simp, ?_⟩
    refine name_it (C := fun W => Below w.heap.size w W) fun W hW => ?_
    have C1 : Chg [] w W := by subst hW; (repeat' (first | with_reducible exact Chg.refl _ _ | with_reducible refine Chg.alloc ?_ _ | with_reducible refine Chg.drew ?_ | with_reducible refine Chg.drewN ?_ _ | with_reducible refine Chg.set_ ?_ _ _ (by first | (simp; done) | (simp; omega) | omega)))
    exact C1.bel
  · by_cases hneg : i < 0
    · have d0 : decide (i < 0) = true := decide_eq_true hneg
      clear hneg
      go_enter Tryz.func107, Tryz.ntmps107
      go_wp2_with fail
      refine name_world fun W hW => ?_
      have C1 : Chg [] w W := by subst hW; (repeat' (first | with_reducible exact Chg.refl _ _ | with_reducible refine Chg.alloc ?_ _ | with_reducible refine Chg.drew ?_ | with_reducible refine Chg.drewN ?_ _ | with_reducible refine Chg.set_ ?_ _ _ (by first | (simp; done) | (simp; omega) | omega)))
      clear hW
      refine (cI.out W).mono ?_
      rintro e w1 ⟨rfl, hb1⟩
      have C2 := hide (C1.below hb1)
      clear C1 hb1
      have hov : ¬ (9223372036854775807 < 1 + pi.length) := by have := HPL.out; omega
      go_wp2_with fail
      go_ret
      exact ⟨[32] ++ pi, by rw [← mk_append]; rfl, by have := HPL.out; simp; omega, C2.out.bel⟩
    · have d0 : decide (i < 0) = false := decide_eq_false hneg
      clear hneg
      go_enter Tryz.func107, Tryz.ntmps107
      go_wp2_with fail
      refine name_world fun W hW => ?_
      have C1 : Chg [] w W := by subst hW; (repeat' (first | with_reducible exact Chg.refl _ _ | with_reducible refine Chg.alloc ?_ _ | with_reducible refine Chg.drew ?_ | with_reducible refine Chg.drewN ?_ _ | with_reducible refine Chg.set_ ?_ _ _ (by first | (simp; done) | (simp; omega) | omega)))
      clear hW
      refine (cI.out W).mono ?_
      rintro e w1 ⟨rfl, hb1⟩
      have C2 := hide (C1.below hb1)
      clear C1 hb1
      go_wp2_with fail
      go_ret
      exact ⟨pi, rfl, by have := HPL.out; omega, C2.out.bel⟩
  · go_enter Tryz.func107, Tryz.ntmps107
    go_wp2_with fail
    refine name_world fun W hW => ?_
    have C1 : Chg [] w W := by subst hW; (repeat' (first | with_reducible exact Chg.refl _ _ | with_reducible refine Chg.alloc ?_ _ | with_reducible refine Chg.drew ?_ | with_reducible refine Chg.drewN ?_ _ | with_reducible refine Chg.set_ ?_ _ _ (by first | (simp; done) | (simp; omega) | omega)))
    clear hW
    refine (cQ.out W C1.bel).mono ?_
    rintro e w1 ⟨rfl, hb1⟩
    have C2 := hide (C1.below hb1)
    clear C1 hb1
    go_wp2_with fail
    go_ret
    exact ⟨q, rfl, by have := HQL.out; omega, C2.out.bel⟩
theorem applyOk_flat (esc : Int) {d : VD 0} (h : FlatD d) : applyOk esc d = (decide (1 ≤ esc) && decide (esc ≤ 12) && decide (flatE d.k d.i d.s = 0)) := by
  unfold applyOk
  congr 1
  have := check_flat h
  by_cases h1 : flatE d.k d.i d.s = 0
  · rw [decide_eq_true h1, decide_eq_true (this.2 h1)]
  · rw [decide_eq_false h1, decide_eq_false (fun h2 => h1 (this.1 h2))]
/-- What a filter tells. -/
def Applied (w : World) (ok : Bool) (e : Ending) (w' : World) : Prop := ∃ (s : List UInt8) (f : Int), e = .returned (.tuple #[.string ⟨s.toArray⟩, .int .i64 f]) ∧ (if ok then f = 0 ∧ s.length ≤ 1000000 else f ≠ 0) ∧ Below w.heap.size w w'
theorem toldL_len {d : VD 0} (h : FineF d) (hs : d.s.length ≤ 4096) : (toldL d).length ≤ 4096 := by
  unfold toldL
  split
  · simp
  · obtain ⟨⟨h0, h4, hk⟩, hm, hn⟩ := h
    obtain ⟨k, i, s, l, ks⟩ := d
    simp only at h0 h4 hs
    have lo := hn.1.1
    have hi := hn.1.2
    simp only [VN.i] at lo hi
    have hpl := pInt_le22 i lo hi
    unfold pr1
    rw [printV_mk]
    rcases (show k = 0 ∨ k = 1 ∨ k = 2 ∨ k = 3 ∨ k = 4 by omega) with h | h | h | h | h <;> subst h <;> simp <;> omega
set_option maxHeartbeats 1000000 in
set_option maxRecDepth 100000 in
theorem ogApply {d : VD 0} (h : FineF d) (esc : Int) (P : Option Addr) (C : Nat) (P2 : Option Addr) (C2 : Nat) (w : World) (hV : Vars w) :
    Calls Tryz.prog 89 #[.int .i64 esc, .agg (vCells d.k d.i ⟨d.s.toArray⟩ P 0 C P2 0 C2)] w (Applied w (applyOk esc d)) := by
  rw [applyOk_flat esc h.1]
  have HV := hide hV
  have cC := hide (fun W => ogCheck d.k d.i ⟨d.s.toArray⟩ P C P2 C2 W h.1.1 h.1.2.1)
  have cS := hide (fun W => ogSafe esc d.k h.1.1 h.1.2.1 W)
  have cL := hide (fun hs W hW => ogLit h hs P C P2 C2 W hW)
  have cT := hide (fun W => ogTold h P C P2 C2 W)
  have htl := toldL_len h
  simp only [str_listF] at cC
  obtain ⟨E, hE⟩ : ∃ E, flatE d.k d.i d.s = E := ⟨_, rfl⟩
  have hs : E = 0 → d.s.length ≤ 4096 := by
    intro h0
    rw [← hE] at h0
    unfold flatE at h0
    split at h0
    · cases h0
    · omega
  simp only [hE] at cC ⊢
  clear hV h hE
  obtain ⟨k, i, s, l, ks⟩ := d
  obtain ⟨T, hT⟩ : ∃ T, toldL (⟨k, i, s, l, ks⟩ : VD 0) = T := ⟨_, rfl⟩
  simp only [hT] at cT htl
  simp only at cC cS cL hs htl ⊢
  obtain ⟨S, hS⟩ : ∃ q : ByteArray, (⟨s.toArray⟩ : ByteArray) = q := ⟨_, rfl⟩
  simp only [hS] at cC cL cT ⊢
  clear hT hS
  by_cases h1 : esc < 1
  · have d0 : decide (esc < 1) = true := decide_eq_true h1
    have d1 : decide (1 ≤ esc) = false := decide_eq_false (by omega)
    rw [d1]
    clear d1 h1
    go_enter Tryz.func89, Tryz.ntmps89
    go_wp2_with fail
    go_ret2
    refine ⟨[], 4, rfl, by simp, ?_⟩
    refine name_it (C := fun W => Below w.heap.size w W) fun W hW => ?_
    have C1 : Chg [] w W := by subst hW; (repeat' (first | with_reducible exact Chg.refl _ _ | with_reducible refine Chg.alloc ?_ _ | with_reducible refine Chg.drew ?_ | with_reducible refine Chg.drewN ?_ _ | with_reducible refine Chg.set_ ?_ _ _ (by first | (simp; done) | (simp; omega) | omega)))
    exact C1.bel
  have d0 : decide (esc < 1) = false := decide_eq_false h1
  have d1 : decide (1 ≤ esc) = true := decide_eq_true (by omega)
  rw [d1]
  clear d1
  by_cases h2 : 12 < esc
  · have d2 : decide ((12 : Int) < esc) = true := decide_eq_true h2
    have d1 : decide (esc ≤ 12) = false := decide_eq_false (by omega)
    rw [d1]
    clear d1 h1 h2
    go_enter Tryz.func89, Tryz.ntmps89
    go_wp2_with fail
    go_ret2
    refine ⟨[], 4, rfl, by simp, ?_⟩
    refine name_it (C := fun W => Below w.heap.size w W) fun W hW => ?_
    have C1 : Chg [] w W := by subst hW; (repeat' (first | with_reducible exact Chg.refl _ _ | with_reducible refine Chg.alloc ?_ _ | with_reducible refine Chg.drew ?_ | with_reducible refine Chg.drewN ?_ _ | with_reducible refine Chg.set_ ?_ _ _ (by first | (simp; done) | (simp; omega) | omega)))
    exact C1.bel
  have d2 : decide ((12 : Int) < esc) = false := decide_eq_false h2
  have d1 : decide (esc ≤ 12) = true := decide_eq_true (by omega)
  rw [d1]
  clear d1
  by_cases hE0 : E = 0
  · have hs' := hs hE0
    have htl' := htl hs'
    have cL := hide (cL.out hs')
    rw [decide_eq_true hE0]
    subst hE0
    clear hs htl
    by_cases h7 : esc = 7
    · subst h7
      clear h1 h2 d0 d2
      go_enter Tryz.func89, Tryz.ntmps89
      go_wp2_with fail
      refine name_world fun W hW => ?_
      have C1 : Chg [] w W := by subst hW; (repeat' (first | with_reducible exact Chg.refl _ _ | with_reducible refine Chg.alloc ?_ _ | with_reducible refine Chg.drew ?_ | with_reducible refine Chg.drewN ?_ _ | with_reducible refine Chg.set_ ?_ _ _ (by first | (simp; done) | (simp; omega) | omega)))
      have K : Blk W w.heap.size 26 (vCells k i S P 0 C P2 0 C2) := by subst hW; (repeat' (first | with_reducible exact Blk.new_ (by first | rfl | (simp; done) | (simp; omega)) | with_reducible refine Blk.alloc_ ?_ | with_reducible refine Blk.drew ?_ | with_reducible refine Blk.drewN ?_ _ | with_reducible refine Blk.far_ ?_ (by first | (simp; done) | (simp; omega) | omega) | with_reducible apply Blk.set_eq | rfl))
      clear hW
      refine (cC.out W).mono ?_
      rintro e w1 ⟨rfl, hb1⟩
      have HC := hide (C1.trans (Chg.of_below (S := []) hb1) (by simp))
      have K1 := K.chg (Chg.of_below (S := []) hb1) (by simp)
      have k0 := K1.cell 0; have k1 := K1.cell 1; have k2 := K1.cell 2; have k3 := K1.cell 3; have k4 := K1.cell 4; simp at k0 k1 k2 k3 k4
      have lK := K1.lt
      clear K hb1 C1 K1
      go_wp2_with (go_at_call 105; refine (cS.out _).mono ?_; rintro e w2 ⟨rfl, rfl⟩)
      refine (cL.out w1 (HV.out.below HC.out.bel)).mono ?_
      rintro e w3 ⟨t, rfl, hl3, hb3⟩
      have HB := hide (HC.out.bel.trans (hb3.mono HC.out.bel.size))
      have hov : ¬ (9223372036854775807 < 1 + t.length) := by omega
      have hov2 : ¬ (9223372036854775807 < 1 + t.length + 1) := by omega
      have HL := hide hl3
      clear hb3 hl3 k0 k1 k2 k3 k4 lK
      go_wp2_with fail
      go_ret2
      exact ⟨[32] ++ t ++ [32], 0, by rw [← mk_append, ← mk_append]; rfl, by have := HL.out; simp; omega, HB.out⟩
    by_cases h9 : esc = 9
    · subst h9
      clear h1 h2 d0 d2 h7
      go_enter Tryz.func89, Tryz.ntmps89
      go_wp2_with fail
      refine name_world fun W hW => ?_
      have C1 : Chg [] w W := by subst hW; (repeat' (first | with_reducible exact Chg.refl _ _ | with_reducible refine Chg.alloc ?_ _ | with_reducible refine Chg.drew ?_ | with_reducible refine Chg.drewN ?_ _ | with_reducible refine Chg.set_ ?_ _ _ (by first | (simp; done) | (simp; omega) | omega)))
      have K : Blk W w.heap.size 26 (vCells k i S P 0 C P2 0 C2) := by subst hW; (repeat' (first | with_reducible exact Blk.new_ (by first | rfl | (simp; done) | (simp; omega)) | with_reducible refine Blk.alloc_ ?_ | with_reducible refine Blk.drew ?_ | with_reducible refine Blk.drewN ?_ _ | with_reducible refine Blk.far_ ?_ (by first | (simp; done) | (simp; omega) | omega) | with_reducible apply Blk.set_eq | rfl))
      clear hW
      refine (cC.out W).mono ?_
      rintro e w1 ⟨rfl, hb1⟩
      have HC := hide (C1.trans (Chg.of_below (S := []) hb1) (by simp))
      have K1 := K.chg (Chg.of_below (S := []) hb1) (by simp)
      have k0 := K1.cell 0; have k1 := K1.cell 1; have k2 := K1.cell 2; have k3 := K1.cell 3; have k4 := K1.cell 4; simp at k0 k1 k2 k3 k4
      have lK := K1.lt
      clear K hb1 C1 K1
      go_wp2_with (go_at_call 105; refine (cS.out _).mono ?_; rintro e w2 ⟨rfl, rfl⟩)
      refine (cL.out w1 (HV.out.below HC.out.bel)).mono ?_
      rintro e w3 ⟨t, rfl, hl3, hb3⟩
      have HB := hide (HC.out.bel.trans (hb3.mono HC.out.bel.size))
      have hov : ¬ (9223372036854775807 < 1 + t.length) := by omega
      have hov2 : ¬ (9223372036854775807 < 1 + t.length + 1) := by omega
      have cE := hide (sEsc ([32] ++ t ++ [32]) 49192 (by simp; omega) (by decide) w3 (HV.out.below HB.out))
      rw [← mk_append, ← mk_append] at cE
      clear hb3 hl3 k0 k1 k2 k3 k4 lK
      go_wp2_with fail
      refine cE.out.mono ?_
      rintro e w4 ⟨t4, rfl, hl4, hb4⟩
      have HB4 := hide (HB.out.trans (hb4.mono HB.out.size))
      have HL := hide hl4
      clear hl4 hb4
      go_wp2_with fail
      go_ret2
      exact ⟨t4, 0, rfl, by have := HL.out; simp; omega, HB4.out⟩
    have e7 : (esc == 7) = false := by simpa using h7
    have e9 : (esc == 9) = false := by simpa using h9
    have cP := hide (fun W hW => ogPlain esc (by omega) (by omega) h7 h9 T htl' W hW)
    clear h1 h2 h7 h9 htl' hs'
    go_enter Tryz.func89, Tryz.ntmps89
    go_wp2_with fail
    refine name_world fun W hW => ?_
    have C1 : Chg [] w W := by subst hW; (repeat' (first | with_reducible exact Chg.refl _ _ | with_reducible refine Chg.alloc ?_ _ | with_reducible refine Chg.drew ?_ | with_reducible refine Chg.drewN ?_ _ | with_reducible refine Chg.set_ ?_ _ _ (by first | (simp; done) | (simp; omega) | omega)))
    have K : Blk W w.heap.size 26 (vCells k i S P 0 C P2 0 C2) := by subst hW; (repeat' (first | with_reducible exact Blk.new_ (by first | rfl | (simp; done) | (simp; omega)) | with_reducible refine Blk.alloc_ ?_ | with_reducible refine Blk.drew ?_ | with_reducible refine Blk.drewN ?_ _ | with_reducible refine Blk.far_ ?_ (by first | (simp; done) | (simp; omega) | omega) | with_reducible apply Blk.set_eq | rfl))
    clear hW
    refine (cC.out W).mono ?_
    rintro e w1 ⟨rfl, hb1⟩
    have HC := hide (C1.trans (Chg.of_below (S := []) hb1) (by simp))
    have K1 := K.chg (Chg.of_below (S := []) hb1) (by simp)
    have k0 := K1.cell 0; have k1 := K1.cell 1; have k2 := K1.cell 2; have k3 := K1.cell 3; have k4 := K1.cell 4; simp at k0 k1 k2 k3 k4
    have lK := K1.lt
    clear K hb1 C1 K1
    go_wp2_with (go_at_call 105; refine (cS.out _).mono ?_; rintro e w2 ⟨rfl, rfl⟩)
    refine (cT.out w1).mono ?_
    rintro e w3 ⟨rfl, hb3⟩
    have HB := hide (HC.out.bel.trans (hb3.mono HC.out.bel.size))
    have cQ := hide (cP.out w3 (HV.out.below HB.out))
    clear hb3 k0 k1 k2 k3 k4 lK cP
    go_wp2_with fail
    refine cQ.out.mono ?_
    rintro e w4 ⟨t4, rfl, hl4, hb4⟩
    have HB4 := hide (HB.out.trans (hb4.mono HB.out.size))
    have HL := hide hl4
    clear hl4 hb4
    go_wp2_with fail
    go_ret2
    exact ⟨t4, 0, rfl, by have := HL.out; simp; omega, HB4.out⟩
  · have eE : (E == 0) = false := by simpa using hE0
    rw [decide_eq_false hE0]
    have HE := hide hE0
    clear hE0 hs htl h1 h2
    go_enter Tryz.func89, Tryz.ntmps89
    go_wp2_with fail
    refine name_world fun W hW => ?_
    have C1 : Chg [] w W := by subst hW; (repeat' (first | with_reducible exact Chg.refl _ _ | with_reducible refine Chg.alloc ?_ _ | with_reducible refine Chg.drew ?_ | with_reducible refine Chg.drewN ?_ _ | with_reducible refine Chg.set_ ?_ _ _ (by first | (simp; done) | (simp; omega) | omega)))
    have K : Blk W w.heap.size 26 (vCells k i S P 0 C P2 0 C2) := by subst hW; (repeat' (first | with_reducible exact Blk.new_ (by first | rfl | (simp; done) | (simp; omega)) | with_reducible refine Blk.alloc_ ?_ | with_reducible refine Blk.drew ?_ | with_reducible refine Blk.drewN ?_ _ | with_reducible refine Blk.far_ ?_ (by first | (simp; done) | (simp; omega) | omega) | with_reducible apply Blk.set_eq | rfl))
    clear hW
    refine (cC.out W).mono ?_
    rintro e w1 ⟨rfl, hb1⟩
    have HC := hide (C1.trans (Chg.of_below (S := []) hb1) (by simp))
    have K1 := K.chg (Chg.of_below (S := []) hb1) (by simp)
    have k0 := K1.cell 0; have k1 := K1.cell 1; have k2 := K1.cell 2; have k3 := K1.cell 3; have k4 := K1.cell 4; simp at k0 k1 k2 k3 k4
    have lK := K1.lt
    clear K hb1 C1 K1
    clear k0 k1 k2 k3 k4 lK
    go_wp2_with fail
    go_ret2
    exact ⟨[], E, rfl, by simpa using HE.out, HC.out.bel⟩
end Go.Proofs.YtnepogddjinpoaaGreatDoor
