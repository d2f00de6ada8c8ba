/-
  PLAIN LAWS of many texts, in one.
-/
import Derived.Test.YtdnmgpidfjkiaaaDoorM2
import Derived.Test.YtdnmgpidfjkiaaaDoorFuncB
import Derived.Test.YtdnmgpidfjkiaaaDoorVSame
import Derived.Laws.Cover1
import Derived.Test.YtdnmgpidfjkiaaaDoorRdE
import Derived.Test.YtdnmgpidfjkiaaaDoorQuote
import Derived.Test.YtdnmgpidfjkiaaaDoorJsOne
import Derived.Defers
import Derived.Recover
namespace Go.Proofs.YtdnmgpidfjkiaaaDoor
open Go.RowKit
set_option linter.unusedVariables false
set_option linter.unusedSimpArgs false

set_option maxHeartbeats 4000000 in
set_option maxRecDepth 100000 in
theorem litRising_any (U : World → Nat → Prop) (a : Option Addr) (c : Nat) (ks : List (List UInt8)) (w : World) (hS : StrsAt U w a ks) (hz : ks.length * 16 ≤ 140737488351232) (hk : ∀ k ∈ ks, k.length ≤ 140737488351232) :
    Calls Tryd.prog 68 #[.slice a ks.length c] w fun e w' => e = .returned (.bool (risingK ks)) ∧ Below w.heap.size w w' := by
  obtain ⟨R, hR⟩ : ∃ R, risingK ks = R := ⟨_, rfl⟩
  obtain ⟨n, hn⟩ : ∃ n, ks.length = n := ⟨_, rfl⟩
  rw [hR]
  rw [hn] at hz ⊢
  have HS := hide hS; have HK := hide hk; have HR := hide hR; have HN := hide hn
  clear hS hk hR hn
  go_enter Tryd.func68, Tryd.ntmps68
  go_wp2_with fail
  go_loopw [7] (fun i wr => ∃ j : Nat, i = .int .i64 (j : Int) ∧ j ≤ n ∧ Below w.heap.size w wr ∧ Hid (∀ r, r < j → upAt ks r = true)) (fun i _ => n - (intOf i).toNat)
  case atStart => exact ⟨0, rfl, Nat.zero_le _, Below.refl _ _, fun r h => absurd h (Nat.not_lt_zero _)⟩
  case round =>
    obtain ⟨j, rfl, hj, hb, hall⟩ := hrel
    by_cases hjl : j < n
    · obtain ⟨x, hx⟩ : ∃ x, ks[j]? = some x := ⟨_, List.getElem?_eq_getElem (by have := HN.out; omega)⟩
      obtain ⟨g1, o1, rfl, hg1, _, f1⟩ := HS.out j x hx
      have f1 := (hb.cell (p := ⟨g1, o1 + j, none⟩) hg1).trans f1
      have hg1r : g1 < wr.heap.size := Nat.lt_of_lt_of_le hg1 hb.size
      have cN := hide (fun w => name_any ⟨x.toArray⟩ w (by rw [mkSize]; have := HK.out x (List.mem_of_getElem? hx); omega))
      rw [mkData] at cN
      have HX := hide hx
      clear hx
      have hnx : upAt ks j = true → Hid (∀ r, r < j + 1 → upAt ks r = true) := fun hu r hr => by
        rcases Nat.lt_or_ge r j with h | h
        · exact hall.out r h
        · obtain rfl : r = j := by omega
          exact hu
      have hbad : upAt ks j = false → Hid (R = false) := fun hu => by
        show R = false
        rw [← HR.out]; exact risingK_bad (by have := HN.out; omega) hu
      have hji : (j : Int) < (n : Int) := by omega
      have HNX := hide hnx; have HBAD := hide hbad
      clear hnx hbad hall
      rcases Bool.eq_false_or_eq_true (isName x) with gn | gn
      · rw [gn] at cN
        rcases Nat.eq_zero_or_pos j with h0 | h0
        · subst h0
          have HG := HNX.out (by rw [upAt_zero HX.out, gn])
          clear HNX HBAD gn
          simp only [Nat.add_zero] at f1
          have hz0 : decide ((0 : Int) < ((0 : Nat) : Int)) = false := rfl
          go_wp2_with (go_at_call 100; refine (cN.out _).mono ?_; rintro e w1 ⟨rfl, hbn⟩)
          go_roundw
          case rel => exact ⟨1, by go_num, by omega, hb.trans (hbn.mono hb.size), HG⟩
          case measure => simp [intOf]; omega
        · obtain ⟨i, hi⟩ : ∃ i, j = i + 1 := ⟨j - 1, by omega⟩
          obtain ⟨y, hy⟩ : ∃ y, ks[i]? = some y := ⟨_, List.getElem?_eq_getElem (by have := HN.out; omega)⟩
          obtain ⟨g2, o2, he2, hg2, _, f2⟩ := HS.out i y hy
          injection he2 with he2
          injection he2 with he2 he3 _
          subst he2; subst he3
          have f2 := (hb.cell (p := ⟨g1, o1 + i, none⟩) hg1).trans f2
          have HU := hide (show upAt ks j = (isName x && Op.bytesLess y x) by rw [hi]; exact upAt_succ (by rw [← hi]; exact HX.out) hy)
          have e1 : ((j : Int) - 1) = (i : Int) := by omega
          have e0 : decide ((0 : Int) < (j : Int)) = true := by simp; omega
          have hil : (i : Int) < (n : Int) := by omega
          have hwr : IntKind.i64.wrap (i : Int) = (i : Int) := by rw [IntWalk.i64_left, IntWalk.wrap64_in _ (by omega)]
          obtain ⟨X, hX⟩ : ∃ X : ByteArray, (⟨x.toArray⟩ : ByteArray) = X := ⟨_, rfl⟩
          obtain ⟨Y, hY⟩ : ∃ Y : ByteArray, (⟨y.toArray⟩ : ByteArray) = Y := ⟨_, rfl⟩
          rw [hX] at f1 cN
          rw [hY] at f2
          obtain ⟨b, hbl⟩ : ∃ b, Op.bytesLess y x = b := ⟨_, rfl⟩
          have hXY : X.toList = x ∧ Y.toList = y := by rw [← hX, ← hY]; exact ⟨by rw [ByteArray.toList_eq], by rw [ByteArray.toList_eq]⟩
          have hbv : Op.bytesLess Y.toList X.toList = b := by rw [hXY.1, hXY.2, hbl]
          have HGood := hide (fun h : b = true => HNX.out (by rw [HU.out, gn, hbl, h]; rfl))
          have HBad := hide (fun h : b = false => HBAD.out (by rw [HU.out, gn, hbl, h]; rfl))
          have HI := hide hi
          clear hi HU hbl hX hY hXY HNX HBAD gn
          rcases Bool.eq_false_or_eq_true b with e | e <;> subst e <;>
            first
            | (have HG := HGood.out rfl
               clear HGood HBad
               go_wp2_with (go_at_call 100; refine (cN.out _).mono ?_; rintro e w1 ⟨rfl, hbn⟩; have f2 := (hbn.cell (p := ⟨g1, o1 + i, none⟩) hg1r).trans f2)
               go_roundw
               case rel => exact ⟨j + 1, by go_num, by omega, hb.trans (hbn.mono hb.size), HG⟩
               case measure => simp [intOf]; omega)
            | (have HG := HBad.out rfl
               clear HGood HBad
               go_wp2_with (go_at_call 100; refine (cN.out _).mono ?_; rintro e w1 ⟨rfl, hbn⟩; have f2 := (hbn.cell (p := ⟨g1, o1 + i, none⟩) hg1r).trans f2)
               go_ret
               exact ⟨ret_bool HG.out.symm, hb.trans (hbn.mono hb.size)⟩)
      · rw [gn] at cN
        have HG := HBAD.out (by
          cases j with
          | zero => rw [upAt_zero HX.out, gn]
          | succ j =>
            obtain ⟨y, hy⟩ : ∃ y, ks[j]? = some y := ⟨_, List.getElem?_eq_getElem (by have := HN.out; omega)⟩
            rw [upAt_succ HX.out hy, gn]; rfl)
        clear HNX HBAD gn
        go_wp2_with (go_at_call 100; refine (cN.out _).mono ?_; rintro e w1 ⟨rfl, hbn⟩)
        go_ret
        exact ⟨ret_bool HG.out.symm, hb.trans (hbn.mono hb.size)⟩
    · obtain rfl : j = n := by omega
      have HG := hide (show true = R by rw [← HR.out]; exact (risingK_good (fun r hr => hall.out r (by have := HN.out; omega))).symm)
      have hjf : decide ((j : Int) < (j : Int)) = false := by simp
      clear hall
      go_wp2_with fail
      go_ret
      exact ⟨ret_bool HG.out, hb⟩
end Go.Proofs.YtdnmgpidfjkiaaaDoor

namespace Go.Proofs.YtdnmgpidfjkiaaaDoor
open Go.RowKit
set_option linter.unusedVariables false
set_option linter.unusedSimpArgs false

def manyOf : (l : Nat) → Bool → UInt8 → List UInt8 → Out (List (List UInt8) × List (VT l))
  | 0, _, _, _ => .bad 42
  | l + 1, b, c, r => manyR (α := VT (l + 1)) (readV risingK l) b c r
theorem readV_head (l : Nat) (r : List UInt8) : readV risingK l r = headR risingK (manyOf l) r := by cases l <;> rfl
/-- What items tells, at any depth. -/
def ItOutL (l : Nat) (k : Int) (rec_ : Bool) (close : UInt8) (r : List UInt8) (b : Nat) (s : List UInt8) (w : World) (e : Ending) (w' : World) : Prop :=
  (∃ (ks : List (List UInt8)) (xs : List (VT l)) (t : List UInt8) (v : Value), manyOf l rec_ close r = .ok (ks, xs) t ∧ e = .returned v ∧ IsV (freshB w.heap.size) w' (l + 1) v (⟨k, 0, [], xs, ks⟩ : VN (VT l)) ∧ Moved b w w' ∧ Rd w' b s t) ∨
  (∃ y, manyOf l rec_ close r = .bad y ∧ e = panE y ∧ Moved b w w')
def ItemsOK (l b : Nat) (s : List UInt8) : Prop := ∀ (k : Int) (rec_ : Bool) (close : UInt8), (k = 5 ∧ rec_ = false ∧ close = 93 ∨ k = 6 ∧ rec_ = true ∧ close = 125) → ∀ (w : World) (r : List UInt8), Rd w b s r →
  Calls Tryd.prog 67 #[.pointer (some ⟨b, 0, none⟩), valV k 0 ⟨#[]⟩ none 0 0 none 0 0, .string ⟨#[close]⟩, .int .i64 (l : Int)] w (ItOutL l k rec_ close r b s w)
set_option maxHeartbeats 1000000 in
set_option maxRecDepth 100000 in
theorem items_zero (k : Int) (close : UInt8) (b : Nat) (w : World) :
    Calls Tryd.prog 67 #[.pointer (some ⟨b, 0, none⟩), valV k 0 ⟨#[]⟩ none 0 0 none 0 0, .string ⟨#[close]⟩, .int .i64 0] w fun e w' => e = panE 42 ∧ Moved b w w' := by
  go_enter Tryd.func67, Tryd.ntmps67
  go_wp2_with (go_at_call 37; refine (litNeed_no _ _).mono ?_; rintro e wn ⟨rfl, rfl⟩)
  exact ⟨rfl, rfl, Moved.of_below (((Below.refl _ _).alloc (Nat.le_refl _) _).alloc (by simp) _)⟩
theorem itemsOK_zero (b : Nat) (s : List UInt8) : ItemsOK 0 b s := fun k rec_ close _ w r _ => (items_zero k close b w).mono fun e w' h => .inr ⟨42, rfl, h.1, h.2⟩
theorem itemsOK_succ (hPl : PlainOK) (hEn : EncOK) (l b : Nat) (s : List UInt8) (hl : l < 16) (hV : ValOK l b s) (hz : s.length ≤ 1000000000) : ItemsOK (l + 1) b s := by
  rintro k rec_ close (⟨rfl, rfl, rfl⟩ | ⟨rfl, rfl, rfl⟩) w r hR
  · exact items_list l b s r hl hV w hR hz
  · exact items_rec hPl hEn l b s r hl hV w hR hz
/-- The value's state: the reader, the result's box. -/
structure VI (w wr : World) (b : Nat) (s r' : List UInt8) : Prop where
  mv : Moved b w wr
  rd : Rd wr b s r'
  b0 : Blk wr w.heap.size 26 #[.int .i64 0, .int .i64 0, .string ⟨#[]⟩, .slice none 0 0, .slice none 0 0]
theorem VI.on {w wr wP : World} {b : Nat} {s r' r2 : List UInt8} (h : VI w wr b s r') (hb : b < w.heap.size) (hm : Moved b wr wP) (hr : Rd wP b s r2) : VI w wP b s r2 :=
  ⟨h.mv.trans hm, hr, hm.blk h.b0 (by omega)⟩
theorem VI.below {w wr wP : World} {b : Nat} {s r' : List UInt8} (h : VI w wr b s r') (hm : Below wr.heap.size wr wP) : VI w wP b s r' := ⟨h.mv.step hm, h.rd.below hm, h.b0.below hm h.b0.lt⟩
theorem VI.fin {w wP : World} {b : Nat} {s t : List UInt8} (h : VI w wP b s t) (hb : b < w.heap.size) {n : Nat} {v : Value} {d : VT n} (hV : IsV (freshB (w.heap.size + 1)) wP n v d) (v0 v1 v2 v3 v4 : Value) :
    IsV (freshB w.heap.size) (put5 wP w.heap.size v0 v1 v2 v3 v4) n v d ∧ Moved b w (put5 wP w.heap.size v0 v1 v2 v3 v4) ∧ Rd (put5 wP w.heap.size v0 v1 v2 v3 v4) b s t ∧ Blk (put5 wP w.heap.size v0 v1 v2 v3 v4) w.heap.size 26 #[v0, v1, v2, v3, v4] := by
  have hbl : Below w.heap.size wP (put5 wP w.heap.size v0 v1 v2 v3 v4) := put5_below wP (Nat.le_refl _) v0 v1 v2 v3 v4
  refine ⟨IsV.on ⟨by rw [put5_size]; exact Nat.le_refl _, ?_⟩ n _ _ hV, h.mv.upon hbl, h.rd.belowB hbl hb, put5_blk h.b0 _ _ _ _ _⟩
  rintro j hj ⟨h1, cs, t, h2⟩
  have he : (put5 wP w.heap.size v0 v1 v2 v3 v4).heap[j]? = wP.heap[j]? := by
    unfold put5
    rw [Below.heap_setCell _ _ _ j (by simp; omega), Below.heap_setCell _ _ _ j (by simp; omega), Below.heap_setCell _ _ _ j (by simp; omega), Below.heap_setCell _ _ _ j (by simp; omega), Below.heap_setCell _ _ _ j (by simp; omega)]
  exact ⟨he, by omega, cs, t, he.trans h2⟩
theorem leafV (U : World → Nat → Prop) (w : World) (l : Nat) (k i : Int) (s : List UInt8) : IsV U w (l + 1) (valV k i ⟨s.toArray⟩ none 0 0 none 0 0) (⟨k, i, s, [], []⟩ : VN (VT l)) :=
  IsV.made (n := l) (d := (⟨k, i, s, [], []⟩ : VN (VT l))) (a := none) (a2 := none) (c := 0) (c2 := 0) (fun j x hx => by simp at hx) (fun j x hx => by simp at hx)
theorem digR_any (b : Nat) (s r : List UInt8) (w : World) (hR : Rd w b s r) (hz : s.length ≤ 1000000000) :
    (∃ n t, digR r = some (n, t) ∧ Calls Tryd.prog 69 #[.pointer (some ⟨b, 0, none⟩)] w fun e w' => e = .returned (valV 3 n ⟨#[]⟩ none 0 0 none 0 0) ∧ Moved b w w' ∧ Rd w' b s t) ∨
    (digR r = none ∧ Calls Tryd.prog 69 #[.pointer (some ⟨b, 0, none⟩)] w fun e w' => e = panE 33 ∧ Moved b w w') := by
  have hc := dig_out b s r w hR hz
  rcases hs : digR r with _ | ⟨n, t⟩
  · refine .inr ⟨rfl, hc.mono ?_⟩
    rintro e w' (⟨n, t, h1, _⟩ | ⟨_, h2⟩)
    · rw [hs] at h1; exact absurd h1 (by simp)
    · exact h2
  · refine .inl ⟨n, t, rfl, hc.mono ?_⟩
    rintro e w' (⟨n', t', h1, h2⟩ | ⟨h1, _⟩)
    · rw [hs] at h1; simp at h1; rw [h1.1, h1.2]; exact h2
    · rw [hs] at h1; exact absurd h1 (by simp)
theorem ItemsOK.split {l b : Nat} {s : List UInt8} (h : ItemsOK l b s) (k : Int) (rec_ : Bool) (close : UInt8) (hk : k = 5 ∧ rec_ = false ∧ close = 93 ∨ k = 6 ∧ rec_ = true ∧ close = 125) (w : World) (r : List UInt8) (hR : Rd w b s r) :
    (∃ (ks : List (List UInt8)) (xs : List (VT l)) (t : List UInt8), manyOf l rec_ close r = .ok (ks, xs) t ∧ Calls Tryd.prog 67 #[.pointer (some ⟨b, 0, none⟩), valV k 0 ⟨#[]⟩ none 0 0 none 0 0, .string ⟨#[close]⟩, .int .i64 (l : Int)] w fun e w' => ∃ v, e = .returned v ∧ IsV (freshB w.heap.size) w' (l + 1) v (⟨k, 0, [], xs, ks⟩ : VN (VT l)) ∧ Moved b w w' ∧ Rd w' b s t) ∨
    (∃ y, manyOf l rec_ close r = .bad y ∧ Calls Tryd.prog 67 #[.pointer (some ⟨b, 0, none⟩), valV k 0 ⟨#[]⟩ none 0 0 none 0 0, .string ⟨#[close]⟩, .int .i64 (l : Int)] w fun e w' => e = panE y ∧ Moved b w w') := by
  have hc := h k rec_ close hk w r hR
  rcases hs : manyOf l rec_ close r with ⟨⟨ks, xs⟩, t⟩ | y
  · refine .inl ⟨ks, xs, t, rfl, hc.mono ?_⟩
    rintro e w' (⟨ks', xs', t', v, h1, h2⟩ | ⟨y, h1, _⟩)
    · rw [hs] at h1; injection h1 with h3 h4; injection h3 with h5 h6; subst h4; subst h5; subst h6; exact ⟨v, h2⟩
    · rw [hs] at h1; cases h1
  · refine .inr ⟨y, rfl, hc.mono ?_⟩
    rintro e w' (⟨ks', xs', t', v, h1, h2⟩ | ⟨y', h1, h2⟩)
    · rw [hs] at h1; cases h1
    · rw [hs] at h1; injection h1 with h3; subst h3; exact h2
def wordL : Nat → List UInt8
  | 0 => [110, 117, 108, 108]
  | 1 => [102, 97, 108, 115, 101]
  | _ => [116, 114, 117, 101]
theorem head_word (l : Nat) (r : List UInt8) (k : Nat) (hk : k < 3) (hno : ∀ j, j < k → (wordL j).isPrefixOf r = false) (h : (wordL k).isPrefixOf r = true) : readV risingK l r = .ok ⟨(k : Int), 0, [], [], []⟩ (r.drop (wordL k).length) := by
  rw [readV_head]
  unfold headR
  have h3 : k = 0 ∨ k = 1 ∨ k = 2 := by omega
  rcases h3 with rfl | rfl | rfl
  · have h : [110, 117, 108, 108].isPrefixOf r = true := h
    rw [if_pos h]; rfl
  · have h : [102, 97, 108, 115, 101].isPrefixOf r = true := h
    rw [if_neg (by rw [show [110, 117, 108, 108] = wordL 0 from rfl, hno 0 (by omega)]; simp), if_pos h]; rfl
  · have h : [116, 114, 117, 101].isPrefixOf r = true := h
    rw [if_neg (by rw [show [110, 117, 108, 108] = wordL 0 from rfl, hno 0 (by omega)]; simp), if_neg (by rw [show [102, 97, 108, 115, 101] = wordL 1 from rfl, hno 1 (by omega)]; simp), if_pos h]; rfl
theorem head_more (l : Nat) (r : List UInt8) (hno : ∀ j, j < 3 → (wordL j).isPrefixOf r = false) : readV risingK l r =
    if [34].isPrefixOf r then
      match strR r.length (r.drop 1) with
      | none => .bad 33
      | some (s, t) => .ok ⟨4, 0, s, [], []⟩ t
    else if [91].isPrefixOf r then
      match manyOf l false 93 (r.drop 1) with
      | .bad e => .bad e
      | .ok x t => .ok ⟨5, 0, [], x.2, x.1⟩ t
    else if [123].isPrefixOf r then
      match manyOf l true 125 (r.drop 1) with
      | .bad e => .bad e
      | .ok x t => if risingK x.1 then .ok ⟨6, 0, [], x.2, x.1⟩ t else .bad 33
    else
      match digR r with
      | none => .bad 33
      | some (n, t) => .ok ⟨3, n, [], [], []⟩ t := by
  rw [readV_head]
  unfold headR
  rw [if_neg (by rw [show [110, 117, 108, 108] = wordL 0 from rfl, hno 0 (by omega)]; simp), if_neg (by rw [show [102, 97, 108, 115, 101] = wordL 1 from rfl, hno 1 (by omega)]; simp), if_neg (by rw [show [116, 114, 117, 101] = wordL 2 from rfl, hno 2 (by omega)]; simp)]
  by_cases h1 : [34].isPrefixOf r = true
  · rw [if_pos h1, if_pos h1]
    cases strR r.length (r.drop 1) <;> rfl
  rw [if_neg h1, if_neg h1]
  by_cases h2 : [91].isPrefixOf r = true
  · rw [if_pos h2, if_pos h2]
    cases manyOf l false 93 (r.drop 1) <;> rfl
  rw [if_neg h2, if_neg h2]
  by_cases h3 : [123].isPrefixOf r = true
  · rw [if_pos h3, if_pos h3]
    cases manyOf l true 125 (r.drop 1) <;> rfl
  rw [if_neg h3, if_neg h3]
  cases digR r <;> rfl
set_option maxHeartbeats 4000000 in
set_option maxRecDepth 100000 in
theorem val_out (hPl : PlainOK) (hEn : EncOK) (l b : Nat) (s r : List UInt8) (hI : ItemsOK l b s) (hl : l ≤ 16) (w : World) (hR : Rd w b s r) (hz : s.length ≤ 1000000000) :
    Calls Tryd.prog 36 #[.pointer (some ⟨b, 0, none⟩), .int .i64 (l : Int)] w (ValOut l r b s w) := by
  have hb := hR.lt
  have hlr := hR.len
  obtain ⟨W, hW⟩ : ∃ W, (w.alloc (.cells #[.int .i64 0, .int .i64 0, .string ⟨#[]⟩, .slice none 0 0, .slice none 0 0] 26)).alloc (.cells #[.string ⟨#[110, 117, 108, 108]⟩, .string ⟨#[102, 97, 108, 115, 101]⟩, .string ⟨#[116, 114, 117, 101]⟩] 9) = W := ⟨_, rfl⟩
  have hBW : Below w.heap.size w W := by rw [← hW]; exact ((Below.refl _ _).alloc (Nat.le_refl _) _).alloc (by simp) _
  have hV0 : VI w W b s r := ⟨Moved.of_below hBW, hR.below hBW, by rw [← hW]; exact (Blk.new w _ _).alloc _⟩
  have hS0 : Blk W (w.heap.size + 1) 9 #[.string ⟨#[110, 117, 108, 108]⟩, .string ⟨#[102, 97, 108, 115, 101]⟩, .string ⟨#[116, 114, 117, 101]⟩] := by
    rw [← hW]
    have := Blk.new (w.alloc (.cells #[.int .i64 0, .int .i64 0, .string ⟨#[]⟩, .slice none 0 0, .slice none 0 0] 26)) 9 #[.string ⟨#[110, 117, 108, 108]⟩, .string ⟨#[102, 97, 108, 115, 101]⟩, .string ⟨#[116, 114, 117, 101]⟩]
    simpa using this
  have HV0 := hide hV0; have HS0 := hide hS0
  have HII := hide hI; have HPL := hide hPl; have HEN := hide hEn; have HW := hide hW
  clear hV0 hS0 hI hPl hEn hR hBW hW
  go_enter Tryd.func36, Tryd.ntmps36
  go_wp2_with fail
  rw [HW.out]
  go_loopw [10] (fun i wr => ∃ (k : Nat), i = .int .i64 (k : Int) ∧ k ≤ 3 ∧ Hid (VI w wr b s r) ∧ Hid (∀ j, j < k → (wordL j).isPrefixOf r = false) ∧ Hid (Blk wr (w.heap.size + 1) 9 #[.string ⟨#[110, 117, 108, 108]⟩, .string ⟨#[102, 97, 108, 115, 101]⟩, .string ⟨#[116, 114, 117, 101]⟩])) (fun i _ => 3 - (intOf i).toNat)
  case atStart => exact ⟨0, rfl, Nat.zero_le _, HV0, hide (fun j h => absurd h (Nat.not_lt_zero _)), HS0⟩
  case round =>
    obtain ⟨k, rfl, hk3, HV, hno, HS⟩ := hrel
    clear HV0 HS0
    by_cases hlt : k < 3
    · have hki : (k : Int) < 3 := by omega
      have hc : (#[.string ⟨#[110, 117, 108, 108]⟩, .string ⟨#[102, 97, 108, 115, 101]⟩, .string ⟨#[116, 114, 117, 101]⟩] : Array Value)[k]? = some (.string ⟨(wordL k).toArray⟩) := by
        have h3 : k = 0 ∨ k = 1 ∨ k = 2 := by omega
        rcases h3 with rfl | rfl | rfl <;> rfl
      have hwl : (wordL k).length ≤ 1000 := by
        have h3 : k = 0 ∨ k = 1 ∨ k = 2 := by omega
        rcases h3 with rfl | rfl | rfl <;> decide
      have hcell := (HS.out.cell k).trans hc
      have cT := hide (took_any b s r (wordL k) wr HV.out.rd hz hwl)
      have hwk := fun h => head_word l r k hlt hno.out h
      have hne : w.heap.size + 1 ≠ b := by omega
      obtain ⟨T, hT⟩ : ∃ T, wordL k = T := ⟨_, rfl⟩
      rw [hT] at cT hcell hwk
      have HT := hide hT
      clear hc hwl hT
      rcases Bool.eq_false_or_eq_true (T.isPrefixOf r) with hp | hp
      · have HR1 := hide (hwk hp)
        rw [hp] at cT
        clear hwk
        go_wp2_with fail
        refine cT.out.mono ?_
        rintro e w1 ⟨rfl, hM1, hR1⟩
        have hR1 : Rd w1 b s (r.drop T.length) := by simpa using hR1
        have HV1 := hide (HV.out.on hb hM1 hR1)
        have hL := hide (leafV (freshB (w.heap.size + 1)) w1 l (k : Int) 0 [])
        clear hM1 hR1 cT HV HS hcell
        have o0 := HV1.out.b0.cell 0; have o1 := HV1.out.b0.cell 1; have o2 := HV1.out.b0.cell 2; have o3 := HV1.out.b0.cell 3; have o4 := HV1.out.b0.cell 4
        have y0 := HV1.out.b0.frozen 0; have y1 := HV1.out.b0.frozen 1; have y2 := HV1.out.b0.frozen 2; have y3 := HV1.out.b0.frozen 3; have y4 := HV1.out.b0.frozen 4
        simp at o0 o1 o2 o3 o4
        go_wp2_with fail
        obtain ⟨hV5, hM5, hR5, hK5⟩ := HV1.out.fin hb hL.out (.int .i64 (k : Int)) (.int .i64 0) (.string ⟨#[]⟩) (.slice none 0 0) (.slice none 0 0)
        unfold put5 at hV5 hM5 hR5 hK5
        clear o0 o1 o2 o3 o4 y0 y1 y2 y3 y4
        generalize ((((w1.setCell ⟨w.heap.size, 0, none⟩ (.int .i64 (k : Int))).setCell ⟨w.heap.size, 1, none⟩ (.int .i64 0)).setCell ⟨w.heap.size, 2, none⟩ (.string ⟨#[]⟩)).setCell ⟨w.heap.size, 3, none⟩ (.slice none 0 0)).setCell ⟨w.heap.size, 4, none⟩ (.slice none 0 0) = w9 at hV5 hM5 hR5 hK5 ⊢
        have r0 := hK5.cell 0; have r1 := hK5.cell 1; have r2 := hK5.cell 2; have r3 := hK5.cell 3; have r4 := hK5.cell 4
        simp at r0 r1 r2 r3 r4
        have HV5 := hide hV5; have HM5 := hide hM5; have HR5 := hide hR5
        clear hV5 hM5 hR5
        (try simp only [Exit.inBlock, Exit.then])
        refine bodyPost_ret (v := valV (k : Int) 0 ⟨#[]⟩ none 0 0 none 0 0) ?_ rfl (show ValOut l r b s w _ _ from .inl ⟨_, _, _, HR1.out, rfl, HV5.out, HM5.out, HR5.out⟩)
        simp [results, Tryd.results36, go_sem, r0, r1, r2, r3, r4]
      · have hno2 : Hid (∀ j, j < k + 1 → (wordL j).isPrefixOf r = false) := hide (fun j hj => if e : j = k then by rw [e, HT.out]; exact hp else hno.out j (by omega))
        rw [hp] at cT
        clear hwk
        go_wp2_with fail
        refine cT.out.mono ?_
        rintro e w1 ⟨rfl, hM1, hR1⟩
        have hR1 : Rd w1 b s r := by simpa using hR1
        have HV1 := hide (HV.out.on hb hM1 hR1)
        have HS1 := hide (hM1.blk HS.out hne)
        clear hM1 hR1 cT HV HS hcell
        go_wp2_with fail
        go_roundw
        case rel => exact ⟨k + 1, by go_num, by omega, HV1, hno2, HS1⟩
        case measure => simp [intOf]; omega
    · have hk : k = 3 := by omega
      subst hk
      have hmore := head_more l r hno.out
      have cQ := hide (took_any b s r [34] wr HV.out.rd hz (by simp))
      clear HS hno hlt hk3
      rcases Bool.eq_false_or_eq_true ([34].isPrefixOf r) with h1 | h1
      · rw [h1, if_pos rfl] at hmore
        rw [h1] at cQ
        go_wp2_with fail
        refine cQ.out.mono ?_
        rintro e w1 ⟨rfl, hM1, hR1⟩
        have hR1 : Rd w1 b s (r.drop 1) := by simpa using hR1
        have HV1 := hide (HV.out.on hb hM1 hR1)
        have hlt1 : (r.drop 1).length + 1 ≤ r.length := by
          have : 1 ≤ r.length := (List.isPrefixOf_iff_prefix.1 h1).length_le
          simp; omega
        clear hM1 hR1 cQ HV
        rcases str_any HPL.out HEN.out b r.length s (r.drop 1) w1 HV1.out.rd hz (by omega) with ⟨x, t, hs, cS⟩ | ⟨hs, cS⟩
        · have HR1 := hide (show readV risingK l r = .ok ⟨4, 0, x, [], []⟩ t by rw [hmore, hs])
          have cS := hide cS
          clear hmore
          go_wp2_with fail
          refine cS.out.mono ?_
          rintro e w2 ⟨rfl, hM2, hR2⟩
          have HV2 := hide (HV1.out.on hb hM2 hR2)
          have hL := hide (leafV (freshB (w.heap.size + 1)) w2 l 4 0 x)
          clear hM2 hR2 cS HV1
          have o0 := HV2.out.b0.cell 0; have o1 := HV2.out.b0.cell 1; have o2 := HV2.out.b0.cell 2; have o3 := HV2.out.b0.cell 3; have o4 := HV2.out.b0.cell 4
          have y0 := HV2.out.b0.frozen 0; have y1 := HV2.out.b0.frozen 1; have y2 := HV2.out.b0.frozen 2; have y3 := HV2.out.b0.frozen 3; have y4 := HV2.out.b0.frozen 4
          simp at o0 o1 o2 o3 o4
          go_wp2_with fail
          obtain ⟨hV5, hM5, hR5, hK5⟩ := HV2.out.fin hb hL.out (.int .i64 4) (.int .i64 0) (.string ⟨x.toArray⟩) (.slice none 0 0) (.slice none 0 0)
          unfold put5 at hV5 hM5 hR5 hK5
          clear o0 o1 o2 o3 o4 y0 y1 y2 y3 y4
          generalize ((((w2.setCell ⟨w.heap.size, 0, none⟩ (.int .i64 4)).setCell ⟨w.heap.size, 1, none⟩ (.int .i64 0)).setCell ⟨w.heap.size, 2, none⟩ (.string ⟨x.toArray⟩)).setCell ⟨w.heap.size, 3, none⟩ (.slice none 0 0)).setCell ⟨w.heap.size, 4, none⟩ (.slice none 0 0) = w9 at hV5 hM5 hR5 hK5 ⊢
          have r0 := hK5.cell 0; have r1 := hK5.cell 1; have r2 := hK5.cell 2; have r3 := hK5.cell 3; have r4 := hK5.cell 4
          simp at r0 r1 r2 r3 r4
          have HV5 := hide hV5; have HM5 := hide hM5; have HR5 := hide hR5
          clear hV5 hM5 hR5
          (try simp only [Exit.inBlock, Exit.then])
          refine bodyPost_ret (v := valV 4 0 ⟨x.toArray⟩ none 0 0 none 0 0) ?_ rfl (show ValOut l r b s w _ _ from .inl ⟨_, _, _, HR1.out, rfl, HV5.out, HM5.out, HR5.out⟩)
          simp [results, Tryd.results36, go_sem, r0, r1, r2, r3, r4]
        · have HR1 := hide (show readV risingK l r = .bad 33 by rw [hmore, hs])
          have cS := hide cS
          clear hmore
          go_wp2_with fail
          refine cS.out.mono ?_
          rintro e w2 ⟨rfl, hM2⟩
          exact ⟨rfl, (show ValOut l r b s w _ _ from .inr ⟨33, HR1.out, rfl, HV1.out.mv.trans hM2⟩)⟩
      rw [h1, if_neg (by simp)] at hmore
      rw [h1] at cQ
      go_wp2_with fail
      refine cQ.out.mono ?_
      rintro e w1 ⟨rfl, hM1, hR1⟩
      have hR1 : Rd w1 b s r := by simpa using hR1
      have HV1 := hide (HV.out.on hb hM1 hR1)
      clear hM1 hR1 cQ HV
      have cQ := hide (took_any b s r [91] w1 HV1.out.rd hz (by simp))
      rcases Bool.eq_false_or_eq_true ([91].isPrefixOf r) with h2 | h2
      · rw [h2, if_pos rfl] at hmore
        rw [h2] at cQ
        go_wp2_with fail
        refine cQ.out.mono ?_
        rintro e w2 ⟨rfl, hM2, hR2⟩
        have hR2 : Rd w2 b s (r.drop 1) := by simpa using hR2
        have HV2 := hide (HV1.out.on hb hM2 hR2)
        have hgs := HV2.out.b0.lt
        clear hM2 hR2 cQ HV1
        rcases ItemsOK.split HII.out 5 false 93 (.inl ⟨rfl, rfl, rfl⟩) w2 (r.drop 1) HV2.out.rd with ⟨ks, xs, t, hs, cS⟩ | ⟨y, hs, cS⟩
        · have HR1 := hide (show readV risingK l r = .ok ⟨5, 0, [], xs, ks⟩ t by rw [hmore, hs])
          have cS := hide cS
          clear hmore
          go_wp2_with fail
          refine cS.out.mono ?_
          rintro e w3 ⟨v', rfl, hV3, hM3, hR3⟩
          obtain ⟨a, c, a2, c2, rfl, hS3, hL3⟩ := hV3.parts
          have HV3 := hide (HV2.out.on hb hM3 hR3)
          have hL := hide (fresh_from (N := w.heap.size + 1) (by omega) hV3)
          simp only at hL
          clear hM3 hR3 cS HV2 hV3 hS3 hL3
          have o0 := HV3.out.b0.cell 0; have o1 := HV3.out.b0.cell 1; have o2 := HV3.out.b0.cell 2; have o3 := HV3.out.b0.cell 3; have o4 := HV3.out.b0.cell 4
          have y0 := HV3.out.b0.frozen 0; have y1 := HV3.out.b0.frozen 1; have y2 := HV3.out.b0.frozen 2; have y3 := HV3.out.b0.frozen 3; have y4 := HV3.out.b0.frozen 4
          simp at o0 o1 o2 o3 o4
          go_wp2_with fail
          obtain ⟨hV5, hM5, hR5, hK5⟩ := HV3.out.fin hb hL.out (.int .i64 5) (.int .i64 0) (.string ⟨#[]⟩) (.slice a xs.length c) (.slice a2 ks.length c2)
          unfold put5 at hV5 hM5 hR5 hK5
          clear o0 o1 o2 o3 o4 y0 y1 y2 y3 y4
          generalize ((((w3.setCell ⟨w.heap.size, 0, none⟩ (.int .i64 5)).setCell ⟨w.heap.size, 1, none⟩ (.int .i64 0)).setCell ⟨w.heap.size, 2, none⟩ (.string ⟨#[]⟩)).setCell ⟨w.heap.size, 3, none⟩ (.slice a xs.length c)).setCell ⟨w.heap.size, 4, none⟩ (.slice a2 ks.length c2) = w9 at hV5 hM5 hR5 hK5 ⊢
          have r0 := hK5.cell 0; have r1 := hK5.cell 1; have r2 := hK5.cell 2; have r3 := hK5.cell 3; have r4 := hK5.cell 4
          simp at r0 r1 r2 r3 r4
          have HV5 := hide hV5; have HM5 := hide hM5; have HR5 := hide hR5
          clear hV5 hM5 hR5
          (try simp only [Exit.inBlock, Exit.then])
          refine bodyPost_ret (v := valV 5 0 ⟨#[]⟩ a xs.length c a2 ks.length c2) ?_ rfl (show ValOut l r b s w _ _ from .inl ⟨_, _, _, HR1.out, rfl, HV5.out, HM5.out, HR5.out⟩)
          simp [results, Tryd.results36, go_sem, r0, r1, r2, r3, r4]
        · have HR1 := hide (show readV risingK l r = .bad y by rw [hmore, hs])
          have cS := hide cS
          clear hmore
          go_wp2_with fail
          refine cS.out.mono ?_
          rintro e w3 ⟨rfl, hM3⟩
          exact ⟨rfl, (show ValOut l r b s w _ _ from .inr ⟨y, HR1.out, rfl, HV2.out.mv.trans hM3⟩)⟩
      rw [h2, if_neg (by simp)] at hmore
      rw [h2] at cQ
      go_wp2_with fail
      refine cQ.out.mono ?_
      rintro e w2 ⟨rfl, hM2, hR2⟩
      have hR2 : Rd w2 b s r := by simpa using hR2
      have HV2 := hide (HV1.out.on hb hM2 hR2)
      clear hM2 hR2 cQ HV1
      have cQ := hide (took_any b s r [123] w2 HV2.out.rd hz (by simp))
      rcases Bool.eq_false_or_eq_true ([123].isPrefixOf r) with h3 | h3
      · rw [h3, if_pos rfl] at hmore
        rw [h3] at cQ
        go_wp2_with fail
        refine cQ.out.mono ?_
        rintro e w3 ⟨rfl, hM3, hR3⟩
        have hR3 : Rd w3 b s (r.drop 1) := by simpa using hR3
        have HV3 := hide (HV2.out.on hb hM3 hR3)
        have hgs := HV3.out.b0.lt
        clear hM3 hR3 cQ HV2
        rcases ItemsOK.split HII.out 6 true 125 (.inr ⟨rfl, rfl, rfl⟩) w3 (r.drop 1) HV3.out.rd with ⟨ks, xs, t, hs, cS⟩ | ⟨y, hs, cS⟩
        · have hmass : keysM ks + sumBy (massV l) xs + t.length ≤ (r.drop 1).length := by
            cases l with
            | zero => exact absurd hs (by simp [manyOf])
            | succ l => exact many_mass (M := massV (l + 1)) (fun r x t h => readV_mass risingK l r t x h) _ _ (ks, xs) hs
          have hksl : ks.length ≤ keysM ks := sumBy_len _ (fun k => by omega) ks
          have hkeach : ∀ k ∈ ks, k.length ≤ 140737488351232 := fun k hk => by
            have := sumBy_mem (fun k : List UInt8 => k.length + 1) ks k hk
            have h5 : (r.drop 1).length ≤ r.length := by simp
            have h6 : sumBy (fun k : List UInt8 => k.length + 1) ks = keysM ks := rfl
            omega
          have hk16 : ks.length * 16 ≤ 140737488351232 := by
            have h5 : (r.drop 1).length ≤ r.length := by simp
            omega
          have hmore2 : readV risingK l r = if risingK ks then .ok ⟨6, 0, [], xs, ks⟩ t else .bad 33 := by rw [hmore, hs]
          have cS := hide cS
          have HKE := hide hkeach
          clear hmore hmass hksl hkeach
          go_wp2_with fail
          refine cS.out.mono ?_
          rintro e w4 ⟨v', rfl, hV4, hM4, hR4⟩
          obtain ⟨a, c, a2, c2, rfl, hS4, hL4⟩ := hV4.parts
          simp only at hS4 hL4
          have HV4 := hide (HV3.out.on hb hM4 hR4)
          have HL4 := hide (fresh_from (N := w.heap.size + 1) (by omega) hV4)
          have HS4 := hide hS4
          have hM4s := hM4.size
          have hg4 := HV4.out.b0.lt
          clear hM4 hR4 cS HV3 hV4 hS4 hL4
          have cRi := hide (fun W' (hW : Below w4.heap.size w4 W') => litRising_any (freshB w3.heap.size) a2 c2 ks W' (HS4.out.on (stays_fresh hW)) hk16 HKE.out)
          have hK7 := Blk.new w4 26 #[.int .i64 6, .int .i64 0, .string ⟨#[]⟩, .slice a xs.length c, .slice a2 ks.length c2]
          have hB5 := (Below.refl w4.heap.size w4).alloc (Nat.le_refl _) (.cells #[.int .i64 6, .int .i64 0, .string ⟨#[]⟩, .slice a xs.length c, .slice a2 ks.length c2] 26)
          have cR2 := hide (cRi.out _ hB5)
          generalize hw5 : w4.alloc (.cells #[.int .i64 6, .int .i64 0, .string ⟨#[]⟩, .slice a xs.length c, .slice a2 ks.length c2] 26) = w5 at hK7 hB5 cR2
          have HW5 := hide hw5
          have q4 := hK7.cell 4
          simp at q4
          have HK7 := hide hK7
          have HB5 := hide hB5
          clear hw5 hK7 hB5 cRi
          go_wp2_with fail
          rw [HW5.out]
          go_wp2_with (go_at_call 68; refine (cR2.out).mono ?_; rintro e w6 ⟨rfl, hb6⟩; have HB6 := hide (below_step HB5.out hb6); have HK76 := hide (HK7.out.below hb6 HK7.out.lt); clear hb6)
          rcases Bool.eq_false_or_eq_true (risingK ks) with hrk | hrk
          · have HR1 := hide (show readV risingK l r = .ok ⟨6, 0, [], xs, ks⟩ t by rw [hmore2, hrk, if_pos rfl])
            have HV6 := hide (HV4.out.below HB6.out)
            have hL := hide (IsV.on (stays_fresh HB6.out) (l + 1) _ _ HL4.out)
            have q0 := HK76.out.cell 0; have q1 := HK76.out.cell 1; have q2 := HK76.out.cell 2; have q3 := HK76.out.cell 3; have q5 := HK76.out.cell 4
            simp at q0 q1 q2 q3 q5
            rw [hrk]
            clear hmore2 HV4 HL4 HS4 q4 cR2 HK76 hrk HB6 HB5
            have o0 := HV6.out.b0.cell 0; have o1 := HV6.out.b0.cell 1; have o2 := HV6.out.b0.cell 2; have o3 := HV6.out.b0.cell 3; have o4 := HV6.out.b0.cell 4
            have y0 := HV6.out.b0.frozen 0; have y1 := HV6.out.b0.frozen 1; have y2 := HV6.out.b0.frozen 2; have y3 := HV6.out.b0.frozen 3; have y4 := HV6.out.b0.frozen 4
            simp at o0 o1 o2 o3 o4
            go_wp2_with (go_at_call 37; refine (litNeed_yes _ _).mono ?_; rintro e wn ⟨rfl, rfl⟩)
            obtain ⟨hV5, hM5, hR5, hK5⟩ := HV6.out.fin hb hL.out (.int .i64 6) (.int .i64 0) (.string ⟨#[]⟩) (.slice a xs.length c) (.slice a2 ks.length c2)
            unfold put5 at hV5 hM5 hR5 hK5
            clear o0 o1 o2 o3 o4 y0 y1 y2 y3 y4
            generalize ((((w6.setCell ⟨w.heap.size, 0, none⟩ (.int .i64 6)).setCell ⟨w.heap.size, 1, none⟩ (.int .i64 0)).setCell ⟨w.heap.size, 2, none⟩ (.string ⟨#[]⟩)).setCell ⟨w.heap.size, 3, none⟩ (.slice a xs.length c)).setCell ⟨w.heap.size, 4, none⟩ (.slice a2 ks.length c2) = w9 at hV5 hM5 hR5 hK5 ⊢
            have r0 := hK5.cell 0; have r1 := hK5.cell 1; have r2 := hK5.cell 2; have r3 := hK5.cell 3; have r4 := hK5.cell 4
            simp at r0 r1 r2 r3 r4
            have HV5 := hide hV5; have HM5 := hide hM5; have HR5 := hide hR5
            clear hV5 hM5 hR5
            (try simp only [Exit.inBlock, Exit.then])
            refine bodyPost_ret (v := valV 6 0 ⟨#[]⟩ a xs.length c a2 ks.length c2) ?_ rfl (show ValOut l r b s w _ _ from .inl ⟨_, _, _, HR1.out, rfl, HV5.out, HM5.out, HR5.out⟩)
            simp [results, Tryd.results36, go_sem, r0, r1, r2, r3, r4]
          · have HR1 := hide (show readV risingK l r = .bad 33 by rw [hmore2, hrk]; rfl)
            rw [hrk]
            go_wp2_with (go_at_call 37; refine (litNeed_no _ _).mono ?_; rintro e wn ⟨rfl, rfl⟩)
            exact ⟨rfl, (show ValOut l r b s w _ _ from .inr ⟨33, HR1.out, rfl, HV4.out.mv.step HB6.out⟩)⟩
        · have HR1 := hide (show readV risingK l r = .bad y by rw [hmore, hs])
          have cS := hide cS
          clear hmore
          go_wp2_with fail
          refine cS.out.mono ?_
          rintro e w4 ⟨rfl, hM4⟩
          exact ⟨rfl, (show ValOut l r b s w _ _ from .inr ⟨y, HR1.out, rfl, HV3.out.mv.trans hM4⟩)⟩
      rw [h3, if_neg (by simp)] at hmore
      rw [h3] at cQ
      go_wp2_with fail
      refine cQ.out.mono ?_
      rintro e w3 ⟨rfl, hM3, hR3⟩
      have hR3 : Rd w3 b s r := by simpa using hR3
      have HV3 := hide (HV2.out.on hb hM3 hR3)
      clear hM3 hR3 cQ HV2
      rcases digR_any b s r w3 HV3.out.rd hz with ⟨n, t, hs, cS⟩ | ⟨hs, cS⟩
      · have HR1 := hide (show readV risingK l r = .ok ⟨3, n, [], [], []⟩ t by rw [hmore, hs])
        have cS := hide cS
        clear hmore
        go_wp2_with fail
        refine cS.out.mono ?_
        rintro e w4 ⟨rfl, hM4, hR4⟩
        have HV4 := hide (HV3.out.on hb hM4 hR4)
        have hL := hide (leafV (freshB (w.heap.size + 1)) w4 l 3 n [])
        clear hM4 hR4 cS HV3
        have o0 := HV4.out.b0.cell 0; have o1 := HV4.out.b0.cell 1; have o2 := HV4.out.b0.cell 2; have o3 := HV4.out.b0.cell 3; have o4 := HV4.out.b0.cell 4
        have y0 := HV4.out.b0.frozen 0; have y1 := HV4.out.b0.frozen 1; have y2 := HV4.out.b0.frozen 2; have y3 := HV4.out.b0.frozen 3; have y4 := HV4.out.b0.frozen 4
        simp at o0 o1 o2 o3 o4
        go_wp2_with fail
        obtain ⟨hV5, hM5, hR5, hK5⟩ := HV4.out.fin hb hL.out (.int .i64 3) (.int .i64 n) (.string ⟨#[]⟩) (.slice none 0 0) (.slice none 0 0)
        unfold put5 at hV5 hM5 hR5 hK5
        clear o0 o1 o2 o3 o4 y0 y1 y2 y3 y4
        generalize ((((w4.setCell ⟨w.heap.size, 0, none⟩ (.int .i64 3)).setCell ⟨w.heap.size, 1, none⟩ (.int .i64 n)).setCell ⟨w.heap.size, 2, none⟩ (.string ⟨#[]⟩)).setCell ⟨w.heap.size, 3, none⟩ (.slice none 0 0)).setCell ⟨w.heap.size, 4, none⟩ (.slice none 0 0) = w9 at hV5 hM5 hR5 hK5 ⊢
        have r0 := hK5.cell 0; have r1 := hK5.cell 1; have r2 := hK5.cell 2; have r3 := hK5.cell 3; have r4 := hK5.cell 4
        simp at r0 r1 r2 r3 r4
        have HV5 := hide hV5; have HM5 := hide hM5; have HR5 := hide hR5
        clear hV5 hM5 hR5
        (try simp only [Exit.inBlock, Exit.then])
        refine bodyPost_ret (v := valV 3 n ⟨#[]⟩ none 0 0 none 0 0) ?_ rfl (show ValOut l r b s w _ _ from .inl ⟨_, _, _, HR1.out, rfl, HV5.out, HM5.out, HR5.out⟩)
        simp [results, Tryd.results36, go_sem, r0, r1, r2, r3, r4]
      · have HR1 := hide (show readV risingK l r = .bad 33 by rw [hmore, hs])
        have cS := hide cS
        clear hmore
        go_wp2_with fail
        refine cS.out.mono ?_
        rintro e w4 ⟨rfl, hM4⟩
        exact ⟨rfl, (show ValOut l r b s w _ _ from .inr ⟨33, HR1.out, rfl, HV3.out.mv.trans hM4⟩)⟩
theorem valOK_all (hPl : PlainOK) (hEn : EncOK) (b : Nat) (s : List UInt8) (hz : s.length ≤ 1000000000) : ∀ l, l ≤ 16 → ValOK l b s ∧ ItemsOK l b s := by
  intro l
  induction l with
  | zero => intro _; exact ⟨fun w r hR => val_out hPl hEn 0 b s r (itemsOK_zero b s) (by omega) w hR hz, itemsOK_zero b s⟩
  | succ l ih =>
    intro hl
    have hI := itemsOK_succ hPl hEn l b s (by omega) (ih (by omega)).1 hz
    exact ⟨fun w r hR => val_out hPl hEn (l + 1) b s r hI hl w hR hz, hI⟩
end Go.Proofs.YtdnmgpidfjkiaaaDoor

namespace Go.Proofs.YtdnmgpidfjkiaaaDoor
open Go.RowKit
set_option linter.unusedVariables false
set_option linter.unusedSimpArgs false

theorem plainOK : PlainOK := fun m w h => plainC_any m h w
theorem encOK : EncOK := fun c w h => utfEncode_good c h w
theorem rd_assert_nil (W : World) : (Instr.typeAssert .nilIface 20 27 true).run Tryd.prog W = .ok (.tuple #[.int .i64 0, .bool false]) W := by kernel_rfl
theorem rd_assert_hit (y : Int) (W : World) : (Instr.typeAssert (errV y) 20 27 true).run Tryd.prog W = .ok (.tuple #[.int .i64 y, .bool true]) W := by kernel_rfl
set_option maxHeartbeats 1000000 in
set_option maxRecDepth 100000 in
theorem rd_idle (a1 a2 a3 : Addr) (w : World) :
    CallsD Tryd.prog 35 #[.pointer (some a1), .pointer (some a2), .pointer (some a3)] .returning w fun e u' w' => e = .returned (.tuple #[]) ∧ u' = .returning ∧ w' = w := by
  refine callsD_of_wpS Tryd.func35 rfl fun c₀ cs hu => ?_
  apply wpS_seq
  apply wpS_region
  simp [wpOpsS, go_sem, recoverD, hu, Tryd.ntmps35, Exit.thenS, rd_assert_nil, Array.replicate]
  apply wpS_seq
  apply wpS_region
  simp [wpOpsS, go_sem, Exit.thenS]
  refine wpS_cond (t := false) (by simp [Act.eval]) ?_
  simp only [Bool.false_eq_true, if_false]
  refine wpS_of_wp (wp_skip ?_)
  cases c₀
  simp_all [bodyPostS, results, Tryd.results35]
abbrev zero5 : Array Value := #[.int .i64 0, .int .i64 0, .string ⟨#[]⟩, .slice none 0 0, .slice none 0 0]
set_option maxHeartbeats 1000000 in
set_option maxRecDepth 100000 in
theorem rd_catch (r1 B : Nat) (u0 u1 u2 u3 u4 o2 o3 : Value) (y : Int) (w : World) (h1 : Blk w r1 26 #[u0, u1, u2, u3, u4]) (h2 : Blk w (r1 + 1) 3 #[o2]) (h3 : Blk w (r1 + 1 + 1) 27 #[o3]) (hB1 : B ≤ r1) :
    CallsD Tryd.prog 35 #[.pointer (some ⟨r1, 0, none⟩), .pointer (some ⟨r1 + 1, 0, none⟩), .pointer (some ⟨r1 + 1 + 1, 0, none⟩)] (.panicking [{ v := errV y, recovered := false }]) w fun e u' w' => e = .returned (.tuple #[]) ∧ u' = .panicking [{ v := errV y, recovered := true }] ∧ Below B w w' ∧ Blk w' r1 26 zero5 ∧ Blk w' (r1 + 1) 3 #[.int .i64 0] ∧ Blk w' (r1 + 1 + 1) 27 #[.int .i64 y] := by
  have l1 := h1.lt; have l2 := h2.lt; have l3 := h3.lt
  have c0 := h1.cell 0; have c1 := h1.cell 1; have c2 := h1.cell 2; have c3 := h1.cell 3; have c4 := h1.cell 4; have d2 := h2.cell 0; have d3 := h3.cell 0
  have f0 := h1.frozen 0; have f1 := h1.frozen 1; have f2 := h1.frozen 2; have f3 := h1.frozen 3; have f4 := h1.frozen 4; have e2 := h2.frozen 0; have e3 := h3.frozen 0
  simp at c0 c1 c2 c3 c4 d2 d3
  refine callsD_of_wpS Tryd.func35 rfl fun c₀ cs hu => ?_
  apply wpS_seq
  apply wpS_region
  simp [wpOpsS, go_sem, recoverD, hu, Tryd.ntmps35, Exit.thenS, rd_assert_hit, Array.replicate]
  apply wpS_seq
  apply wpS_region
  simp [wpOpsS, go_sem, Exit.thenS]
  refine wpS_cond (t := true) (by simp [Act.eval]) ?_
  simp only [if_true]
  refine wpS_of_wp ?_
  go_wp2_with fail
  have K1 := (put5_blk h1 (.int .i64 0) (.int .i64 0) (.string ⟨#[]⟩) (.slice none 0 0) (.slice none 0 0))
  have K1 := (K1.far (p := ⟨r1 + 1, 0, none⟩) (by simp) (.int .i64 0)).far (p := ⟨r1 + 1 + 1, 0, none⟩) (by simp; omega) (.int .i64 y)
  have K2 := ((put5_far h2 (show r1 + 1 ≠ r1 by omega) (.int .i64 0) (.int .i64 0) (.string ⟨#[]⟩) (.slice none 0 0) (.slice none 0 0)).set_ 0 (.int .i64 0)).far (p := ⟨r1 + 1 + 1, 0, none⟩) (by simp) (.int .i64 y)
  have K3 := ((put5_far h3 (show r1 + 1 + 1 ≠ r1 by omega) (.int .i64 0) (.int .i64 0) (.string ⟨#[]⟩) (.slice none 0 0) (.slice none 0 0)).far (p := ⟨r1 + 1, 0, none⟩) (by simp) (.int .i64 0)).set_ 0 (.int .i64 y)
  have KB := ((put5_below w hB1 (.int .i64 0) (.int .i64 0) (.string ⟨#[]⟩) (.slice none 0 0) (.slice none 0 0)).setCell (p := ⟨r1 + 1, 0, none⟩) (by simp; omega) (.int .i64 0)).setCell (p := ⟨r1 + 1 + 1, 0, none⟩) (by simp; omega) (.int .i64 y)
  simp only [List.setIfInBounds_toArray, List.set_cons_zero] at K2 K3
  simp [bodyPostS, results, Tryd.results35]
  exact ⟨KB, K1, K2, K3⟩
def ReadOut (s : List UInt8) (w : World) (e : Ending) (w' : World) : Prop :=
  (∃ (d : VN (VT 16)) (v : Value), readR risingK s = .ok d [] ∧ e = .returned (.tuple #[v, .int .i64 (s.length : Int), .int .i64 0]) ∧ IsV (freshB w.heap.size) w' 17 v d ∧ Below w.heap.size w w') ∨
  (∃ y, readR risingK s = .bad y ∧ e = .returned (.tuple #[valV 0 0 ⟨#[]⟩ none 0 0 none 0 0, .int .i64 0, .int .i64 y]) ∧ Below w.heap.size w w')
/-- The results' boxes. -/
structure RB (w wr : World) (u0 u1 u2 u3 u4 : Value) : Prop where
  bel : Below w.heap.size w wr
  b0 : Blk wr w.heap.size 26 #[u0, u1, u2, u3, u4]
  b1 : Blk wr (w.heap.size + 1) 3 #[.int .i64 0]
  b2 : Blk wr (w.heap.size + 1 + 1) 27 #[.int .i64 0]
theorem RB.on {w wr wP : World} {u0 u1 u2 u3 u4 : Value} (h : RB w wr u0 u1 u2 u3 u4) (hm : Moved (w.heap.size + 1 + 1 + 1) wr wP) : RB w wP u0 u1 u2 u3 u4 :=
  ⟨h.bel.trans (hm.below (by omega) h.bel.size), hm.blk h.b0 (by omega), hm.blk h.b1 (by omega), hm.blk h.b2 (by omega)⟩
theorem rd_fault (s : List UInt8) (w wr : World) (u0 u1 u2 u3 u4 : Value) (y : Int) (tmps : Array Value) (hB : RB w wr u0 u1 u2 u3 u4) (hT : readR risingK s = .bad y) (h0 : tmps[2]?.getD undef = .pointer (some ⟨w.heap.size, 0, none⟩)) (h1 : tmps[3]?.getD undef = .pointer (some ⟨w.heap.size + 1, 0, none⟩)) (h2 : tmps[4]?.getD undef = .pointer (some ⟨w.heap.size + 1 + 1, 0, none⟩)) :
    Leaves Tryd.prog Tryd.f12 tmps (ReadOut s w)
      [{ target := .fn (.func 35) #[.pointer (some ⟨w.heap.size, 0, none⟩), .pointer (some ⟨w.heap.size + 1, 0, none⟩), .pointer (some ⟨w.heap.size + 1 + 1, 0, none⟩)], args := #[] }] (.panicking [{ v := errV y, recovered := false }]) wr := by
  refine leaves_cons (f := 35) (args := #[.pointer (some ⟨w.heap.size, 0, none⟩), .pointer (some ⟨w.heap.size + 1, 0, none⟩), .pointer (some ⟨w.heap.size + 1 + 1, 0, none⟩)]) (by simp) (by simp [go_sem]) ?_
  refine (rd_catch w.heap.size w.heap.size _ _ _ _ _ _ _ y wr hB.b0 hB.b1 hB.b2 (Nat.le_refl _)).mono ?_
  rintro e u' w' ⟨rfl, rfl, KB, K0, K1, K2⟩
  have c0 := K0.cell 0; have c1 := K0.cell 1; have c2 := K0.cell 2; have c3 := K0.cell 3; have c4 := K0.cell 4; have d1 := K1.cell 0; have d2 := K2.cell 0
  simp at c0 c1 c2 c3 c4 d1 d2
  have hBB := hB.bel.trans KB
  simp [Leaves, settle, results, Tryd.results12, go_sem, h0, h1, h2, c0, c1, c2, c3, c4, d1, d2]
  exact .inr ⟨y, hT, rfl, hBB⟩
set_option maxHeartbeats 2000000 in
set_option maxRecDepth 100000 in
theorem read_any (s : List UInt8) (w : World) (hz : s.length ≤ 1000000000) : Calls Tryd.prog 12 #[.string ⟨s.toArray⟩] w (ReadOut s w) := by
  have hmf : ∀ (fn : Fn) (first cap : Array Value) (w : World), (Instr.makeFunc fn first cap).run Tryd.prog w = .ok (.func fn first cap) w := fun _ _ _ _ => rfl
  have hV0 := (((Blk.new w 26 zero5).alloc (.cells #[.int .i64 0] 3)).alloc (.cells #[.int .i64 0] 27)).alloc (.cells #[.string ⟨s.toArray⟩, .int .i64 0] 60)
  have hN0 := ((Blk.new (w.alloc (.cells zero5 26)) 3 #[.int .i64 0]).alloc (.cells #[.int .i64 0] 27)).alloc (.cells #[.string ⟨s.toArray⟩, .int .i64 0] 60)
  have hE0 := (Blk.new ((w.alloc (.cells zero5 26)).alloc (.cells #[.int .i64 0] 3)) 27 #[.int .i64 0]).alloc (.cells #[.string ⟨s.toArray⟩, .int .i64 0] 60)
  have hK0 := Blk.new (((w.alloc (.cells zero5 26)).alloc (.cells #[.int .i64 0] 3)).alloc (.cells #[.int .i64 0] 27)) 60 #[.string ⟨s.toArray⟩, .int .i64 0]
  have hB0 := ((((Below.refl w.heap.size w).alloc (Nat.le_refl _) (.cells zero5 26)).alloc (by simp) (.cells #[.int .i64 0] 3)).alloc (by simp; omega) (.cells #[.int .i64 0] 27)).alloc (by simp; omega) (.cells #[.string ⟨s.toArray⟩, .int .i64 0] 60)
  simp only [World.size_alloc] at hN0 hE0 hK0
  have hms : (⟨s.toArray⟩ : ByteArray).size = s.length := mk_size s
  go_enter_defers Tryd.func12, Tryd.ntmps12
  go_wp2_with fail
  generalize hW0 : (((w.alloc (.cells zero5 26)).alloc (.cells #[.int .i64 0] 3)).alloc (.cells #[.int .i64 0] 27)).alloc (.cells #[.string ⟨s.toArray⟩, .int .i64 0] 60) = W0 at hV0 hN0 hE0 hK0 hB0 ⊢
  clear hW0
  have HB0 := hide (RB.mk hB0 hV0 hN0 hE0)
  have hRd : Rd W0 (w.heap.size + 1 + 1 + 1) s s := ⟨0, by simp, rfl, hK0⟩
  have hok := (valOK_all plainOK encOK (w.heap.size + 1 + 1 + 1) s hz 16 (Nat.le_refl _)).1
  clear hB0 hV0 hN0 hE0 hK0
  rcases ValOK.split hok W0 s hRd with ⟨d, t, hd, cV⟩ | ⟨y, hd, cV⟩
  · refine cV.mono ?_
    rintro e w1 ⟨v', rfl, hV1, hM1, hR1⟩
    obtain ⟨⟨k1, i1, s1, a1, n1, c1, a2, n2, c2⟩, rfl⟩ := hV1.shape
    have HB1 := hide (HB0.out.on hM1)
    have HV1 := hide hV1
    obtain ⟨a, g1, g2, hk⟩ := hR1
    have HK1 := hide hk
    have hz1 := HB1.out.b2.lt
    have o0 := HB1.out.b0.cell 0; have o1 := HB1.out.b0.cell 1; have o2 := HB1.out.b0.cell 2; have o3 := HB1.out.b0.cell 3; have o4 := HB1.out.b0.cell 4
    have y0 := HB1.out.b0.frozen 0; have y1 := HB1.out.b0.frozen 1; have y2 := HB1.out.b0.frozen 2; have y3 := HB1.out.b0.frozen 3; have y4 := HB1.out.b0.frozen 4
    have k1c := hk.cell 1
    simp at o0 o1 o2 o3 o4 k1c
    have hzW := HB0.out.b2.lt
    clear hV1 hM1 hk HB0 cV hRd hok
    have n0 := HB1.out.b1.cell 0; have m0 := HB1.out.b1.frozen 0
    have e0 := HB1.out.b2.cell 0; have l0 := HB1.out.b2.frozen 0
    simp at n0 e0
    have HP := hide (put5_blk HB1.out.b0 (.int .i64 k1) (.int .i64 i1) (.string s1) (.slice a1 n1 c1) (.slice a2 n2 c2))
    have HN1 := hide (put5_far HB1.out.b1 (show w.heap.size + 1 ≠ w.heap.size by omega) (.int .i64 k1) (.int .i64 i1) (.string s1) (.slice a1 n1 c1) (.slice a2 n2 c2))
    have HE1 := hide (put5_far HB1.out.b2 (show w.heap.size + 1 + 1 ≠ w.heap.size by omega) (.int .i64 k1) (.int .i64 i1) (.string s1) (.slice a1 n1 c1) (.slice a2 n2 c2))
    have HBB := hide (HB1.out.bel.trans (put5_below w1 (Nat.le_refl w.heap.size) (.int .i64 k1) (.int .i64 i1) (.string s1) (.slice a1 n1 c1) (.slice a2 n2 c2)))
    by_cases ht : t = []
    · have hT := hide (show readR risingK s = .ok d [] by unfold readR; rw [hd]; simp only [ht, if_true])
      obtain rfl : a = s.length := by rw [ht] at g1; simpa using g1
      clear ht g1 g2 hd
      go_wp2_with (go_at_call 37; refine (litNeed_yes _ _).mono ?_; rintro e wn ⟨rfl, rfl⟩)
      have hV2 := ((put5_blk HP.out (.int .i64 k1) (.int .i64 i1) (.string s1) (.slice a1 n1 c1) (.slice a2 n2 c2)).far (p := ⟨w.heap.size + 1, 0, none⟩) (by simp) (.int .i64 (s.length : Int))).far (p := ⟨w.heap.size + 1 + 1, 0, none⟩) (by simp; omega) (.int .i64 0)
      have hN2 := ((put5_far HN1.out (show w.heap.size + 1 ≠ w.heap.size by omega) (.int .i64 k1) (.int .i64 i1) (.string s1) (.slice a1 n1 c1) (.slice a2 n2 c2)).set_ 0 (.int .i64 (s.length : Int))).far (p := ⟨w.heap.size + 1 + 1, 0, none⟩) (by simp) (.int .i64 0)
      have hE2 := ((put5_far HE1.out (show w.heap.size + 1 + 1 ≠ w.heap.size by omega) (.int .i64 k1) (.int .i64 i1) (.string s1) (.slice a1 n1 c1) (.slice a2 n2 c2)).far (p := ⟨w.heap.size + 1, 0, none⟩) (by simp) (.int .i64 (s.length : Int))).set_ 0 (.int .i64 0)
      have hB2 := ((HBB.out.trans (put5_below _ (Nat.le_refl w.heap.size) (.int .i64 k1) (.int .i64 i1) (.string s1) (.slice a1 n1 c1) (.slice a2 n2 c2))).setCell (p := ⟨w.heap.size + 1, 0, none⟩) (by simp) (.int .i64 (s.length : Int))).setCell (p := ⟨w.heap.size + 1 + 1, 0, none⟩) (by simp; omega) (.int .i64 0)
      have hW2 : IsV (freshB w.heap.size) (((((((((((((w1.setCell ⟨w.heap.size, 0, none⟩ (.int .i64 k1)).setCell ⟨w.heap.size, 1, none⟩ (.int .i64 i1)).setCell ⟨w.heap.size, 2, none⟩ (.string s1)).setCell ⟨w.heap.size, 3, none⟩ (.slice a1 n1 c1)).setCell ⟨w.heap.size, 4, none⟩ (.slice a2 n2 c2)).setCell ⟨w.heap.size, 0, none⟩ (.int .i64 k1)).setCell ⟨w.heap.size, 1, none⟩ (.int .i64 i1)).setCell ⟨w.heap.size, 2, none⟩ (.string s1)).setCell ⟨w.heap.size, 3, none⟩ (.slice a1 n1 c1)).setCell ⟨w.heap.size, 4, none⟩ (.slice a2 n2 c2))).setCell ⟨w.heap.size + 1, 0, none⟩ (.int .i64 (s.length : Int))).setCell ⟨w.heap.size + 1 + 1, 0, none⟩ (.int .i64 0)) 17 (VF.val ⟨k1, i1, s1, a1, n1, c1, a2, n2, c2⟩) d := by
        refine IsV.on ⟨by simp, ?_⟩ 17 _ _ HV1.out
        rintro q hq ⟨h1, cs, t', h2⟩
        have hz3 : w.heap.size + 1 + 1 < q := by omega
        have he : (((((((((((((w1.setCell ⟨w.heap.size, 0, none⟩ (.int .i64 k1)).setCell ⟨w.heap.size, 1, none⟩ (.int .i64 i1)).setCell ⟨w.heap.size, 2, none⟩ (.string s1)).setCell ⟨w.heap.size, 3, none⟩ (.slice a1 n1 c1)).setCell ⟨w.heap.size, 4, none⟩ (.slice a2 n2 c2)).setCell ⟨w.heap.size, 0, none⟩ (.int .i64 k1)).setCell ⟨w.heap.size, 1, none⟩ (.int .i64 i1)).setCell ⟨w.heap.size, 2, none⟩ (.string s1)).setCell ⟨w.heap.size, 3, none⟩ (.slice a1 n1 c1)).setCell ⟨w.heap.size, 4, none⟩ (.slice a2 n2 c2))).setCell ⟨w.heap.size + 1, 0, none⟩ (.int .i64 (s.length : Int))).setCell ⟨w.heap.size + 1 + 1, 0, none⟩ (.int .i64 0)).heap[q]? = w1.heap[q]? := by
          repeat rw [Below.heap_setCell _ _ _ q (by simp; omega)]
        exact ⟨he, by omega, cs, t', he.trans h2⟩
      unfold put5 at hV2 hN2 hE2 hB2
      generalize (((((((((((((w1.setCell ⟨w.heap.size, 0, none⟩ (.int .i64 k1)).setCell ⟨w.heap.size, 1, none⟩ (.int .i64 i1)).setCell ⟨w.heap.size, 2, none⟩ (.string s1)).setCell ⟨w.heap.size, 3, none⟩ (.slice a1 n1 c1)).setCell ⟨w.heap.size, 4, none⟩ (.slice a2 n2 c2)).setCell ⟨w.heap.size, 0, none⟩ (.int .i64 k1)).setCell ⟨w.heap.size, 1, none⟩ (.int .i64 i1)).setCell ⟨w.heap.size, 2, none⟩ (.string s1)).setCell ⟨w.heap.size, 3, none⟩ (.slice a1 n1 c1)).setCell ⟨w.heap.size, 4, none⟩ (.slice a2 n2 c2))).setCell ⟨w.heap.size + 1, 0, none⟩ (.int .i64 (s.length : Int))).setCell ⟨w.heap.size + 1 + 1, 0, none⟩ (.int .i64 0)) = W2 at hV2 hN2 hE2 hB2 hW2 ⊢
      clear o0 o1 o2 o3 o4 y0 y1 y2 y3 y4 n0 m0 e0 l0 k1c
      have v0 := hV2.cell 0; have v1 := hV2.cell 1; have v2 := hV2.cell 2; have v3 := hV2.cell 3; have v4 := hV2.cell 4
      have n0 := hN2.cell 0; have e0 := hE2.cell 0
      simp at v0 v1 v2 v3 v4 n0 e0
      refine leaves_cons (f := 35) (args := #[.pointer (some ⟨w.heap.size, 0, none⟩), .pointer (some ⟨w.heap.size + 1, 0, none⟩), .pointer (some ⟨w.heap.size + 1 + 1, 0, none⟩)]) (by simp) (by simp [go_sem]) ?_
      refine (rd_idle _ _ _ _).mono ?_
      rintro e u' w'' ⟨rfl, rfl, rfl⟩
      simp [Leaves, settle, results, Tryd.results12, go_sem, v0, v1, v2, v3, v4, n0, e0]
      exact .inl ⟨d, _, hT.out, rfl, hW2, hB2⟩
    · have hT := hide (show readR risingK s = .bad 33 by unfold readR; rw [hd]; simp only [ht, if_false])
      have hlt : a < s.length := by
        cases t with
        | nil => exact absurd rfl ht
        | cons _ _ => simp at g1; omega
      have hne : (a == s.length) = false := by simp; omega
      have hne2 : ((a : Int) == (s.length : Int)) = false := by simp; omega
      have HRB := hide (show RB w ((((((w1.setCell ⟨w.heap.size, 0, none⟩ (.int .i64 k1)).setCell ⟨w.heap.size, 1, none⟩ (.int .i64 i1)).setCell ⟨w.heap.size, 2, none⟩ (.string s1)).setCell ⟨w.heap.size, 3, none⟩ (.slice a1 n1 c1)).setCell ⟨w.heap.size, 4, none⟩ (.slice a2 n2 c2))) (.int .i64 k1) (.int .i64 i1) (.string s1) (.slice a1 n1 c1) (.slice a2 n2 c2) from ⟨HBB.out, HP.out, HN1.out, HE1.out⟩)
      clear ht g1 g2 hd hlt
      go_wp2_with (go_at_call 37; refine (litNeed_no _ _).mono ?_; rintro e wn ⟨rfl, rfl⟩)
      exact rd_fault s w _ _ _ _ _ _ 33 _ HRB.out hT.out rfl rfl rfl
  · refine cV.mono ?_
    rintro e w1 ⟨rfl, hM1⟩
    have HB1 := hide (HB0.out.on hM1)
    have hT : readR risingK s = .bad y := by unfold readR; rw [hd]
    exact rd_fault s w w1 _ _ _ _ _ y _ HB1.out hT rfl rfl rfl
end Go.Proofs.YtdnmgpidfjkiaaaDoor
