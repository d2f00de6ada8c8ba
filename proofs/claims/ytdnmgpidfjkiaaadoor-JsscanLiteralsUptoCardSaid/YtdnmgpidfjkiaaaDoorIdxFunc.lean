/-
  strings.IndexFunc at every string, at whatever function value on characters; where a predicate holds of no ASCII octet unless ..: which octet stands there. (The walk is turned from the guide's own over strings.indexFunc.)
-/
import Derived.Test.YtdnmgpidfjkiaaaDoorProg
import Derived.Test.YtdnmgpidfjkiaaaDoorM1
import Derived.WalkKit
import Derived.WalkSpells
import Derived.WalkLawsBesides
import Derived.Lib.OthersKept
import Derived.Lib.TrimU
import Derived.Deep.LoopGhost
import Derived.Shelf.Abstract
namespace Go.Proofs.YtdnmgpidfjkiaaaDoor
open Go.RowKit
set_option linter.unusedVariables false

/-- A function value on characters answers p and leaves the world alone, in every later world. -/
def PredR (P : Program) (g : Nat) (lb : Array Value) (p : Nat → Bool) (w : World) : Prop :=
  ∀ (W : World) (x : Nat), Below w.heap.size w W → Calls P g (#[.int .i32 (x : Int)] ++ lb) W fun e w' => e = .returned (.bool (p x)) ∧ W = w'

/-- strings.indexFunc(s, f, true), from place pos on, by at most so many characters. -/
def idxFrom (p : Nat → Bool) (s : ByteArray) : Nat → Nat → Int
  | 0, _ => -1
  | f + 1, pos => if pos < s.size then (if p (Utf8.decode s pos).1 = true then (pos : Int) else idxFrom p s f (pos + (Utf8.decode s pos).2)) else -1
def idxR (p : Nat → Bool) (s : ByteArray) : Int := idxFrom p s s.size 0
theorem idxFrom_end (p : Nat → Bool) (s : ByteArray) (f pos : Nat) (h : ¬ pos < s.size) : idxFrom p s f pos = -1 := by cases f <;> simp [idxFrom, h]

set_option maxHeartbeats 2000000 in
set_option maxRecDepth 100000 in
theorem indexFunc_any (g : Nat) (lb : Array Value) (eg : ∀ args w, (callFunc g args).run Tryd.prog w = .ok (.enter g args) w) (p : Nat → Bool) (s : ByteArray) (w : World) (hp : PredR Tryd.prog g lb p w) :
    Calls Tryd.prog 152 #[.string s, .func (.func g) #[] lb, .bool true] w fun e w' => e = .returned (.int .i64 (idxR p s)) ∧ Below w.heap.size w w' := by
  go_enter Tryd.func152, Tryd.ntmps152
  go_wp2
  go_loopg [] s.size (fun gf wx => ∃ pos : Nat, wx.heap[w.heap.size]? = some (.stringIter s pos) ∧ Below w.heap.size w wx ∧ idxFrom p s gf pos = idxR p s ∧ s.size ≤ pos + gf)
  case atStart => exact ⟨0, World.iter_heap w s 0, (Below.refl _ w).alloc (Nat.le_refl _) _, rfl, by omega⟩
  case round =>
    obtain ⟨pos, hit, hbw, hleft, hfu⟩ := hrel
    by_cases hps : pos < s.size
    · -- a character is at hand
      obtain ⟨g', rfl⟩ : ∃ g', gk = g' + 1 := ⟨gk - 1, by omega⟩
      have hnx : ∀ ty, (Instr.next (.pointer (some ⟨w.heap.size, 0, none⟩)) true ty).run Tryd.prog wr = _ := fun ty => Lib.run_next_any_at wr w.heap.size s pos ty hit hps
      have hwd := Lib.width_pos s pos
      obtain ⟨R, hR⟩ : ∃ R, (Utf8.decode s pos).1 = R := ⟨_, rfl⟩
      obtain ⟨K, hK⟩ : ∃ K, (Utf8.decode s pos).2 = K := ⟨_, rfl⟩
      simp only [idxFrom, hps, if_true, hR, hK] at hleft
      rw [hR, hK] at hnx
      rw [hK] at hwd
      have hit2 := Lib.iterAt_heap wr w.heap.size s pos (pos + K) hit
      have hbw2 := Lib.below_iterAt hbw (k := w.heap.size) (Nat.le_refl _) s (pos + K)
      obtain ⟨W, hWd⟩ : ∃ W, wr.iterAt w.heap.size s (pos + K) = W := ⟨_, rfl⟩
      rw [hWd] at hnx hit2 hbw2
      have cS : Calls Tryd.prog g (#[.int .i32 (R : Int)] ++ lb) W _ := hp W R hbw2
      clear hp
      cases hsp : p R <;> rw [hsp] at cS <;> simp only [hsp, if_true, Bool.false_eq_true, if_false] at hleft
      · go_wp2_with (go_at_fn g; refine cS.mono ?_; rintro e W' ⟨rfl, rfl⟩)
        go_roundg g'
        case measure => omega
        case rel => exact ⟨pos + K, hit2, hbw2, hleft, by omega⟩
      · go_wp2_with (go_at_fn g; refine cS.mono ?_; rintro e W' ⟨rfl, rfl⟩)
        go_ret
        exact ⟨by rw [← hleft] <;> rfl, hbw2⟩
    · have hnx : ∀ ty, (Instr.next (.pointer (some ⟨w.heap.size, 0, none⟩)) true ty).run Tryd.prog wr = _ := fun ty => Lib.run_next_end_at wr w.heap.size s pos ty hit hps
      rw [idxFrom_end p s gk pos hps] at hleft
      have HL := hide hleft; clear hleft hp
      go_wp2
      go_ret
      exact ⟨ret_int HL.out, hbw⟩

set_option maxHeartbeats 400000 in
theorem strings_IndexFunc (g : Nat) (lb : Array Value) (eg : ∀ args w, (callFunc g args).run Tryd.prog w = .ok (.enter g args) w) (p : Nat → Bool) (s : ByteArray) (w : World) (hp : PredR Tryd.prog g lb p w) :
    Calls Tryd.prog 132 #[.string s, .func (.func g) #[] lb] w fun e w' => e = .returned (.int .i64 (idxR p s)) ∧ Below w.heap.size w w' := by
  have hc := hide (indexFunc_any g lb eg p s w hp)
  clear hp
  go_enter Tryd.func132, Tryd.ntmps132
  go_wp2_with (go_at_call 152; refine (Hid.out hc).mono ?_; rintro e w1 ⟨rfl, hb⟩)
  go_ret
  exact ⟨rfl, hb⟩

/-! ### WHERE A PREDICATE HOLDS OF ALL THAT IS NOT ASCII -/
theorem decode_hi (s : ByteArray) (pos : Nat) (h : pos < s.size) (ha : ¬ (s[pos]'h).toNat < 128) : 128 ≤ (Utf8.decode s pos).1 := by
  have e : s.get! (pos + 0) = s[pos]'h := by
    show s.get! pos = _
    simp [ByteArray.get!, getElem!_pos, h]
    rfl
  unfold Utf8.decode
  simp only [e, ha, if_false, Utf8.runeError]
  repeat' split
  all_goals (try simp only [Bool.and_eq_true, decide_eq_true_eq, ge_iff_le] at *)
  all_goals omega

theorem idxFrom_all (p : Nat → Bool) (hp : ∀ r, 128 ≤ r → p r = true) (s : ByteArray) : ∀ f pos, s.size ≤ pos + f →
    ((idxFrom p s f pos < 0 ↔ ∀ i (h : i < s.size), pos ≤ i → p (s[i]'h).toNat = false))
  | 0, pos, hf => by simp [idxFrom]; intro i h hi; omega
  | f + 1, pos, hf => by
    by_cases hps : pos < s.size
    · simp only [idxFrom, hps, if_true]
      by_cases ha : (s[pos]'hps).toNat < 128
      · rw [decode_ascii s pos hps ha]
        by_cases hq : p (s[pos]'hps).toNat = true
        · rw [if_pos hq]
          constructor
          · intro h; omega
          · intro h; have := h pos hps (Nat.le_refl _); rw [hq] at this; cases this
        · rw [if_neg hq, idxFrom_all p hp s f (pos + 1) (by omega)]
          constructor
          · intro h i hi hle
            rcases Nat.eq_or_lt_of_le hle with he | hlt
            · subst he; simpa using hq
            · exact h i hi hlt
          · intro h i hi hle
            exact h i hi (by omega)
      · rw [if_pos (hp _ (decode_hi s pos hps ha))]
        constructor
        · intro h; omega
        · intro h
          have h1 := h pos hps (Nat.le_refl _)
          rw [hp _ (by omega)] at h1
          cases h1
    · rw [idxFrom_end p s _ pos hps]
      constructor
      · intro _ i hi hle; omega
      · intro _; omega
end Go.Proofs.YtdnmgpidfjkiaaaDoor
