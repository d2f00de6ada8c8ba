/-
  FoldMerges: merged, nodes have the same texts, none beside another one; merged again they stay.
-/
import Derived.Test.YtnepogddjinpoaaGreatDoorM7
import Derived.Test.YtnepogddjinpoaaGreatDoorM8
import Derived.Test.YtnepogddjinpoaaGreatDoorMerge
import Derived.Test.YtnepogddjinpoaaGreatDoorTextsN
import Derived.Test.YtnepogddjinpoaaGreatDoorOthers
import Derived.Test.YtnepogddjinpoaaGreatDoorNSame
import Derived.Test.YtnepogddjinpoaaGreatDoorM9
import Derived.Test.YtnepogddjinpoaaGreatDoorLaidL
namespace Go.Proofs.YtnepogddjinpoaaGreatDoor
open Go.RowKit
set_option linter.unusedVariables false
set_option linter.unusedSimpArgs false

theorem sum_app {α : Type} (f : α → Nat) (l r : List α) : sumBy f (l ++ r) = sumBy f l + sumBy f r := by
  induction l with
  | nil => simp [sumBy]
  | cons a l ih => simp only [List.cons_append, sumBy, ih]; omega
theorem step_mass {α : Type} (f : NN α → Nat) (hf : ∀ x y : NN α, f { y with s := y.s ++ x.s } ≤ f y + f x) (out : List (NN α)) (x : NN α) : sumBy f (besideStep out x) ≤ sumBy f out + f x := by
  unfold besideStep
  cases hl : out.getLast? with
  | none => rw [List.getLast?_eq_none_iff.1 hl]; simp [sumBy]
  | some y =>
    have hs := last_split hl
    simp only
    split
    · have e : sumBy f out = sumBy f out.dropLast + f y := by
        conv => lhs; rw [hs, sum_app]
        simp [sumBy]
      rw [sum_app, e]
      have := hf x y
      simp only [sumBy]
      omega
    · rw [sum_app]; simp [sumBy]
theorem fold_mass {α : Type} (f : NN α → Nat) (hf : ∀ x y : NN α, f { y with s := y.s ++ x.s } ≤ f y + f x) : ∀ (l out : List (NN α)), sumBy f (l.foldl besideStep out) ≤ sumBy f out + sumBy f l := by
  intro l
  induction l with
  | nil => intro out; simp [sumBy]
  | cons x l ih =>
    intro out
    have h1 := ih (besideStep out x)
    have h2 := step_mass f hf out x
    rw [List.foldl_cons]
    simp only [sumBy]
    omega
theorem map_mass {α : Type} (f : NN α → Nat) (u : NN α → NN α) (h : ∀ x, f (u x) ≤ f x) : ∀ r : List (NN α), sumBy f (r.map u) ≤ sumBy f r := by
  intro r
  induction r with
  | nil => simp [sumBy]
  | cons x r ih =>
    have := h x
    simp only [List.map_cons, sumBy]
    omega
theorem merge_mass : ∀ (n : Nat) (l : List (NT n)), sumBy (massN n) (mergeL n l) ≤ sumBy (massN n) l := by
  intro n
  induction n with
  | zero => intro l; exact Nat.le_refl _
  | succ m ih =>
    intro l
    have h1 := fold_mass (massN (m + 1) : NN (NT m) → Nat) (fun x y => by rw [massN_succ, massN_succ, massN_succ]; simp only [List.length_append]; omega) l []
    have h2 := map_mass (massN (m + 1) : NN (NT m) → Nat) (underN (mergeL m)) (fun x => by
      have e1 := ih x.body
      have e2 := ih x.els
      rw [massN_succ, massN_succ]
      simp only [underN]
      omega) (besideL l)
    exact Nat.le_trans h2 (Nat.le_trans h1 (Nat.le_of_eq (Nat.zero_add _)))
theorem lasts_freshM (N : Nat) : Lasts (freshB N) := fun w w' b hb hl ⟨h1, cs, t, h2⟩ => ⟨h1, cs, t, (hb.block b hl).trans h2⟩
theorem AtR.any {α : Type} {R : Rel α} (hR : Steady R) {size : Nat} {U : World → Nat → Prop} {w : World} {a : Option Addr} {l : List α} (h : AtR R size U w a l) : AtR R size anyB w a l := h.on hR (stays_weaken fun _ _ _ => trivial)
set_option maxHeartbeats 2000000 in
set_option maxRecDepth 100000 in
theorem foldMerges_any (n : Nat) (a : Option Addr) (c : Nat) (l : List (NT n)) (w : World) (hL : AtR (NodeR n) 9 anyB w a l) (hm : sumBy (massN n) l ≤ 1048576)
    (hT : Lib.Utf8Tabs 1 2 w) : Calls Tryz.prog 4 #[.slice a l.length c] w fun e w' => e = .returned (.bool true) ∧ Below w.heap.size w w' := by
  have cA := hide (alive41 w hT)
  have L : ∀ W, Below w.heap.size w W → AtR (NodeR n) 9 anyB W a l := fun W hb => hL.on (NodeR.steady n) (lasts_any.stays hb)
  have cPr := hide (fun W (hb : Below w.heap.size w W) => proper_any n anyB lasts_any a c l W (L W hb) hm)
  cases hp : properL n l with
  | false =>
    have cP : Hid (∀ W, Below w.heap.size w W → Calls Tryz.prog 10 #[.slice a l.length c] W fun e w' => e = .returned (.bool false) ∧ Below W.heap.size W w') := hide (fun W hb => by have h := cPr.out W hb; unfold ProperOf at h; rw [hp] at h; exact h)
    clear cPr L hL hT hp
    go_enter Tryz.func4, Tryz.ntmps4
    go_wp2_with fail
    refine cA.out.mono ?_
    rintro e w1 ⟨rfl, hb1⟩
    go_wp2_with fail
    refine (cP.out w1 hb1).mono ?_
    rintro e w2 ⟨rfl, hb2⟩
    go_wp2_with fail
    go_ret
    exact ⟨rfl, below_step hb1 hb2⟩
  | true =>
    have cP : Hid (∀ W, Below w.heap.size w W → Calls Tryz.prog 10 #[.slice a l.length c] W fun e w' => e = .returned (.bool true) ∧ Below W.heap.size W w') := hide (fun W hb => by have h := cPr.out W hb; unfold ProperOf at h; rw [hp] at h; exact h)
    have hms := merge_mass n l
    obtain ⟨hs1, hs2⟩ := merge_same n l hp
    have hap := merge_apart n l
    have hmm := merge_merge n l
    have cM0 := fun W (hb : Below w.heap.size w W) => merge_any n anyB lasts_any a c l W (L W hb) hm
    unfold MergeOf at cM0
    generalize mergeL n l = M at hms hs1 hs2 hap hmm cM0
    have hmM : sumBy (massN n) M ≤ 1048576 := Nat.le_trans hms hm
    have cM := hide cM0
    obtain ⟨T, hTx⟩ : ∃ T : ByteArray, (⟨(textsL n l).toArray⟩ : ByteArray) = T := ⟨_, rfl⟩
    obtain ⟨O, hO⟩ : ∃ O : Int, ((othersL n l : Nat) : Int) = O := ⟨_, rfl⟩
    have cTl : Hid (∀ W, Below w.heap.size w W → Calls Tryz.prog 12 #[.slice a l.length c] W fun e w' => e = .returned (.string T) ∧ Below W.heap.size W w') := hide (fun W hb => by have h := texts_any n anyB lasts_any a c l W (L W hb) hm; unfold TextsOf at h; rw [hTx] at h; exact h)
    have cOl : Hid (∀ W, Below w.heap.size w W → Calls Tryz.prog 15 #[.slice a l.length c] W fun e w' => e = .returned (.int .i64 O) ∧ Below W.heap.size W w') := hide (fun W hb => by have h := others_any n anyB lasts_any a c l W (L W hb) hm; unfold OthersOf at h; rw [hO] at h; exact h)
    have HF := hide (And.intro hs1 (And.intro hs2 (And.intro hap (And.intro hmm (And.intro hmM (And.intro hTx hO))))))
    clear cPr L hL hT hp hms hs1 hs2 hap hmm hmM hTx hO cM0
    go_enter Tryz.func4, Tryz.ntmps4
    go_wp2_with fail
    refine cA.out.mono ?_
    rintro e w1 ⟨rfl, hb1⟩
    go_wp2_with fail
    refine (cP.out w1 hb1).mono ?_
    rintro e w2 ⟨rfl, hb2⟩
    have HB2 := hide (below_step hb1 hb2)
    clear hb1 hb2
    go_wp2_with fail
    refine (cM.out w2 HB2.out).mono ?_
    rintro e w3 ⟨A1, k1, es1, rfl, hR3, hb3⟩
    have HB3 := hide (below_step HB2.out hb3)
    obtain ⟨hs1, hs2, hap, hmm, hmM, hTx, hO⟩ := HF.out
    have hat : AtR (NodeR n) 9 anyB w3 A1 M := (hR3.at_ (NodeR.steady n) rfl (Nat.le_refl _)).any (NodeR.steady n)
    have L3 : ∀ W, Below w3.heap.size w3 W → AtR (NodeR n) 9 anyB W A1 M := fun W hb => hat.on (NodeR.steady n) (lasts_any.stays hb)
    have cTm : Hid (∀ W, Below w3.heap.size w3 W → Calls Tryz.prog 12 #[.slice A1 M.length k1] W fun e w' => e = .returned (.string T) ∧ Below W.heap.size W w') := hide (fun W hb => by have h := texts_any n anyB lasts_any A1 k1 M W (L3 W hb) hmM; unfold TextsOf at h; rw [hs1, hTx] at h; exact h)
    have cOm : Hid (∀ W, Below w3.heap.size w3 W → Calls Tryz.prog 15 #[.slice A1 M.length k1] W fun e w' => e = .returned (.int .i64 O) ∧ Below W.heap.size W w') := hide (fun W hb => by have h := others_any n anyB lasts_any A1 k1 M W (L3 W hb) hmM; unfold OthersOf at h; rw [hs2, hO] at h; exact h)
    have cAp := hide (fun W (hb : Below w3.heap.size w3 W) => apart_any n anyB lasts_any A1 k1 M W (L3 W hb) hmM hap)
    have cM2 : Hid (∀ W, Below w3.heap.size w3 W → Calls Tryz.prog 11 #[.slice A1 M.length k1] W fun e w' => ∃ A2 c2 es2, e = .returned (.slice A2 M.length c2) ∧ RowR (NodeR n) 9 W.heap.size 61 w' (.slice A2 M.length c2) es2 M ∧ Below W.heap.size W w') := hide (fun W hb => by have h := merge_any n anyB lasts_any A1 k1 M W (L3 W hb) hmM; unfold MergeOf at h; rw [hmm] at h; exact h)
    have cS := hide (fun W (hb : Below w3.heap.size w3 W) A2 k2 (h2 : AtR (NodeR n) 9 anyB W A2 M) => same_eq n anyB lasts_any A2 A1 k2 k1 M W h2 (L3 W hb) hmM)
    have hs3 := HB3.out.size
    clear hR3 hb3 hat L3 hs1 hs2 hap hmm hmM hTx hO
    go_wp2_with fail
    refine (cTm.out w3 (Below.refl _ _)).mono ?_
    rintro e w4 ⟨rfl, hb4⟩
    go_wp2_with fail
    refine (cTl.out w4 (HB3.out.trans (hb4.mono hs3))).mono ?_
    rintro e w5 ⟨rfl, hb5⟩
    have HB5 := hide (below_step hb4 hb5)
    clear hb4 hb5
    go_wp2_with fail
    refine (cAp.out w5 HB5.out).mono ?_
    rintro e w6 ⟨rfl, hb6⟩
    have HB6 := hide (below_step HB5.out hb6)
    clear hb6
    go_wp2_with fail
    refine (cM2.out w6 HB6.out).mono ?_
    rintro e w7 ⟨A2, k2, es2, rfl, hR7, hb7⟩
    have HB7 := hide (below_step HB6.out hb7)
    have HA7 := hide ((hR7.at_ (NodeR.steady n) rfl (Nat.le_refl _)).any (NodeR.steady n))
    clear hR7 hb7
    go_wp2_with fail
    refine (cS.out w7 HB7.out A2 k2 HA7.out).mono ?_
    rintro e w8 ⟨rfl, hb8⟩
    have HB8 := hide (below_step HB7.out hb8)
    clear hb8
    go_wp2_with fail
    refine (cOl.out w8 (HB3.out.trans (HB8.out.mono hs3))).mono ?_
    rintro e w9 ⟨rfl, hb9⟩
    have HB9 := hide (below_step HB8.out hb9)
    clear hb9
    go_wp2_with fail
    refine (cOm.out w9 HB9.out).mono ?_
    rintro e w10 ⟨rfl, hb10⟩
    have HB10 := hide (below_step HB9.out hb10)
    clear hb10
    go_wp2_with fail
    go_ret
    exact ⟨rfl, HB3.out.trans (HB10.out.mono hs3)⟩
theorem foldMerges_walk (v : Value) (w : World) (g : ∃ (n : Nat) (a : Option Addr) (c : Nat) (l : List (NT (n + 1))), v = .slice a l.length c ∧ AtR (NodeR (n + 1)) 9 anyB w a l ∧ sumBy (massN (n + 1)) l ≤ 1048576)
    (hT : Lib.Utf8Tabs 1 2 w) : Calls Tryz.prog 4 #[v] w fun e w' => e = .returned (.bool true) ∧ Below w.heap.size w w' := by
  obtain ⟨n', a, c, l, rfl, hL, hm⟩ := g
  exact foldMerges_any (n' + 1) a c l w hL hm hT
end Go.Proofs.YtnepogddjinpoaaGreatDoor
