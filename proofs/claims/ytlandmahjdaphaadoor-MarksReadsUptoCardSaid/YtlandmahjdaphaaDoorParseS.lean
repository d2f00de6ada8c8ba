/-
  marks.Parse: a text's state.
-/
import Derived.Test.YtlandmahjdaphaaDoorMarkText
import Derived.Test.YtlandmahjdaphaaDoorPctDec
import Derived.Test.YtlandmahjdaphaaDoorParse
namespace Go.Proofs.YtlandmahjdaphaaDoor
open Go.RowKit
set_option linter.unusedVariables false
set_option linter.unusedSimpArgs false

def nV (L : List (List UInt8)) (k j : Nat) : Value := .int .i64 (if j < k then numAt j (L.getD j []) else 0)
def tV (L : List (List UInt8)) (k j : Nat) : Value := .string (if j < k then ⟨(txtAt j (L.getD j [])).toArray⟩ else ⟨#[]⟩)
abbrev nRow (L : List (List UInt8)) (k : Nat) : Array Value := #[nV L k 0, nV L k 1, nV L k 2, nV L k 3, nV L k 4, nV L k 5, nV L k 6, nV L k 7]
abbrev tRow (L : List (List UInt8)) (k : Nat) : Array Value := #[tV L k 0, tV L k 1, tV L k 2, tV L k 3, tV L k 4, tV L k 5, tV L k 6, tV L k 7]
theorem eight {k : Nat} (h : k < 8) : k = 0 ∨ k = 1 ∨ k = 2 ∨ k = 3 ∨ k = 4 ∨ k = 5 ∨ k = 6 ∨ k = 7 := by omega
theorem nRow_set (L : List (List UInt8)) (k : Nat) (h : k < 8) : (nRow L k).setIfInBounds k (.int .i64 (numAt k (L.getD k []))) = nRow L (k + 1) := by
  rcases eight h with rfl | rfl | rfl | rfl | rfl | rfl | rfl | rfl <;> simp [nV]
theorem nRow_keep (L : List (List UInt8)) (k : Nat) (h : k < 8) (hn : fieldN k = false) : nRow L (k + 1) = nRow L k := by
  rcases eight h with rfl | rfl | rfl | rfl | rfl | rfl | rfl | rfl <;> first | (exact absurd hn (by decide)) | (simp [nV, numAt, fieldN])
theorem tRow_set (L : List (List UInt8)) (k : Nat) (h : k < 8) : (tRow L k).setIfInBounds k (.string ⟨(txtAt k (L.getD k [])).toArray⟩) = tRow L (k + 1) := by
  rcases eight h with rfl | rfl | rfl | rfl | rfl | rfl | rfl | rfl <;> simp [tV]
theorem tRow_keep (L : List (List UInt8)) (k : Nat) (h : k < 8) (hn : fieldN k = true) : tRow L (k + 1) = tRow L k := by
  rcases eight h with rfl | rfl | rfl | rfl | rfl | rfl | rfl | rfl <;> first | (exact absurd hn (by decide)) | (simp [tV, txtAt, fieldN])
theorem tRow_at (L : List (List UInt8)) (k : Nat) (h : k < 8) : (tRow L k)[k]? = some (.string ⟨#[]⟩) := by
  rcases eight h with rfl | rfl | rfl | rfl | rfl | rfl | rfl | rfl <;> simp [tV]
theorem nRow_some (L : List (List UInt8)) (k j : Nat) (h : j < 8) : ((nRow L k)[j]?).isSome = true := by
  rcases eight h with rfl | rfl | rfl | rfl | rfl | rfl | rfl | rfl <;> simp
theorem tRow_some (L : List (List UInt8)) (k j : Nat) (h : j < 8) : ((tRow L k)[j]?).isSome = true := by
  rcases eight h with rfl | rfl | rfl | rfl | rfl | rfl | rfl | rfl <;> simp
/-- The state of eight pieces. -/
def stOf (L : List (List UInt8)) : StV := ⟨numAt 0 (L.getD 0 []), ⟨(txtAt 1 (L.getD 1 [])).toArray⟩, ⟨(txtAt 2 (L.getD 2 [])).toArray⟩, numAt 3 (L.getD 3 []), ⟨(txtAt 4 (L.getD 4 [])).toArray⟩, ⟨(txtAt 5 (L.getD 5 [])).toArray⟩, numAt 6 (L.getD 6 []), ⟨(txtAt 7 (L.getD 7 [])).toArray⟩⟩
def anyBad (L : List (List UInt8)) : Bool := (List.range 8).any fun j => fieldBad j (L.getD j [])
/-- marks.Parse, of a text's pieces. -/
def parseL (L : List (List UInt8)) : StV × Int :=
  if L.length ≠ 8 then (StV.none_, 33) else if anyBad L then (StV.none_, 33)
  else if numAt 3 (L.getD 3 []) < 0 ∨ 255 < numAt 3 (L.getD 3 []) then (StV.none_, 33)
  else if (stOf L).chk = 0 then (stOf L, 0) else (StV.none_, (stOf L).chk)
def NoBad (L : List (List UInt8)) (k : Nat) : Prop := ∀ j, j < k → fieldBad j (L.getD j []) = false
theorem NoBad.next {L : List (List UInt8)} {k : Nat} (h : NoBad L k) (hk : fieldBad k (L.getD k []) = false) : NoBad L (k + 1) := by
  intro j hj
  rcases Nat.lt_or_ge j k with h1 | h1
  · exact h j h1
  · have : j = k := by omega
    subst this; exact hk
theorem bad_any {L : List (List UInt8)} {k : Nat} (hk8 : k < 8) (hk : fieldBad k (L.getD k []) = true) : anyBad L = true := by
  unfold anyBad
  rw [List.any_eq_true]
  exact ⟨k, List.mem_range.2 hk8, hk⟩
theorem NoBad.all {L : List (List UInt8)} (h : NoBad L 8) : anyBad L = false := by
  unfold anyBad
  rw [List.any_eq_false]
  intro j hj
  rw [h j (List.mem_range.1 hj)]
  exact Bool.false_ne_true
theorem join_mem_len (L : List (List UInt8)) (sep : List UInt8) (y : List UInt8) (hy : y ∈ L) : y.length ≤ (Lib.join L sep).length := by
  have hl : ∀ (r : List (List UInt8)), y ∈ r → y.length ≤ Lib.lens r := by
    intro r
    induction r with
    | nil => intro h; exact absurd h List.not_mem_nil
    | cons z r ih =>
      intro h
      simp only [Lib.lens, List.map_cons, List.sum_cons] at ih ⊢
      rcases List.mem_cons.1 h with rfl | h
      · omega
      · have := ih h; omega
  match L, hy with
  | x :: r, hy =>
    rw [Lib.join_cons, List.length_append, Lib.joinTail_length]
    rcases List.mem_cons.1 hy with rfl | h
    · omega
    · have := hl r h; omega
theorem n3 {k : Nat} (h : k < 8) (hn : fieldN k = true) : k = 0 ∨ k = 3 ∨ k = 6 := by
  rcases eight h with rfl | rfl | rfl | rfl | rfl | rfl | rfl | rfl <;> first | (exact absurd hn (by decide)) | simp
theorem n5 {k : Nat} (hn : fieldN k = false) : k ≠ 0 ∧ k ≠ 3 ∧ k ≠ 6 := by
  refine ⟨?_, ?_, ?_⟩ <;> (rintro rfl; exact absurd hn (by decide))
theorem wrap_u8_in (n : Int) (h0 : 0 ≤ n) (h1 : n ≤ 255) : IntKind.u8.wrap n = n := by
  simp [IntKind.wrap, IntKind.bits, IntKind.signed]
  omega
theorem pctDec_bytes (x : ByteArray) (w : World) (hz : x.size ≤ 1000000000) :
    Calls Tryd.prog 25 #[.string x] w fun e w' => e = .returned (.tuple #[.string ⟨(if (unp x.data.toList).2.2 then (unp x.data.toList).1 else []).toArray⟩, .int .i64 (if (unp x.data.toList).2.2 then (x.data.toList.length : Int) else ((unp x.data.toList).2.1 : Int)), .int .i64 (if (unp x.data.toList).2.2 then 0 else 33)]) ∧ Below w.heap.size w w' := by
  rw [← size_list] at hz
  obtain ⟨⟨l⟩⟩ := x
  exact pctDecode_any l w hz
theorem unp_len (l : List UInt8) : (unp l).1.length ≤ l.length := by
  induction h : l.length using Nat.strongRecOn generalizing l with
  | _ n ih =>
    cases l with
    | nil => rw [unp_nil]; simp
    | cons c r =>
      rcases Bool.eq_false_or_eq_true (c != 37) with h2 | h2
      · rw [unp_keep c r h2]
        have := ih r.length (by rw [← h]; simp) r rfl
        simp at h ⊢; omega
      · rcases Bool.eq_false_or_eq_true (codedB (c :: r)) with h3 | h3
        · rw [unp_code c r h2 h3]
          have := ih (r.drop 2).length (by rw [← h]; simp; omega) (r.drop 2) rfl
          simp at h this ⊢; omega
        · rw [unp_bad c r h2 h3]; simp
set_option maxHeartbeats 8000000 in
set_option maxRecDepth 100000 in
theorem parseS_gen (t : ByteArray) (P : List ByteArray) (L : List (List UInt8)) (w : World) (hPL : P.map (·.data.toList) = L) (hPs : ∀ x ∈ P, x.size ≤ 100000000)
    (hT : Lib.Utf8Tabs 3 4 w)
    (cS : ∀ w, Calls Tryd.prog 23 #[.string t, .string ⟨#[124]⟩] w fun e w' => e = .returned (.slice (some ⟨w.heap.size, 0, none⟩) P.length P.length) ∧ w' = w.alloc (.cells (P.map Value.string).toArray 9)) :
    Calls Tryd.prog 12 #[.string t] w fun e w' => e = .returned (.tuple #[.agg #[.int .i64 (parseL L).1.k, .string (parseL L).1.el, .string (parseL L).1.at_, .int .u8 (parseL L).1.d, .string (parseL L).1.pe, .string (parseL L).1.re, .int .i64 (parseL L).1.pa, .string (parseL L).1.wo], .int .i64 (parseL L).2]) ∧ Below w.heap.size w w' := by
  have hlen : L.length = P.length := by rw [← hPL, List.length_map]
  have hR0 := (Blk.new w 29 noneC).alloc (.cells (P.map Value.string).toArray 9)
  have hS0 := Blk.new (w.alloc (.cells noneC 29)) 9 (P.map Value.string).toArray
  have hB0 := ((Below.refl w.heap.size w).alloc (Nat.le_refl _) (.cells noneC 29)).alloc (by simp) (.cells (P.map Value.string).toArray 9)
  have hz0 : ((w.alloc (.cells noneC 29)).alloc (.cells (P.map Value.string).toArray 9)).heap.size = w.heap.size + 2 := by simp
  rw [World.size_alloc] at hS0
  have cS := hide cS
  by_cases h8 : P.length = 8
  rotate_left
  · have hp : parseL L = (StV.none_, 33) := by unfold parseL; rw [if_pos (by omega)]
    rw [hp]
    have hne : ((P.length : Int) != 8) = true := by simp; omega
    clear hp h8 hlen hPL hPs
    show Calls Tryd.prog 12 #[.string t] w fun e w' => e = .returned (.tuple #[.agg noneC, .int .i64 33]) ∧ Below w.heap.size w w'
    go_enter Tryd.func12, Tryd.ntmps12
    go_wp2_with fail
    refine (cS.out _).mono ?_
    rintro e w1 ⟨rfl, rfl⟩
    generalize (w.alloc (.cells noneC 29)).alloc (.cells (P.map Value.string).toArray 9) = W1 at hR0 hS0 hB0 ⊢
    obtain ⟨r0, r1, r2, r3, r4, r5, r6, r7⟩ := hR0.eight
    have g0 := hR0.frozen 0; have g1 := hR0.frozen 1; have g2 := hR0.frozen 2; have g3 := hR0.frozen 3; have g4 := hR0.frozen 4; have g5 := hR0.frozen 5; have g6 := hR0.frozen 6; have g7 := hR0.frozen 7
    go_wp2_with fail
    have hR9 := hR0.put8 (.int .i64 0) (.string ⟨#[]⟩) (.string ⟨#[]⟩) (.int .u8 0) (.string ⟨#[]⟩) (.string ⟨#[]⟩) (.int .i64 0) (.string ⟨#[]⟩)
    have hB9 := below_eight (v0 := .int .i64 0) (v1 := .string ⟨#[]⟩) (v2 := .string ⟨#[]⟩) (v3 := .int .u8 0) (v4 := .string ⟨#[]⟩) (v5 := .string ⟨#[]⟩) (v6 := .int .i64 0) (v7 := .string ⟨#[]⟩) hB0 (g := w.heap.size) (Nat.le_refl _)
    generalize ((((((((W1.setCell ⟨w.heap.size, 0, none⟩ (.int .i64 0)).setCell ⟨w.heap.size, 1, none⟩ (.string ⟨#[]⟩)).setCell ⟨w.heap.size, 2, none⟩ (.string ⟨#[]⟩)).setCell ⟨w.heap.size, 3, none⟩ (.int .u8 0)).setCell ⟨w.heap.size, 4, none⟩ (.string ⟨#[]⟩)).setCell ⟨w.heap.size, 5, none⟩ (.string ⟨#[]⟩)).setCell ⟨w.heap.size, 6, none⟩ (.int .i64 0)).setCell ⟨w.heap.size, 7, none⟩ (.string ⟨#[]⟩)) = W9 at hR9 hB9 ⊢
    obtain ⟨q0, q1, q2, q3, q4, q5, q6, q7⟩ := hR9.eight
    (try simp only [Exit.inBlock, Exit.then])
    refine bodyPost_ret (v := .tuple #[.agg #[.int .i64 0, .string ⟨#[]⟩, .string ⟨#[]⟩, .int .u8 0, .string ⟨#[]⟩, .string ⟨#[]⟩, .int .i64 0, .string ⟨#[]⟩], .int .i64 33]) ?_ rfl ⟨rfl, hB9⟩
    simp [results, Tryd.results12, go_sem, q0, q1, q2, q3, q4, q5, q6, q7]
  · have hne : ((P.length : Int) != 8) = false := by simp; omega
    have hp8 : (P.length : Int) = 8 := by omega
    go_enter Tryd.func12, Tryd.ntmps12
    go_wp2_with fail
    refine (cS.out _).mono ?_
    rintro e w1 ⟨rfl, rfl⟩
    generalize (w.alloc (.cells noneC 29)).alloc (.cells (P.map Value.string).toArray 9) = W1 at hR0 hS0 hB0 hz0 ⊢
    have hR1 := (hR0.alloc (.cells #[.int .i64 0, .int .i64 0, .int .i64 0, .int .i64 0, .int .i64 0, .int .i64 0, .int .i64 0, .int .i64 0] 47)).alloc (.cells #[.string ⟨#[]⟩, .string ⟨#[]⟩, .string ⟨#[]⟩, .string ⟨#[]⟩, .string ⟨#[]⟩, .string ⟨#[]⟩, .string ⟨#[]⟩, .string ⟨#[]⟩] 48)
    have hS1 := (hS0.alloc (.cells #[.int .i64 0, .int .i64 0, .int .i64 0, .int .i64 0, .int .i64 0, .int .i64 0, .int .i64 0, .int .i64 0] 47)).alloc (.cells #[.string ⟨#[]⟩, .string ⟨#[]⟩, .string ⟨#[]⟩, .string ⟨#[]⟩, .string ⟨#[]⟩, .string ⟨#[]⟩, .string ⟨#[]⟩, .string ⟨#[]⟩] 48)
    have hN1 := (Blk.new W1 47 #[.int .i64 0, .int .i64 0, .int .i64 0, .int .i64 0, .int .i64 0, .int .i64 0, .int .i64 0, .int .i64 0]).alloc (.cells #[.string ⟨#[]⟩, .string ⟨#[]⟩, .string ⟨#[]⟩, .string ⟨#[]⟩, .string ⟨#[]⟩, .string ⟨#[]⟩, .string ⟨#[]⟩, .string ⟨#[]⟩] 48)
    have hX1 := Blk.new (W1.alloc (.cells #[.int .i64 0, .int .i64 0, .int .i64 0, .int .i64 0, .int .i64 0, .int .i64 0, .int .i64 0, .int .i64 0] 47)) 48 #[.string ⟨#[]⟩, .string ⟨#[]⟩, .string ⟨#[]⟩, .string ⟨#[]⟩, .string ⟨#[]⟩, .string ⟨#[]⟩, .string ⟨#[]⟩, .string ⟨#[]⟩]
    have hB1 := (hB0.alloc hB0.size (.cells #[.int .i64 0, .int .i64 0, .int .i64 0, .int .i64 0, .int .i64 0, .int .i64 0, .int .i64 0, .int .i64 0] 47)).alloc (by simp; have := hB0.size; omega) (.cells #[.string ⟨#[]⟩, .string ⟨#[]⟩, .string ⟨#[]⟩, .string ⟨#[]⟩, .string ⟨#[]⟩, .string ⟨#[]⟩, .string ⟨#[]⟩, .string ⟨#[]⟩] 48)
    rw [World.size_alloc] at hX1
    rw [hz0] at hN1 hX1
    clear hR0 hS0 hB0
    go_wp2_with fail
    generalize (W1.alloc (.cells #[.int .i64 0, .int .i64 0, .int .i64 0, .int .i64 0, .int .i64 0, .int .i64 0, .int .i64 0, .int .i64 0] 47)).alloc (.cells #[.string ⟨#[]⟩, .string ⟨#[]⟩, .string ⟨#[]⟩, .string ⟨#[]⟩, .string ⟨#[]⟩, .string ⟨#[]⟩, .string ⟨#[]⟩, .string ⟨#[]⟩] 48) = W2 at hR1 hS1 hN1 hX1 hB1 ⊢
    go_loopw [21] (fun i wr => ∃ (k : Nat), i = .int .i64 (k : Int) ∧ k ≤ 8 ∧ Blk wr w.heap.size 29 noneC ∧ Blk wr (w.heap.size + 1) 9 (P.map Value.string).toArray ∧ Blk wr (w.heap.size + 2) 47 (nRow L k) ∧ Blk wr (w.heap.size + 2 + 1) 48 (tRow L k) ∧ Below w.heap.size w wr ∧ Hid (NoBad L k)) (fun i _ => 8 - (intOf i).toNat)
    case atStart => exact ⟨0, rfl, Nat.zero_le _, hR1, hS1, by simpa [nRow, nV] using hN1, by simpa [tRow, tV] using hX1, hB1, fun j hj => by omega⟩
    case round =>
      obtain ⟨k, rfl, hk8, hR, hS, hN, hX, hB, hnb⟩ := hrel
      clear hR1 hS1 hN1 hX1 hB1
      by_cases hlt : k < 8
      · obtain ⟨x, hx⟩ : ∃ x, P[k]? = some x := ⟨_, List.getElem?_eq_getElem (by omega)⟩
        have hcx : wr.cell? ⟨w.heap.size + 1, k, none⟩ = some (.string x) := by rw [hS.cell k]; simp [hx]
        have hLk : L.getD k [] = x.data.toList := by rw [← hPL]; simp [List.getD, hx]
        have hxs := hPs x (List.mem_of_getElem? hx)
        have hki : (k : Int) < 8 := by omega
        clear hx
        rcases Bool.eq_false_or_eq_true (fieldN k) with hn | hn
        · have cP := fun w => parse_any x w (by omega)
          have hb0 : fieldBad k (L.getD k []) = !((pParse x.data.toList).2 == 0) := by unfold fieldBad; rw [if_pos hn, hLk]
          have hnA : numAt k (L.getD k []) = (pParse x.data.toList).1 := by unfold numAt; rw [if_pos hn, hLk]
          have hNs := nRow_set L k hlt
          rw [hnA] at hNs
          have hTk := tRow_keep L k hlt hn
          generalize pParse x.data.toList = q at cP hb0 hNs hnA
          obtain ⟨v, f⟩ := q
          simp only at cP hb0 hNs hnA
          have cP := hide cP
          clear hnA
          by_cases hf : f = 0
          · subst hf
            have HN := hide (hnb.out.next (by rw [hb0]; rfl))
            clear hb0
            rcases n3 hlt hn with rfl | rfl | rfl
            · have hXk := (tRow_at L 0 (by omega))
              obtain ⟨u, hu⟩ := Option.isSome_iff_exists.1 (nRow_some L 0 0 (by omega))
              go_wp2_with (go_at_call 24; refine (cP.out _).mono ?_; rintro e w2 ⟨rfl, hb2⟩; have nk := ((hN.below hb2 hN.lt).cell 0).trans hu; have fk := (hN.below hb2 hN.lt).frozen 0; have xk := ((hX.below hb2 hX.lt).cell 0).trans hXk)
              go_roundw
              case rel => exact ⟨0 + 1, by first | rfl | go_num, by omega, (hR.below hb2 hR.lt).far (p := ⟨w.heap.size + 2, 0, none⟩) (by simp <;> omega) _, (hS.below hb2 hS.lt).far (p := ⟨w.heap.size + 2, 0, none⟩) (by simp <;> omega) _, by rw [← hNs]; exact (hN.below hb2 hN.lt).set_ 0 _, by rw [hTk]; exact (hX.below hb2 hX.lt).far (p := ⟨w.heap.size + 2, 0, none⟩) (by simp <;> omega) _, (hB.trans (hb2.mono hB.size)).setCell (p := ⟨w.heap.size + 2, 0, none⟩) (by simp <;> omega) _, HN⟩
              case measure => simp [intOf]
            · have hXk := (tRow_at L 3 (by omega))
              obtain ⟨u, hu⟩ := Option.isSome_iff_exists.1 (nRow_some L 3 3 (by omega))
              go_wp2_with (go_at_call 24; refine (cP.out _).mono ?_; rintro e w2 ⟨rfl, hb2⟩; have nk := ((hN.below hb2 hN.lt).cell 3).trans hu; have fk := (hN.below hb2 hN.lt).frozen 3; have xk := ((hX.below hb2 hX.lt).cell 3).trans hXk)
              go_roundw
              case rel => exact ⟨3 + 1, by first | rfl | go_num, by omega, (hR.below hb2 hR.lt).far (p := ⟨w.heap.size + 2, 3, none⟩) (by simp <;> omega) _, (hS.below hb2 hS.lt).far (p := ⟨w.heap.size + 2, 3, none⟩) (by simp <;> omega) _, by rw [← hNs]; exact (hN.below hb2 hN.lt).set_ 3 _, by rw [hTk]; exact (hX.below hb2 hX.lt).far (p := ⟨w.heap.size + 2, 3, none⟩) (by simp <;> omega) _, (hB.trans (hb2.mono hB.size)).setCell (p := ⟨w.heap.size + 2, 3, none⟩) (by simp <;> omega) _, HN⟩
              case measure => simp [intOf]
            · have hXk := (tRow_at L 6 (by omega))
              obtain ⟨u, hu⟩ := Option.isSome_iff_exists.1 (nRow_some L 6 6 (by omega))
              go_wp2_with (go_at_call 24; refine (cP.out _).mono ?_; rintro e w2 ⟨rfl, hb2⟩; have nk := ((hN.below hb2 hN.lt).cell 6).trans hu; have fk := (hN.below hb2 hN.lt).frozen 6; have xk := ((hX.below hb2 hX.lt).cell 6).trans hXk)
              go_roundw
              case rel => exact ⟨6 + 1, by first | rfl | go_num, by omega, (hR.below hb2 hR.lt).far (p := ⟨w.heap.size + 2, 6, none⟩) (by simp <;> omega) _, (hS.below hb2 hS.lt).far (p := ⟨w.heap.size + 2, 6, none⟩) (by simp <;> omega) _, by rw [← hNs]; exact (hN.below hb2 hN.lt).set_ 6 _, by rw [hTk]; exact (hX.below hb2 hX.lt).far (p := ⟨w.heap.size + 2, 6, none⟩) (by simp <;> omega) _, (hB.trans (hb2.mono hB.size)).setCell (p := ⟨w.heap.size + 2, 6, none⟩) (by simp <;> omega) _, HN⟩
              case measure => simp [intOf]
          · have hfne : (f != 0) = true := by simpa using hf
            have HP := hide (show parseL L = (StV.none_, 33) by unfold parseL; rw [if_neg (by omega), if_pos (bad_any hlt (by rw [hb0]; simp [hf]))])
            clear hb0 hf
            rcases n3 hlt hn with rfl | rfl | rfl
            · have hXk := (tRow_at L 0 (by omega))
              obtain ⟨u, hu⟩ := Option.isSome_iff_exists.1 (nRow_some L 0 0 (by omega))
              go_wp2_with (go_at_call 24; refine (cP.out _).mono ?_; rintro e w2 ⟨rfl, hb2⟩; have hR2 := hR.below hb2 hR.lt; have nk := ((hN.below hb2 hN.lt).cell 0).trans hu; have fk := (hN.below hb2 hN.lt).frozen 0; have xk := ((hX.below hb2 hX.lt).cell 0).trans hXk; have r0 := hR2.cell 0; have r1 := hR2.cell 1; have r2 := hR2.cell 2; have r3 := hR2.cell 3; have r4 := hR2.cell 4; have r5 := hR2.cell 5; have r6 := hR2.cell 6; have r7 := hR2.cell 7; have g0 := hR2.frozen 0; have g1 := hR2.frozen 1; have g2 := hR2.frozen 2; have g3 := hR2.frozen 3; have g4 := hR2.frozen 4; have g5 := hR2.frozen 5; have g6 := hR2.frozen 6; have g7 := hR2.frozen 7; simp [noneC] at r0 r1 r2 r3 r4 r5 r6 r7)
              have hR3 := hR2.far (p := ⟨w.heap.size + 2, 0, none⟩) (by simp <;> omega) (.int .i64 v)
              have hB3 := (hB.trans (hb2.mono hB.size)).setCell (p := ⟨w.heap.size + 2, 0, none⟩) (by simp <;> omega) (.int .i64 v)
              have hR9 := hR3.put8 (.int .i64 0) (.string ⟨#[]⟩) (.string ⟨#[]⟩) (.int .u8 0) (.string ⟨#[]⟩) (.string ⟨#[]⟩) (.int .i64 0) (.string ⟨#[]⟩)
              have hB9 := below_eight (v0 := .int .i64 0) (v1 := .string ⟨#[]⟩) (v2 := .string ⟨#[]⟩) (v3 := .int .u8 0) (v4 := .string ⟨#[]⟩) (v5 := .string ⟨#[]⟩) (v6 := .int .i64 0) (v7 := .string ⟨#[]⟩) hB3 (g := w.heap.size) (Nat.le_refl _)
              generalize (((((((((w2.setCell ⟨w.heap.size + 2, 0, none⟩ (.int .i64 v)).setCell ⟨w.heap.size, 0, none⟩ (.int .i64 0)).setCell ⟨w.heap.size, 1, none⟩ (.string ⟨#[]⟩)).setCell ⟨w.heap.size, 2, none⟩ (.string ⟨#[]⟩)).setCell ⟨w.heap.size, 3, none⟩ (.int .u8 0)).setCell ⟨w.heap.size, 4, none⟩ (.string ⟨#[]⟩)).setCell ⟨w.heap.size, 5, none⟩ (.string ⟨#[]⟩)).setCell ⟨w.heap.size, 6, none⟩ (.int .i64 0)).setCell ⟨w.heap.size, 7, none⟩ (.string ⟨#[]⟩)) = W9 at hR9 hB9 ⊢
              obtain ⟨q0, q1, q2, q3, q4, q5, q6, q7⟩ := hR9.eight
              (try simp only [Exit.inBlock, Exit.then])
              refine bodyPost_ret (v := .tuple #[.agg #[.int .i64 0, .string ⟨#[]⟩, .string ⟨#[]⟩, .int .u8 0, .string ⟨#[]⟩, .string ⟨#[]⟩, .int .i64 0, .string ⟨#[]⟩], .int .i64 33]) ?_ rfl ⟨by rw [HP.out]; rfl, hB9⟩
              simp [results, Tryd.results12, go_sem, q0, q1, q2, q3, q4, q5, q6, q7]
            · have hXk := (tRow_at L 3 (by omega))
              obtain ⟨u, hu⟩ := Option.isSome_iff_exists.1 (nRow_some L 3 3 (by omega))
              go_wp2_with (go_at_call 24; refine (cP.out _).mono ?_; rintro e w2 ⟨rfl, hb2⟩; have hR2 := hR.below hb2 hR.lt; have nk := ((hN.below hb2 hN.lt).cell 3).trans hu; have fk := (hN.below hb2 hN.lt).frozen 3; have xk := ((hX.below hb2 hX.lt).cell 3).trans hXk; have r0 := hR2.cell 0; have r1 := hR2.cell 1; have r2 := hR2.cell 2; have r3 := hR2.cell 3; have r4 := hR2.cell 4; have r5 := hR2.cell 5; have r6 := hR2.cell 6; have r7 := hR2.cell 7; have g0 := hR2.frozen 0; have g1 := hR2.frozen 1; have g2 := hR2.frozen 2; have g3 := hR2.frozen 3; have g4 := hR2.frozen 4; have g5 := hR2.frozen 5; have g6 := hR2.frozen 6; have g7 := hR2.frozen 7; simp [noneC] at r0 r1 r2 r3 r4 r5 r6 r7)
              have hR3 := hR2.far (p := ⟨w.heap.size + 2, 3, none⟩) (by simp <;> omega) (.int .i64 v)
              have hB3 := (hB.trans (hb2.mono hB.size)).setCell (p := ⟨w.heap.size + 2, 3, none⟩) (by simp <;> omega) (.int .i64 v)
              have hR9 := hR3.put8 (.int .i64 0) (.string ⟨#[]⟩) (.string ⟨#[]⟩) (.int .u8 0) (.string ⟨#[]⟩) (.string ⟨#[]⟩) (.int .i64 0) (.string ⟨#[]⟩)
              have hB9 := below_eight (v0 := .int .i64 0) (v1 := .string ⟨#[]⟩) (v2 := .string ⟨#[]⟩) (v3 := .int .u8 0) (v4 := .string ⟨#[]⟩) (v5 := .string ⟨#[]⟩) (v6 := .int .i64 0) (v7 := .string ⟨#[]⟩) hB3 (g := w.heap.size) (Nat.le_refl _)
              generalize (((((((((w2.setCell ⟨w.heap.size + 2, 3, none⟩ (.int .i64 v)).setCell ⟨w.heap.size, 0, none⟩ (.int .i64 0)).setCell ⟨w.heap.size, 1, none⟩ (.string ⟨#[]⟩)).setCell ⟨w.heap.size, 2, none⟩ (.string ⟨#[]⟩)).setCell ⟨w.heap.size, 3, none⟩ (.int .u8 0)).setCell ⟨w.heap.size, 4, none⟩ (.string ⟨#[]⟩)).setCell ⟨w.heap.size, 5, none⟩ (.string ⟨#[]⟩)).setCell ⟨w.heap.size, 6, none⟩ (.int .i64 0)).setCell ⟨w.heap.size, 7, none⟩ (.string ⟨#[]⟩)) = W9 at hR9 hB9 ⊢
              obtain ⟨q0, q1, q2, q3, q4, q5, q6, q7⟩ := hR9.eight
              (try simp only [Exit.inBlock, Exit.then])
              refine bodyPost_ret (v := .tuple #[.agg #[.int .i64 0, .string ⟨#[]⟩, .string ⟨#[]⟩, .int .u8 0, .string ⟨#[]⟩, .string ⟨#[]⟩, .int .i64 0, .string ⟨#[]⟩], .int .i64 33]) ?_ rfl ⟨by rw [HP.out]; rfl, hB9⟩
              simp [results, Tryd.results12, go_sem, q0, q1, q2, q3, q4, q5, q6, q7]
            · have hXk := (tRow_at L 6 (by omega))
              obtain ⟨u, hu⟩ := Option.isSome_iff_exists.1 (nRow_some L 6 6 (by omega))
              go_wp2_with (go_at_call 24; refine (cP.out _).mono ?_; rintro e w2 ⟨rfl, hb2⟩; have hR2 := hR.below hb2 hR.lt; have nk := ((hN.below hb2 hN.lt).cell 6).trans hu; have fk := (hN.below hb2 hN.lt).frozen 6; have xk := ((hX.below hb2 hX.lt).cell 6).trans hXk; have r0 := hR2.cell 0; have r1 := hR2.cell 1; have r2 := hR2.cell 2; have r3 := hR2.cell 3; have r4 := hR2.cell 4; have r5 := hR2.cell 5; have r6 := hR2.cell 6; have r7 := hR2.cell 7; have g0 := hR2.frozen 0; have g1 := hR2.frozen 1; have g2 := hR2.frozen 2; have g3 := hR2.frozen 3; have g4 := hR2.frozen 4; have g5 := hR2.frozen 5; have g6 := hR2.frozen 6; have g7 := hR2.frozen 7; simp [noneC] at r0 r1 r2 r3 r4 r5 r6 r7)
              have hR3 := hR2.far (p := ⟨w.heap.size + 2, 6, none⟩) (by simp <;> omega) (.int .i64 v)
              have hB3 := (hB.trans (hb2.mono hB.size)).setCell (p := ⟨w.heap.size + 2, 6, none⟩) (by simp <;> omega) (.int .i64 v)
              have hR9 := hR3.put8 (.int .i64 0) (.string ⟨#[]⟩) (.string ⟨#[]⟩) (.int .u8 0) (.string ⟨#[]⟩) (.string ⟨#[]⟩) (.int .i64 0) (.string ⟨#[]⟩)
              have hB9 := below_eight (v0 := .int .i64 0) (v1 := .string ⟨#[]⟩) (v2 := .string ⟨#[]⟩) (v3 := .int .u8 0) (v4 := .string ⟨#[]⟩) (v5 := .string ⟨#[]⟩) (v6 := .int .i64 0) (v7 := .string ⟨#[]⟩) hB3 (g := w.heap.size) (Nat.le_refl _)
              generalize (((((((((w2.setCell ⟨w.heap.size + 2, 6, none⟩ (.int .i64 v)).setCell ⟨w.heap.size, 0, none⟩ (.int .i64 0)).setCell ⟨w.heap.size, 1, none⟩ (.string ⟨#[]⟩)).setCell ⟨w.heap.size, 2, none⟩ (.string ⟨#[]⟩)).setCell ⟨w.heap.size, 3, none⟩ (.int .u8 0)).setCell ⟨w.heap.size, 4, none⟩ (.string ⟨#[]⟩)).setCell ⟨w.heap.size, 5, none⟩ (.string ⟨#[]⟩)).setCell ⟨w.heap.size, 6, none⟩ (.int .i64 0)).setCell ⟨w.heap.size, 7, none⟩ (.string ⟨#[]⟩)) = W9 at hR9 hB9 ⊢
              obtain ⟨q0, q1, q2, q3, q4, q5, q6, q7⟩ := hR9.eight
              (try simp only [Exit.inBlock, Exit.then])
              refine bodyPost_ret (v := .tuple #[.agg #[.int .i64 0, .string ⟨#[]⟩, .string ⟨#[]⟩, .int .u8 0, .string ⟨#[]⟩, .string ⟨#[]⟩, .int .i64 0, .string ⟨#[]⟩], .int .i64 33]) ?_ rfl ⟨by rw [HP.out]; rfl, hB9⟩
              simp [results, Tryd.results12, go_sem, q0, q1, q2, q3, q4, q5, q6, q7]
        · obtain ⟨k0, k3, k6⟩ := n5 hn
          have e0 : ((k : Int) == 0) = false := by simp; omega
          have e3 : ((k : Int) == 3) = false := by simp; omega
          have e6 : ((k : Int) == 6) = false := by simp; omega
          have cD := fun w => pctDec_bytes x w (by omega)
          have hb0 : fieldBad k (L.getD k []) = (!(unp x.data.toList).2.2 || (!(unp x.data.toList).1.isEmpty && !(encM (unp x.data.toList).1 == x.data.toList))) := by unfold fieldBad; rw [if_neg (by rw [hn]; decide), hLk]
          have htA : txtAt k (L.getD k []) = (unp x.data.toList).1 := by unfold txtAt; rw [if_neg (by rw [hn]; decide), hLk]
          have hTs := tRow_set L k hlt
          rw [htA] at hTs
          have hNk := nRow_keep L k hlt hn
          have hXk := tRow_at L k hlt
          have hul := unp_len x.data.toList
          rw [size_list] at hul
          generalize unp x.data.toList = q at cD hb0 hTs htA hul
          obtain ⟨y, at1, ok⟩ := q
          simp only at cD hb0 hTs htA hul
          clear htA k0 k3 k6
          cases ok
          · have HP := hide (show parseL L = (StV.none_, 33) by unfold parseL; rw [if_neg (by omega), if_pos (bad_any hlt (by rw [hb0]; rfl))])
            simp only [Bool.false_eq_true, if_false] at cD
            have cD := hide cD
            clear hb0 hul
            go_wp2_with (go_at_call 25; refine (cD.out _).mono ?_; rintro e w2 ⟨rfl, hb2⟩; have hR2 := hR.below hb2 hR.lt; have xk := ((hX.below hb2 hX.lt).cell k).trans hXk; have fk := (hX.below hb2 hX.lt).frozen k; have r0 := hR2.cell 0; have r1 := hR2.cell 1; have r2 := hR2.cell 2; have r3 := hR2.cell 3; have r4 := hR2.cell 4; have r5 := hR2.cell 5; have r6 := hR2.cell 6; have r7 := hR2.cell 7; have g0 := hR2.frozen 0; have g1 := hR2.frozen 1; have g2 := hR2.frozen 2; have g3 := hR2.frozen 3; have g4 := hR2.frozen 4; have g5 := hR2.frozen 5; have g6 := hR2.frozen 6; have g7 := hR2.frozen 7; simp [noneC] at r0 r1 r2 r3 r4 r5 r6 r7)
            have hR3 := hR2.far (p := ⟨w.heap.size + 2 + 1, k, none⟩) (by simp <;> omega) (.string ⟨#[]⟩)
            have hB3 := (hB.trans (hb2.mono hB.size)).setCell (p := ⟨w.heap.size + 2 + 1, k, none⟩) (by simp; omega) (.string ⟨#[]⟩)
            have hR9 := hR3.put8 (.int .i64 0) (.string ⟨#[]⟩) (.string ⟨#[]⟩) (.int .u8 0) (.string ⟨#[]⟩) (.string ⟨#[]⟩) (.int .i64 0) (.string ⟨#[]⟩)
            have hB9 := below_eight (v0 := .int .i64 0) (v1 := .string ⟨#[]⟩) (v2 := .string ⟨#[]⟩) (v3 := .int .u8 0) (v4 := .string ⟨#[]⟩) (v5 := .string ⟨#[]⟩) (v6 := .int .i64 0) (v7 := .string ⟨#[]⟩) hB3 (g := w.heap.size) (Nat.le_refl _)
            generalize (((((((((w2.setCell ⟨w.heap.size + 2 + 1, k, none⟩ (.string ⟨#[]⟩)).setCell ⟨w.heap.size, 0, none⟩ (.int .i64 0)).setCell ⟨w.heap.size, 1, none⟩ (.string ⟨#[]⟩)).setCell ⟨w.heap.size, 2, none⟩ (.string ⟨#[]⟩)).setCell ⟨w.heap.size, 3, none⟩ (.int .u8 0)).setCell ⟨w.heap.size, 4, none⟩ (.string ⟨#[]⟩)).setCell ⟨w.heap.size, 5, none⟩ (.string ⟨#[]⟩)).setCell ⟨w.heap.size, 6, none⟩ (.int .i64 0)).setCell ⟨w.heap.size, 7, none⟩ (.string ⟨#[]⟩)) = W9 at hR9 hB9 ⊢
            obtain ⟨q0, q1, q2, q3, q4, q5, q6, q7⟩ := hR9.eight
            (try simp only [Exit.inBlock, Exit.then])
            refine bodyPost_ret (v := .tuple #[.agg #[.int .i64 0, .string ⟨#[]⟩, .string ⟨#[]⟩, .int .u8 0, .string ⟨#[]⟩, .string ⟨#[]⟩, .int .i64 0, .string ⟨#[]⟩], .int .i64 33]) ?_ rfl ⟨by rw [HP.out]; rfl, hB9⟩
            simp [results, Tryd.results12, go_sem, q0, q1, q2, q3, q4, q5, q6, q7]
          · simp only [if_true] at cD
            have hye : (ByteArray.mk y.toArray).toList.isEmpty = y.isEmpty := by rw [ByteArray.toList_eq]
            have hys : (ByteArray.mk y.toArray).size = y.length := mk_size y
            have cE := fun W hW => encode_bytes ⟨y.toArray⟩ W (by rw [hys]; omega) (Utf8Tabs_below hT hW)
            have hyl : (ByteArray.mk y.toArray).data.toList = y := rfl
            rw [hyl] at cE
            have hzx : ((ByteArray.mk (encM y).toArray).toList == x.toList) = (encM y == x.data.toList) := by rw [ByteArray.toList_eq, ByteArray.toList_eq]
            have hb0 : fieldBad k (L.getD k []) = (!y.isEmpty && !(encM y == x.data.toList)) := by rw [hb0]; rfl
            generalize (⟨(encM y).toArray⟩ : ByteArray) = z at cE hzx
            generalize (encM y == x.data.toList) = zb at hzx hb0
            generalize (⟨y.toArray⟩ : ByteArray) = yb at cD cE hye hTs
            generalize y.isEmpty = ye at hye hb0
            have cD := hide cD; have cE := hide cE
            clear hyl hys hul
            cases ye
            · cases zb
              · have HP := hide (show parseL L = (StV.none_, 33) by unfold parseL; rw [if_neg (by omega), if_pos (bad_any hlt (by rw [hb0]; rfl))])
                have hzn : (z.toList != x.toList) = true := by simpa using hzx
                clear hb0
                go_wp2_with (first
                  | (go_at_call 25; refine (cD.out _).mono ?_; rintro e w2 ⟨rfl, hb2⟩; have hR2 := hR.below hb2 hR.lt; have xk := ((hX.below hb2 hX.lt).cell k).trans hXk; have fk := (hX.below hb2 hX.lt).frozen k; have r0 := hR2.cell 0; have r1 := hR2.cell 1; have r2 := hR2.cell 2; have r3 := hR2.cell 3; have r4 := hR2.cell 4; have r5 := hR2.cell 5; have r6 := hR2.cell 6; have r7 := hR2.cell 7; have g0 := hR2.frozen 0; have g1 := hR2.frozen 1; have g2 := hR2.frozen 2; have g3 := hR2.frozen 3; have g4 := hR2.frozen 4; have g5 := hR2.frozen 5; have g6 := hR2.frozen 6; have g7 := hR2.frozen 7; simp [noneC] at r0 r1 r2 r3 r4 r5 r6 r7)
                  | (go_at_call 26; refine (cE.out _ ((hB.trans (hb2.mono hB.size)).setCell (p := ⟨w.heap.size + 2 + 1, k, none⟩) (by simp; omega) _)).mono ?_; rintro e w3 ⟨rfl, hb3⟩; have hR3 := (hR2.far (p := ⟨w.heap.size + 2 + 1, k, none⟩) (by simp <;> omega) (.string yb)).below hb3 (by simpa using hR2.lt); have hB3 := ((hB.trans (hb2.mono hB.size)).setCell (p := ⟨w.heap.size + 2 + 1, k, none⟩) (by simp; omega) (.string yb)).trans (hb3.mono (by have := hB.size; have := hb2.size; simp; omega)); clear r0 r1 r2 r3 r4 r5 r6 r7 g0 g1 g2 g3 g4 g5 g6 g7; have r0 := hR3.cell 0; have r1 := hR3.cell 1; have r2 := hR3.cell 2; have r3 := hR3.cell 3; have r4 := hR3.cell 4; have r5 := hR3.cell 5; have r6 := hR3.cell 6; have r7 := hR3.cell 7; have g0 := hR3.frozen 0; have g1 := hR3.frozen 1; have g2 := hR3.frozen 2; have g3 := hR3.frozen 3; have g4 := hR3.frozen 4; have g5 := hR3.frozen 5; have g6 := hR3.frozen 6; have g7 := hR3.frozen 7; simp [noneC] at r0 r1 r2 r3 r4 r5 r6 r7))
                have hR9 := hR3.put8 (.int .i64 0) (.string ⟨#[]⟩) (.string ⟨#[]⟩) (.int .u8 0) (.string ⟨#[]⟩) (.string ⟨#[]⟩) (.int .i64 0) (.string ⟨#[]⟩)
                have hB9 := below_eight (v0 := .int .i64 0) (v1 := .string ⟨#[]⟩) (v2 := .string ⟨#[]⟩) (v3 := .int .u8 0) (v4 := .string ⟨#[]⟩) (v5 := .string ⟨#[]⟩) (v6 := .int .i64 0) (v7 := .string ⟨#[]⟩) hB3 (g := w.heap.size) (Nat.le_refl _)
                generalize ((((((((w3.setCell ⟨w.heap.size, 0, none⟩ (.int .i64 0)).setCell ⟨w.heap.size, 1, none⟩ (.string ⟨#[]⟩)).setCell ⟨w.heap.size, 2, none⟩ (.string ⟨#[]⟩)).setCell ⟨w.heap.size, 3, none⟩ (.int .u8 0)).setCell ⟨w.heap.size, 4, none⟩ (.string ⟨#[]⟩)).setCell ⟨w.heap.size, 5, none⟩ (.string ⟨#[]⟩)).setCell ⟨w.heap.size, 6, none⟩ (.int .i64 0)).setCell ⟨w.heap.size, 7, none⟩ (.string ⟨#[]⟩)) = W9 at hR9 hB9 ⊢
                obtain ⟨q0, q1, q2, q3, q4, q5, q6, q7⟩ := hR9.eight
                (try simp only [Exit.inBlock, Exit.then])
                refine bodyPost_ret (v := .tuple #[.agg #[.int .i64 0, .string ⟨#[]⟩, .string ⟨#[]⟩, .int .u8 0, .string ⟨#[]⟩, .string ⟨#[]⟩, .int .i64 0, .string ⟨#[]⟩], .int .i64 33]) ?_ rfl ⟨by rw [HP.out]; rfl, hB9⟩
                simp [results, Tryd.results12, go_sem, q0, q1, q2, q3, q4, q5, q6, q7]
              · have HN := hide (hnb.out.next (by rw [hb0]; rfl))
                have hzn : (z.toList != x.toList) = false := by simpa using hzx
                clear hb0
                go_wp2_with (first
                  | (go_at_call 25; refine (cD.out _).mono ?_; rintro e w2 ⟨rfl, hb2⟩; have hR2 := hR.below hb2 hR.lt; have xk := ((hX.below hb2 hX.lt).cell k).trans hXk; have fk := (hX.below hb2 hX.lt).frozen k; have r0 := hR2.cell 0; have r1 := hR2.cell 1; have r2 := hR2.cell 2; have r3 := hR2.cell 3; have r4 := hR2.cell 4; have r5 := hR2.cell 5; have r6 := hR2.cell 6; have r7 := hR2.cell 7; have g0 := hR2.frozen 0; have g1 := hR2.frozen 1; have g2 := hR2.frozen 2; have g3 := hR2.frozen 3; have g4 := hR2.frozen 4; have g5 := hR2.frozen 5; have g6 := hR2.frozen 6; have g7 := hR2.frozen 7; simp [noneC] at r0 r1 r2 r3 r4 r5 r6 r7)
                  | (go_at_call 26; refine (cE.out _ ((hB.trans (hb2.mono hB.size)).setCell (p := ⟨w.heap.size + 2 + 1, k, none⟩) (by simp; omega) _)).mono ?_; rintro e w3 ⟨rfl, hb3⟩))
                go_roundw
                case rel =>
                  have hz2 : (w2.setCell ⟨w.heap.size + 2 + 1, k, none⟩ (.string yb)).heap.size = w2.heap.size := by simp
                  exact ⟨k + 1, by first | rfl | go_num, by omega, ((hR.below hb2 hR.lt).far (p := ⟨w.heap.size + 2 + 1, k, none⟩) (by simp <;> omega) _).below hb3 (by rw [hz2]; exact Nat.lt_of_lt_of_le hR.lt hb2.size), ((hS.below hb2 hS.lt).far (p := ⟨w.heap.size + 2 + 1, k, none⟩) (by simp <;> omega) _).below hb3 (by rw [hz2]; exact Nat.lt_of_lt_of_le hS.lt hb2.size), by rw [hNk]; exact (((hN.below hb2 hN.lt).far (p := ⟨w.heap.size + 2 + 1, k, none⟩) (by simp <;> omega) _).below hb3 (by rw [hz2]; exact Nat.lt_of_lt_of_le hN.lt hb2.size)), by rw [← hTs]; exact ((hX.below hb2 hX.lt).set_ k _).below hb3 (by rw [hz2]; exact Nat.lt_of_lt_of_le hX.lt hb2.size), ((hB.trans (hb2.mono hB.size)).setCell (p := ⟨w.heap.size + 2 + 1, k, none⟩) (by simp; omega) _).trans (hb3.mono (by rw [hz2]; exact Nat.le_trans hB.size hb2.size)), HN⟩
                case measure => simp [intOf]; omega
            · have HN := hide (hnb.out.next (by rw [hb0]; rfl))
              clear hb0
              go_wp2_with (go_at_call 25; refine (cD.out _).mono ?_; rintro e w2 ⟨rfl, hb2⟩; have hR2 := hR.below hb2 hR.lt; have xk := ((hX.below hb2 hX.lt).cell k).trans hXk; have fk := (hX.below hb2 hX.lt).frozen k; have r0 := hR2.cell 0; have r1 := hR2.cell 1; have r2 := hR2.cell 2; have r3 := hR2.cell 3; have r4 := hR2.cell 4; have r5 := hR2.cell 5; have r6 := hR2.cell 6; have r7 := hR2.cell 7; have g0 := hR2.frozen 0; have g1 := hR2.frozen 1; have g2 := hR2.frozen 2; have g3 := hR2.frozen 3; have g4 := hR2.frozen 4; have g5 := hR2.frozen 5; have g6 := hR2.frozen 6; have g7 := hR2.frozen 7; simp [noneC] at r0 r1 r2 r3 r4 r5 r6 r7)
              go_roundw
              case rel => exact ⟨k + 1, by first | rfl | go_num, by omega, (hR.below hb2 hR.lt).far (p := ⟨w.heap.size + 2 + 1, k, none⟩) (by simp <;> omega) _, (hS.below hb2 hS.lt).far (p := ⟨w.heap.size + 2 + 1, k, none⟩) (by simp <;> omega) _, (by rw [hNk]; exact (hN.below hb2 hN.lt).far (p := ⟨w.heap.size + 2 + 1, k, none⟩) (by simp <;> omega) _), (by rw [← hTs]; exact (hX.below hb2 hX.lt).set_ k _), (hB.trans (hb2.mono hB.size)).setCell (p := ⟨w.heap.size + 2 + 1, k, none⟩) (by simp; omega) _, HN⟩
              case measure => simp [intOf]; omega
      · have hk : k = 8 := by omega
        subst hk
        clear hS
        have hst : stOf L = ⟨numAt 0 (L.getD 0 []), ⟨(txtAt 1 (L.getD 1 [])).toArray⟩, ⟨(txtAt 2 (L.getD 2 [])).toArray⟩, numAt 3 (L.getD 3 []), ⟨(txtAt 4 (L.getD 4 [])).toArray⟩, ⟨(txtAt 5 (L.getD 5 [])).toArray⟩, numAt 6 (L.getD 6 []), ⟨(txtAt 7 (L.getD 7 [])).toArray⟩⟩ := rfl
        have hpl : parseL L = if numAt 3 (L.getD 3 []) < 0 ∨ 255 < numAt 3 (L.getD 3 []) then (StV.none_, 33) else if (stOf L).chk = 0 then (stOf L, 0) else (StV.none_, (stOf L).chk) := by
          unfold parseL; rw [if_neg (by omega), if_neg (by rw [hnb.out.all]; decide)]
        have hN8 : nRow L 8 = #[.int .i64 (numAt 0 (L.getD 0 [])), nV L 8 1, nV L 8 2, .int .i64 (numAt 3 (L.getD 3 [])), nV L 8 4, nV L 8 5, .int .i64 (numAt 6 (L.getD 6 [])), nV L 8 7] := by simp [nRow, nV]
        have hX8 : tRow L 8 = #[tV L 8 0, .string ⟨(txtAt 1 (L.getD 1 [])).toArray⟩, .string ⟨(txtAt 2 (L.getD 2 [])).toArray⟩, tV L 8 3, .string ⟨(txtAt 4 (L.getD 4 [])).toArray⟩, .string ⟨(txtAt 5 (L.getD 5 [])).toArray⟩, tV L 8 6, .string ⟨(txtAt 7 (L.getD 7 [])).toArray⟩] := by simp [tRow, tV]
        rw [hN8] at hN
        rw [hX8] at hX
        rw [hst] at hpl
        clear hN8 hX8 hst hnb hPL hPs hlen
        generalize numAt 0 (L.getD 0 []) = n0 at hN hpl
        generalize numAt 3 (L.getD 3 []) = n3 at hN hpl
        generalize numAt 6 (L.getD 6 []) = n6 at hN hpl
        generalize (⟨(txtAt 1 (L.getD 1 [])).toArray⟩ : ByteArray) = y1 at hX hpl
        generalize (⟨(txtAt 2 (L.getD 2 [])).toArray⟩ : ByteArray) = y2 at hX hpl
        generalize (⟨(txtAt 4 (L.getD 4 [])).toArray⟩ : ByteArray) = y4 at hX hpl
        generalize (⟨(txtAt 5 (L.getD 5 [])).toArray⟩ : ByteArray) = y5 at hX hpl
        generalize (⟨(txtAt 7 (L.getD 7 [])).toArray⟩ : ByteArray) = y7 at hX hpl
        have m0 := hN.cell 0; have m3 := hN.cell 3; have m6 := hN.cell 6
        have x1 := hX.cell 1; have x2 := hX.cell 2; have x4 := hX.cell 4; have x5 := hX.cell 5; have x7 := hX.cell 7
        simp at m0 m3 m6 x1 x2 x4 x5 x7
        by_cases hlo : n3 < 0
        · have HP := hide (show parseL L = (StV.none_, 33) by rw [hpl, if_pos (.inl hlo)])
          clear hpl
          obtain ⟨r0, r1, r2, r3, r4, r5, r6, r7⟩ := hR.eight; have g0 := hR.frozen 0; have g1 := hR.frozen 1; have g2 := hR.frozen 2; have g3 := hR.frozen 3; have g4 := hR.frozen 4; have g5 := hR.frozen 5; have g6 := hR.frozen 6; have g7 := hR.frozen 7
          go_wp2_with fail
          have hR9 := hR.put8 (.int .i64 0) (.string ⟨#[]⟩) (.string ⟨#[]⟩) (.int .u8 0) (.string ⟨#[]⟩) (.string ⟨#[]⟩) (.int .i64 0) (.string ⟨#[]⟩)
          have hB9 := below_eight (v0 := .int .i64 0) (v1 := .string ⟨#[]⟩) (v2 := .string ⟨#[]⟩) (v3 := .int .u8 0) (v4 := .string ⟨#[]⟩) (v5 := .string ⟨#[]⟩) (v6 := .int .i64 0) (v7 := .string ⟨#[]⟩) hB (g := w.heap.size) (Nat.le_refl _)
          generalize ((((((((wr.setCell ⟨w.heap.size, 0, none⟩ (.int .i64 0)).setCell ⟨w.heap.size, 1, none⟩ (.string ⟨#[]⟩)).setCell ⟨w.heap.size, 2, none⟩ (.string ⟨#[]⟩)).setCell ⟨w.heap.size, 3, none⟩ (.int .u8 0)).setCell ⟨w.heap.size, 4, none⟩ (.string ⟨#[]⟩)).setCell ⟨w.heap.size, 5, none⟩ (.string ⟨#[]⟩)).setCell ⟨w.heap.size, 6, none⟩ (.int .i64 0)).setCell ⟨w.heap.size, 7, none⟩ (.string ⟨#[]⟩)) = W9 at hR9 hB9 ⊢
          obtain ⟨q0, q1, q2, q3, q4, q5, q6, q7⟩ := hR9.eight
          (try simp only [Exit.inBlock, Exit.then])
          refine bodyPost_ret (v := .tuple #[.agg #[.int .i64 0, .string ⟨#[]⟩, .string ⟨#[]⟩, .int .u8 0, .string ⟨#[]⟩, .string ⟨#[]⟩, .int .i64 0, .string ⟨#[]⟩], .int .i64 33]) ?_ rfl ⟨by rw [HP.out]; rfl, hB9⟩
          simp [results, Tryd.results12, go_sem, q0, q1, q2, q3, q4, q5, q6, q7]
        · by_cases hhi : 255 < n3
          · have HP := hide (show parseL L = (StV.none_, 33) by rw [hpl, if_pos (.inr hhi)])
            clear hpl
            obtain ⟨r0, r1, r2, r3, r4, r5, r6, r7⟩ := hR.eight; have g0 := hR.frozen 0; have g1 := hR.frozen 1; have g2 := hR.frozen 2; have g3 := hR.frozen 3; have g4 := hR.frozen 4; have g5 := hR.frozen 5; have g6 := hR.frozen 6; have g7 := hR.frozen 7
            go_wp2_with fail
            have hR9 := hR.put8 (.int .i64 0) (.string ⟨#[]⟩) (.string ⟨#[]⟩) (.int .u8 0) (.string ⟨#[]⟩) (.string ⟨#[]⟩) (.int .i64 0) (.string ⟨#[]⟩)
            have hB9 := below_eight (v0 := .int .i64 0) (v1 := .string ⟨#[]⟩) (v2 := .string ⟨#[]⟩) (v3 := .int .u8 0) (v4 := .string ⟨#[]⟩) (v5 := .string ⟨#[]⟩) (v6 := .int .i64 0) (v7 := .string ⟨#[]⟩) hB (g := w.heap.size) (Nat.le_refl _)
            generalize ((((((((wr.setCell ⟨w.heap.size, 0, none⟩ (.int .i64 0)).setCell ⟨w.heap.size, 1, none⟩ (.string ⟨#[]⟩)).setCell ⟨w.heap.size, 2, none⟩ (.string ⟨#[]⟩)).setCell ⟨w.heap.size, 3, none⟩ (.int .u8 0)).setCell ⟨w.heap.size, 4, none⟩ (.string ⟨#[]⟩)).setCell ⟨w.heap.size, 5, none⟩ (.string ⟨#[]⟩)).setCell ⟨w.heap.size, 6, none⟩ (.int .i64 0)).setCell ⟨w.heap.size, 7, none⟩ (.string ⟨#[]⟩)) = W9 at hR9 hB9 ⊢
            obtain ⟨q0, q1, q2, q3, q4, q5, q6, q7⟩ := hR9.eight
            (try simp only [Exit.inBlock, Exit.then])
            refine bodyPost_ret (v := .tuple #[.agg #[.int .i64 0, .string ⟨#[]⟩, .string ⟨#[]⟩, .int .u8 0, .string ⟨#[]⟩, .string ⟨#[]⟩, .int .i64 0, .string ⟨#[]⟩], .int .i64 33]) ?_ rfl ⟨by rw [HP.out]; rfl, hB9⟩
            simp [results, Tryd.results12, go_sem, q0, q1, q2, q3, q4, q5, q6, q7]
          · have hpl2 : parseL L = if (StV.mk n0 y1 y2 n3 y4 y5 n6 y7).chk = 0 then (StV.mk n0 y1 y2 n3 y4 y5 n6 y7, 0) else (StV.none_, (StV.mk n0 y1 y2 n3 y4 y5 n6 y7).chk) := by
              rw [hpl, if_neg (by omega)]
            have hwr : IntKind.u8.wrap n3 = n3 := wrap_u8_in n3 (by omega) (by omega)
            have cC := fun w => check_any n0 y1 y2 n3 y4 y5 n6 y7 w (by omega) (by omega)
            have hch : chkM n0 y1.data.toList y2.data.toList n3 y4.data.toList y5.data.toList n6 y7.data.toList = (StV.mk n0 y1 y2 n3 y4 y5 n6 y7).chk := rfl
            rw [hch] at cC
            have hlo2 : 0 ≤ n3 := by omega
            have hhi2 : n3 ≤ 255 := by omega
            clear hpl hch hlo hhi
            have hU := Blk.new wr 29 #[.int .i64 n0, .string y1, .string y2, .int .u8 n3, .string y4, .string y5, .int .i64 n6, .string y7]
            have hRU := hR.alloc (.cells #[.int .i64 n0, .string y1, .string y2, .int .u8 n3, .string y4, .string y5, .int .i64 n6, .string y7] 29)
            have hBU := hB.alloc hB.size (.cells #[.int .i64 n0, .string y1, .string y2, .int .u8 n3, .string y4, .string y5, .int .i64 n6, .string y7] 29)
            have hUR : w.heap.size ≠ wr.heap.size := by have := hR.lt; omega
            generalize (StV.mk n0 y1 y2 n3 y4 y5 n6 y7).chk = ck at cC hpl2
            have cC := hide cC
            go_wp2_with fail
            generalize wr.alloc (.cells #[.int .i64 n0, .string y1, .string y2, .int .u8 n3, .string y4, .string y5, .int .i64 n6, .string y7] 29) = W3 at hU hRU hBU ⊢
            refine (cC.out _).mono ?_
            rintro e w4 ⟨rfl, hb4⟩
            have hU4 := hU.below hb4 hU.lt
            have hR4 := hRU.below hb4 hRU.lt
            have hB4 := hBU.trans (hb4.mono hBU.size)
            clear hN hX hR hB hU hRU hBU hb4 m0 m3 m6 x1 x2 x4 x5 x7
            obtain ⟨r0, r1, r2, r3, r4, r5, r6, r7⟩ := hR4.eight; have g0 := hR4.frozen 0; have g1 := hR4.frozen 1; have g2 := hR4.frozen 2; have g3 := hR4.frozen 3; have g4 := hR4.frozen 4; have g5 := hR4.frozen 5; have g6 := hR4.frozen 6; have g7 := hR4.frozen 7
            by_cases hz : ck = 0
            · have HP := hide (show parseL L = (StV.mk n0 y1 y2 n3 y4 y5 n6 y7, 0) by rw [hpl2, if_pos hz])
              subst hz
              obtain ⟨u0, u1, u2, u3, u4, u5, u6, u7⟩ := hU4.eight
              clear hpl2
              go_wp2_with fail
              have hR9 := hR4.put8 (.int .i64 n0) (.string y1) (.string y2) (.int .u8 n3) (.string y4) (.string y5) (.int .i64 n6) (.string y7)
              have hB9 := below_eight (v0 := .int .i64 n0) (v1 := .string y1) (v2 := .string y2) (v3 := .int .u8 n3) (v4 := .string y4) (v5 := .string y5) (v6 := .int .i64 n6) (v7 := .string y7) hB4 (g := w.heap.size) (Nat.le_refl _)
              generalize ((((((((w4.setCell ⟨w.heap.size, 0, none⟩ (.int .i64 n0)).setCell ⟨w.heap.size, 1, none⟩ (.string y1)).setCell ⟨w.heap.size, 2, none⟩ (.string y2)).setCell ⟨w.heap.size, 3, none⟩ (.int .u8 n3)).setCell ⟨w.heap.size, 4, none⟩ (.string y4)).setCell ⟨w.heap.size, 5, none⟩ (.string y5)).setCell ⟨w.heap.size, 6, none⟩ (.int .i64 n6)).setCell ⟨w.heap.size, 7, none⟩ (.string y7)) = W9 at hR9 hB9 ⊢
              obtain ⟨q0, q1, q2, q3, q4, q5, q6, q7⟩ := hR9.eight
              (try simp only [Exit.inBlock, Exit.then])
              refine bodyPost_ret (v := .tuple #[.agg #[.int .i64 n0, .string y1, .string y2, .int .u8 n3, .string y4, .string y5, .int .i64 n6, .string y7], .int .i64 0]) ?_ rfl ⟨by rw [HP.out], hB9⟩
              simp [results, Tryd.results12, go_sem, q0, q1, q2, q3, q4, q5, q6, q7]
            · have HP := hide (show parseL L = (StV.none_, ck) by rw [hpl2, if_neg hz])
              have hzn : (ck != 0) = true := by simpa using hz
              clear hpl2 hz
              go_wp2_with fail
              have hR9 := hR4.put8 (.int .i64 0) (.string ⟨#[]⟩) (.string ⟨#[]⟩) (.int .u8 0) (.string ⟨#[]⟩) (.string ⟨#[]⟩) (.int .i64 0) (.string ⟨#[]⟩)
              have hB9 := below_eight (v0 := .int .i64 0) (v1 := .string ⟨#[]⟩) (v2 := .string ⟨#[]⟩) (v3 := .int .u8 0) (v4 := .string ⟨#[]⟩) (v5 := .string ⟨#[]⟩) (v6 := .int .i64 0) (v7 := .string ⟨#[]⟩) hB4 (g := w.heap.size) (Nat.le_refl _)
              generalize ((((((((w4.setCell ⟨w.heap.size, 0, none⟩ (.int .i64 0)).setCell ⟨w.heap.size, 1, none⟩ (.string ⟨#[]⟩)).setCell ⟨w.heap.size, 2, none⟩ (.string ⟨#[]⟩)).setCell ⟨w.heap.size, 3, none⟩ (.int .u8 0)).setCell ⟨w.heap.size, 4, none⟩ (.string ⟨#[]⟩)).setCell ⟨w.heap.size, 5, none⟩ (.string ⟨#[]⟩)).setCell ⟨w.heap.size, 6, none⟩ (.int .i64 0)).setCell ⟨w.heap.size, 7, none⟩ (.string ⟨#[]⟩)) = W9 at hR9 hB9 ⊢
              obtain ⟨q0, q1, q2, q3, q4, q5, q6, q7⟩ := hR9.eight
              (try simp only [Exit.inBlock, Exit.then])
              refine bodyPost_ret (v := .tuple #[.agg #[.int .i64 0, .string ⟨#[]⟩, .string ⟨#[]⟩, .int .u8 0, .string ⟨#[]⟩, .string ⟨#[]⟩, .int .i64 0, .string ⟨#[]⟩], .int .i64 ck]) ?_ rfl ⟨by rw [HP.out]; rfl, hB9⟩
              simp [results, Tryd.results12, go_sem, q0, q1, q2, q3, q4, q5, q6, q7]
end Go.Proofs.YtlandmahjdaphaaDoor
