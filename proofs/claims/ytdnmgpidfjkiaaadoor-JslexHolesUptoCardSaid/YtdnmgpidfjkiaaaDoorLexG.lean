/-
  jslex.Pieces.
-/
import Derived.Test.YtdnmgpidfjkiaaaDoorLexF
import Derived.Test.YtdnmgpidfjkiaaaDoorM1
import Derived.Test.YtdnmgpidfjkiaaaDoorM6
import Derived.OwnWalk
import Derived.Deep.OwnRows
import Derived.Deep.RegionLaw
import Derived.Deep.AppendLies
import Derived.Lib.SmallJoins
import Derived.Deep.LoopGhost
namespace Go.Proofs.YtdnmgpidfjkiaaaDoor
open Go.RowKit
set_option linter.unusedVariables false
set_option linter.unusedSimpArgs false

theorem info_piece : (Tryd.prog.info? 44).map (fun i => (i.zero, i.size, i.bytes)) = some (some (.agg #[.int .i64 0, .string ⟨#[]⟩, .int .i64 0]), 3, 32) := by kernel_rfl
theorem came_kinds {s : List UInt8} {a : Nat} {P : List Pc} (h : Came s a P) : ∀ q ∈ P, 1 ≤ q.k ∧ q.k ≤ 5 := by
  intro q hq
  obtain ⟨i, hi, e⟩ := List.getElem_of_mem hq
  exact ((came_cut h).each i q (by rw [List.getElem?_eq_getElem hi, e])).kind
theorem own_keepL {w w' : World} {base n size : Nat} {e : TypeId} {v : Value} {xs : List Value} (h : w.ownsRow base e size v n xs) (hb : Below w.heap.size w w') : w'.ownsRow base e size v n xs :=
  h.kept (row := none) ⟨hb.os, hb.tape, hb.output, hb.size, fun k hk _ => hb.block k hk⟩ (by cases h : v.ownBlock <;> simp)
theorem own_sliceL {w : World} {base n size : Nat} {e : TypeId} {v : Value} {xs : List Value} (h : w.ownsRow base e size v n xs) : ∃ A c, v = .slice A n c := by
  rcases h.2 with ⟨rfl, rfl⟩ | ⟨g, cap, cur, rfl, _⟩
  · exact ⟨_, _, rfl⟩
  · exact ⟨_, _, rfl⟩
theorem ownL_set {w : World} {base n size : Nat} {e : TypeId} {v : Value} {xs : List Value} (h : w.ownsRow base e size v n xs) {p : Addr} (hp : p.block < base) (u : Value) : (w.setCell p u).ownsRow base e size v n xs := by
  refine h.kept (row := some p.block) ⟨rfl, rfl, rfl, by simp, fun k hk hne => Below.heap_setCell w p _ k (fun e => hne (by rw [e]))⟩ (.inr ?_)
  intro e
  have := (h.lt _ e).1
  omega
/-- The boxes of the results and the reader. -/
structure Boxes (w wr : World) (r : Nat) (s : List UInt8) (a : Nat) (o : Value) (P : List Pc) : Prop where
  bel : Below r w wr
  b0 : Blk wr r 38 #[.slice none 0 0]
  b1 : Blk wr (r + 1) 3 #[.int .i64 0]
  b2 : Blk wr (r + 1 + 1) 27 #[.int .i64 0]
  b3 : Blk wr (r + 1 + 1 + 1) 72 #[.string ⟨s.toArray⟩, .int .i64 (a : Int), o]
  own : wr.ownsRow (r + 4) 44 3 o P.length (pcCells P)
theorem Boxes.on {w wr w' : World} {r : Nat} {s : List UInt8} {a : Nat} {o : Value} {P : List Pc} (h : Boxes w wr r s a o P) (hb : Below wr.heap.size wr w') : Boxes w w' r s a o P :=
  ⟨h.bel.trans (hb.mono (by have := h.b3.lt; omega)), h.b0.below hb h.b0.lt, h.b1.below hb h.b1.lt, h.b2.below hb h.b2.lt, h.b3.below hb h.b3.lt, own_keepL h.own hb⟩
theorem Boxes.at_ {w wr : World} {r : Nat} {s : List UInt8} {a : Nat} {o : Value} {P : List Pc} (h : Boxes w wr r s a o P) (a' : Nat) : Boxes w (wr.setCell ⟨r + 1 + 1 + 1, 1, none⟩ (.int .i64 (a' : Int))) r s a' o P := by
  have ho : (wr.setCell ⟨r + 1 + 1 + 1, 1, none⟩ (.int .i64 (a' : Int))).ownsRow (r + 4) 44 3 o P.length (pcCells P) := by
    refine h.own.kept (row := some (r + 1 + 1 + 1)) ⟨rfl, rfl, rfl, by simp, fun k hk hne => Below.heap_setCell wr ⟨r + 1 + 1 + 1, 1, none⟩ _ k (fun e => hne (by rw [e]))⟩ (.inr ?_)
    intro e
    have := (h.own.lt _ e).1
    omega
  have h3 := h.b3.set_ 1 (.int .i64 (a' : Int))
  simp at h3
  exact ⟨h.bel.setCell (p := ⟨r + 1 + 1 + 1, 1, none⟩) (by simp; omega) _, h.b0.far (p := ⟨r + 1 + 1 + 1, 1, none⟩) (by simp; omega) _, h.b1.far (p := ⟨r + 1 + 1 + 1, 1, none⟩) (by simp <;> omega) _, h.b2.far (p := ⟨r + 1 + 1 + 1, 1, none⟩) (by simp <;> omega) _, h3, ho⟩
theorem Boxes.put {w W w4 : World} {r : Nat} {s : List UInt8} {a : Nat} {v v' : Value} {P : List Pc} {q : Pc} (h : Boxes w W r s a v P) (hg : W.grownBy w4 v.ownBlock) (hown : w4.ownsRow (r + 4) 44 3 v' (P.length + 1) (pcCells P ++ [.int .i64 q.k, .string ⟨q.t.toArray⟩, .int .i64 (q.p : Int)])) :
    Boxes w (w4.setCell ⟨r + 1 + 1 + 1, 2, none⟩ v') r s a v' (P ++ [q]) := by
  have hne : ∀ k, k < r + 4 → some k ≠ v.ownBlock := fun k hk e => by have := (h.own.lt _ e.symm).1; omega
  have l3 := h.b3.lt
  have h3 := (h.b3.grown hg (hne _ (by omega))).set_ 2 v'
  simp at h3
  have hb : Below r w w4 := h.bel.grown hg (by omega) (fun j hj => by have := (h.own.lt j hj).1; omega)
  refine ⟨hb.setCell (p := ⟨r + 1 + 1 + 1, 2, none⟩) (by simp <;> omega) _, (h.b0.grown hg (hne _ (by omega))).far (p := ⟨r + 1 + 1 + 1, 2, none⟩) (by simp <;> omega) _, (h.b1.grown hg (hne _ (by omega))).far (p := ⟨r + 1 + 1 + 1, 2, none⟩) (by simp <;> omega) _, (h.b2.grown hg (hne _ (by omega))).far (p := ⟨r + 1 + 1 + 1, 2, none⟩) (by simp <;> omega) _, h3, ?_⟩
  rw [pcCells_snoc, List.length_append]
  exact ownL_set hown (p := ⟨r + 1 + 1 + 1, 2, none⟩) (by simp <;> omega) _
theorem wp_never {P : Program} {c : Code} {Q : Exit → Act → World → Prop} {a : Act} {w : World} (h : c.wp P (Exit.then (fun a w => Q .normal a w) fun _ _ _ => False) a w) : c.wp P Q a w :=
  wp_mono h (fun e a w h => by cases e <;> first | exact h | exact h.elim)
theorem lex_fault (s : List UInt8) (w wr : World) (a : Nat) (o : Value) (P : List Pc) (y : Int) (tmps : Array Value) (hB : Boxes w wr w.heap.size s a o P) (hT : Told s [] (a : Int) y) (h0 : tmps[2]?.getD undef = .pointer (some ⟨w.heap.size, 0, none⟩)) (h1 : tmps[3]?.getD undef = .pointer (some ⟨w.heap.size + 1, 0, none⟩)) (h2 : tmps[4]?.getD undef = .pointer (some ⟨w.heap.size + 1 + 1, 0, none⟩)) :
    Leaves Tryd.prog Tryd.f21 tmps (fun e w' => ∃ v P n er, e = .returned (.tuple #[v, .int .i64 n, .int .i64 er]) ∧ Told s P n er ∧ w'.ownsRow w.heap.size 44 3 v P.length (pcCells P) ∧ Below w.heap.size w w')
      [{ target := .fn (.func 45) #[.pointer (some ⟨w.heap.size, 0, none⟩), .pointer (some ⟨w.heap.size + 1, 0, none⟩), .pointer (some ⟨w.heap.size + 1 + 1, 0, none⟩)], args := #[] }] (.panicking [{ v := faultV (a : Int) y, recovered := false }]) wr := by
  refine leaves_cons (f := 45) (args := #[.pointer (some ⟨w.heap.size, 0, none⟩), .pointer (some ⟨w.heap.size + 1, 0, none⟩), .pointer (some ⟨w.heap.size + 1 + 1, 0, none⟩)]) (by simp) (by simp [go_sem]) ?_
  refine (pieces_catch w.heap.size (w.heap.size + 1) (w.heap.size + 1 + 1) w.heap.size _ _ _ (a : Int) y wr hB.b0 hB.b1 hB.b2 (by omega) (by omega) (by omega) (by omega) (by omega) (by omega)).mono ?_
  rintro e u' w' ⟨rfl, rfl, KB, K0, K1, K2⟩
  have c0 := K0.cell 0; have c1 := K1.cell 0; have c2 := K2.cell 0
  simp at c0 c1 c2
  have hBB := hB.bel.trans KB
  simp [Leaves, settle, results, Tryd.results21, go_sem, h0, h1, h2, c0, c1, c2]
  exact ⟨_, [], _, _, ⟨rfl, rfl, rfl⟩, hT, World.ownsRow_nil _ _ _ _, hBB⟩
set_option maxHeartbeats 4000000 in
set_option maxRecDepth 100000 in
theorem pieces_any (s : List UInt8) (w : World) (hL : LexW w) :
    Calls Tryd.prog 21 #[.string ⟨s.toArray⟩] w fun e w' => ∃ v P n er, e = .returned (.tuple #[v, .int .i64 n, .int .i64 er]) ∧ Told s P n er ∧ w'.ownsRow w.heap.size 44 3 v P.length (pcCells P) ∧ Below w.heap.size w w' := by
  have hmf : ∀ (fn : Fn) (first cap : Array Value) (w : World), (Instr.makeFunc fn first cap).run Tryd.prog w = .ok (.func fn first cap) w := fun _ _ _ _ => rfl
  have hsz : (⟨s.toArray⟩ : ByteArray).size = s.length := mk_size s
  by_cases hlong : 65536 < s.length
  · have hl : (65536 : Int) < (s.length : Int) := by omega
    go_enter_defers Tryd.func21, Tryd.ntmps21
    go_wp2_with fail
    have c0 := ((Blk.new w 38 #[.slice none 0 0]).alloc (.cells #[.int .i64 0] 3)).alloc (.cells #[.int .i64 5] 27)
    have c1 := (Blk.new (w.alloc (.cells #[.slice none 0 0] 38)) 3 #[.int .i64 0]).alloc (.cells #[.int .i64 5] 27)
    have c2 := Blk.new ((w.alloc (.cells #[.slice none 0 0] 38)).alloc (.cells #[.int .i64 0] 3)) 27 #[.int .i64 5]
    simp only [World.size_alloc] at c1 c2
    have hB : Below w.heap.size w (((w.alloc (.cells #[.slice none 0 0] 38)).alloc (.cells #[.int .i64 0] 3)).alloc (.cells #[.int .i64 5] 27)) := (((Below.refl _ _).alloc (Nat.le_refl _) _).alloc (by simp) _).alloc (by simp; omega) _
    generalize (((w.alloc (.cells #[.slice none 0 0] 38)).alloc (.cells #[.int .i64 0] 3)).alloc (.cells #[.int .i64 5] 27)) = W at c0 c1 c2 hB ⊢
    have c0 := c0.cell 0; have c1 := c1.cell 0; have c2 := c2.cell 0
    simp at c0 c1 c2
    simp [bodyPostD, Leaves, results, Tryd.results21, go_sem, c0, c1, c2]
    exact ⟨_, [], _, _, ⟨rfl, rfl, rfl⟩, .inl ⟨hlong, rfl, rfl, rfl⟩, World.ownsRow_nil _ _ _ _, hB⟩
  · have hl : ¬ (65536 : Int) < (s.length : Int) := by omega
    have hl2 : s.length ≤ 65536 := by omega
    obtain ⟨i0, hi, hz0', hz1', hz2'⟩ := info_parts info_piece
    go_enter_defers Tryd.func21, Tryd.ntmps21
    have c0 := (((Blk.new w 38 #[.slice none 0 0]).alloc (.cells #[.int .i64 0] 3)).alloc (.cells #[.int .i64 0] 27)).alloc (.cells #[.string ⟨s.toArray⟩, .int .i64 0, .slice none 0 0] 72)
    have c1 := ((Blk.new (w.alloc (.cells #[.slice none 0 0] 38)) 3 #[.int .i64 0]).alloc (.cells #[.int .i64 0] 27)).alloc (.cells #[.string ⟨s.toArray⟩, .int .i64 0, .slice none 0 0] 72)
    have c2 := (Blk.new ((w.alloc (.cells #[.slice none 0 0] 38)).alloc (.cells #[.int .i64 0] 3)) 27 #[.int .i64 0]).alloc (.cells #[.string ⟨s.toArray⟩, .int .i64 0, .slice none 0 0] 72)
    have c3 := Blk.new (((w.alloc (.cells #[.slice none 0 0] 38)).alloc (.cells #[.int .i64 0] 3)).alloc (.cells #[.int .i64 0] 27)) 72 #[.string ⟨s.toArray⟩, .int .i64 0, .slice none 0 0]
    simp only [World.size_alloc] at c1 c2 c3
    have hB0 : Below w.heap.size w ((((w.alloc (.cells #[.slice none 0 0] 38)).alloc (.cells #[.int .i64 0] 3)).alloc (.cells #[.int .i64 0] 27)).alloc (.cells #[.string ⟨s.toArray⟩, .int .i64 0, .slice none 0 0] 72)) := ((((Below.refl _ _).alloc (Nat.le_refl _) _).alloc (by simp) _).alloc (by simp; omega) _).alloc (by simp; omega) _
    go_wp2_with fail
    generalize ((((w.alloc (.cells #[.slice none 0 0] 38)).alloc (.cells #[.int .i64 0] 3)).alloc (.cells #[.int .i64 0] 27)).alloc (.cells #[.string ⟨s.toArray⟩, .int .i64 0, .slice none 0 0] 72)) = W at c0 c1 c2 c3 hB0 ⊢
    have hBX : Boxes w W w.heap.size s 0 (.slice none 0 0) [] := ⟨hB0, c0, c1, c2, c3, World.ownsRow_nil _ _ _ _⟩
    have hst : Hid (Came s 0 []) := Came.start s
    clear c0 c1 c2 c3 hB0
    go_loopg [6, 7] s.length (fun g _ _ wr => ∃ (a : Nat) (o : Value) (P : List Pc), a + g = s.length ∧ P.length ≤ 4096 ∧ Boxes w wr w.heap.size s a o P ∧ Hid (Came s a P))
    case atStart => exact ⟨0, _, [], by omega, by simp, hBX, hst⟩
    case round =>
      obtain ⟨a, o, P, ha, hP, hBX, hrel⟩ := hrel
      obtain ⟨A0, cp, rfl⟩ := own_sliceL hBX.own
      have hLr := hide (hL.below (hBX.bel))
      have l3 := hBX.b3.lt
      have k0 := hBX.b3.cell 0; have k1 := hBX.b3.cell 1; have k2 := hBX.b3.cell 2
      have z1 := hBX.b3.frozen 1; have z2 := hBX.b3.frozen 2
      simp at k0 k1 k2
      cases gk with
      | zero =>
        have hae : a = s.length := by omega
        have hlt : decide ((a : Int) < (s.length : Int)) = false := by simp; omega
        have p0 := hBX.b0.cell 0; have p1 := hBX.b1.cell 0; have p2 := hBX.b2.cell 0
        have y0 := hBX.b0.frozen 0; have y1 := hBX.b1.frozen 0; have y2 := hBX.b2.frozen 0
        simp at p0 p1 p2
        have HB := hide hBX
        clear hBX
        go_wp2_with fail
        have K0 := ((HB.out.b0.set_ 0 (.slice A0 P.length cp)).far (p := ⟨w.heap.size + 1, 0, none⟩) (by simp) (.int .i64 (s.length : Int))).far (p := ⟨w.heap.size + 1 + 1, 0, none⟩) (by simp <;> omega) (.int .i64 0)
        have K1 := ((HB.out.b1.far (p := ⟨w.heap.size, 0, none⟩) (by simp) (.slice A0 P.length cp)).set_ 0 (.int .i64 (s.length : Int))).far (p := ⟨w.heap.size + 1 + 1, 0, none⟩) (by simp) (.int .i64 0)
        have K2 := ((HB.out.b2.far (p := ⟨w.heap.size, 0, none⟩) (by simp <;> omega) (.slice A0 P.length cp)).far (p := ⟨w.heap.size + 1, 0, none⟩) (by simp) (.int .i64 (s.length : Int))).set_ 0 (.int .i64 0)
        have KO := ownL_set (ownL_set (ownL_set HB.out.own (p := ⟨w.heap.size, 0, none⟩) (by simp) (.slice A0 P.length cp)) (p := ⟨w.heap.size + 1, 0, none⟩) (by simp) (.int .i64 (s.length : Int))) (p := ⟨w.heap.size + 1 + 1, 0, none⟩) (by simp <;> omega) (.int .i64 0)
        have KB := ((HB.out.bel.setCell (p := ⟨w.heap.size, 0, none⟩) (Nat.le_refl _) (.slice A0 P.length cp)).setCell (p := ⟨w.heap.size + 1, 0, none⟩) (by simp) (.int .i64 (s.length : Int))).setCell (p := ⟨w.heap.size + 1 + 1, 0, none⟩) (by simp <;> omega) (.int .i64 0)
        generalize (((wr.setCell ⟨w.heap.size, 0, none⟩ (.slice A0 P.length cp)).setCell ⟨w.heap.size + 1, 0, none⟩ (.int .i64 (s.length : Int))).setCell ⟨w.heap.size + 1 + 1, 0, none⟩ (.int .i64 0)) = W5 at K0 K1 K2 KO KB ⊢
        simp at K0 K1 K2
        refine leaves_cons (f := 45) (args := #[.pointer (some ⟨w.heap.size, 0, none⟩), .pointer (some ⟨w.heap.size + 1, 0, none⟩), .pointer (some ⟨w.heap.size + 1 + 1, 0, none⟩)]) (by simp) (by simp [go_sem]) ?_
        refine (pieces_idle _ _ _ _).mono ?_
        rintro e u' w6 ⟨rfl, rfl, hb6⟩
        have c0 := (K0.below hb6 K0.lt).cell 0; have c1 := (K1.below hb6 K1.lt).cell 0; have c2 := (K2.below hb6 K2.lt).cell 0
        simp at c0 c1 c2
        have KO6 := Joins.ownsRow_le (own_keepL KO hb6) (show w.heap.size ≤ w.heap.size + 4 by omega)
        have KB6 := KB.trans (hb6.mono KB.size)
        simp [Leaves, settle, results, Tryd.results21, go_sem, c0, c1, c2]
        exact ⟨_, P, _, _, ⟨rfl, rfl, rfl⟩, .inr (.inl ⟨hl2, hae ▸ hrel.out, rfl, rfl⟩), KO6, KB6⟩
      | succ g =>
        obtain ⟨c, hc⟩ : ∃ c, s[a]? = some c := ⟨_, List.getElem?_eq_getElem (show a < s.length by omega)⟩
        obtain ⟨hlz, hx⟩ := read_at hc
        have hlt : (a : Int) < (s.length : Int) := by omega
        have cB := hide (fun w => blank_any c w)
        have HB := hide hBX
        clear hBX
        rcases Bool.eq_false_or_eq_true (isBlank c) with gb | gb
        · have hnx := hide (hrel.out.blank hc gb)
          rw [gb] at cB
          clear hrel hc gb
          go_wp2_with (go_at_call 46; refine (cB.out _).mono ?_; rintro e w1 ⟨rfl, rfl⟩)
          have HB2 := HB.out.at_ (a + 1)
          go_roundg g
          case measure => omega
          case rel => exact ⟨a + 1, _, P, by omega, hP, by simpa using HB2, hnx⟩
        · rw [gb] at cB
          have cO := hide (one_any s P (w.heap.size + 1 + 1 + 1) (.int .i64 (a : Int)) (.slice A0 P.length cp) (w.heap.size + 4) a c wr HB.out.b3 HB.out.own (came_kinds hrel.out) (by omega) hLr.out hl2 hc)
          have hrg := fun k z => @oneR_range s P a c k z hc
          have hnx := fun k t => @Came.one s a P c k t hrel.out hc gb
          have hf33 := fun k z (h : oneR s P a c k z) (hz : z < 0) => (show Told s [] (a : Int) 33 from .inr (.inr ⟨hl2, rfl, a, c, P, k, z, hrel.out, hc, gb, h, rfl, .inl ⟨hz, rfl⟩⟩))
          have hf3 := fun k z (h : oneR s P a c k z) (hz : 0 ≤ z) (hp : 4096 ≤ P.length) => (show Told s [] (a : Int) 3 from .inr (.inr ⟨hl2, rfl, a, c, P, k, z, hrel.out, hc, gb, h, rfl, .inr ⟨hz, hp, rfl⟩⟩))
          have hrg := hide hrg; have hnx := hide hnx; have hf33 := hide hf33; have hf3 := hide hf3
          clear hrel hc gb
          go_wp2_with (go_at_call 46; refine (cB.out _).mono ?_; rintro e w1 ⟨rfl, rfl⟩)
          go_wp2_with fail
          refine (cO.out).mono ?_
          rintro e w2 ⟨k, z, rfl, hkz, hb2⟩
          have HB2 := HB.out.on hb2
          have HB2 := hide HB2
          have k0 := HB2.out.b3.cell 0; have k1 := HB2.out.b3.cell 1; have k2 := HB2.out.b3.cell 2
          simp at k0 k1 k2
          have l32 := HB2.out.b3.lt
          by_cases hz0 : z < 0
          · have hzf : decide (0 ≤ z) = false := by simp; omega
            have hft := hf33.out k z hkz hz0
            clear hnx hf3 hf33 hrg cO cB
            go_wp2_with (go_at_call 48; refine (lexNeed_no _ _ _).mono ?_; rintro e wn ⟨rfl, rfl⟩)
            exact lex_fault s w w2 a _ P 33 _ HB2.out hft rfl rfl rfl
          · obtain ⟨t, rfl⟩ : ∃ t : Nat, z = (t : Int) := ⟨z.toNat, by omega⟩
            have hzt : decide (0 ≤ (t : Int)) = true := by simp
            have hr2 := hrg.out k (t : Int) hkz
            have hta : a < t ∧ t ≤ s.length := by omega
            by_cases hp : P.length < 4096
            · have hpt : decide ((P.length : Int) < 4096) = true := by simp; omega
              have hnx2 := hide (hnx.out k t hkz hp)
              have hXe : (⟨s.toArray⟩ : ByteArray).extract a t = ⟨((s.take t).drop a).toArray⟩ := by
                apply ByteArray.ext
                apply Array.toList_inj.1
                rw [← Lib.toList_data, Lib.extract_toList, List.drop_take]
              clear hnx hf3 hf33 hrg cO cB
              go_wp2_with (go_at_call 48; refine (lexNeed_yes _ _ _).mono ?_; rintro e wn ⟨rfl, rfl⟩)
              go_quiet (first | (go_at_call 48; exact Calls.quiet_of ((lexNeed_yes (a : Int) 3 _).mono fun e w' h => ⟨h.1, 0, h.2.symm⟩)))
              have HB3 := HB2.out.on (below_drewN (Below.refl w2.heap.size w2) nq)
              generalize w2.drewN nq = w3 at HB3 ⊢
              have k0 := HB3.b3.cell 0; have k1 := HB3.b3.cell 1; have k2 := HB3.b3.cell 2
              have z2 := HB3.b3.frozen 2
              have l33 := HB3.b3.lt
              simp at k0 k1 k2
              have hat1 : (a : Int) ≤ (t : Int) := by omega
              have hat2 : (t : Int) ≤ (s.length : Int) := by omega
              obtain ⟨X, hX⟩ : ∃ X, (⟨s.toArray⟩ : ByteArray).extract a t = X := ⟨_, rfl⟩
              have HX := hide (hXe.symm.trans hX)
              have hown3 := HB3.own
              have HBH := hide HB3
              have hne3 : some (w.heap.size + 1 + 1 + 1) ≠ (Value.slice A0 P.length cp).ownBlock := fun e => by have := (hown3.lt _ e.symm).1; omega
              clear hXe HB3 HB2 HB hz0 hr2 hzt hkz
              go_wp2_with fail
              refine wp_never ?_
              go_region_law (first
                | (refine step_append_lies _ rfl (.tmp 67) (.tmp 81) 38 rfl (w.heap.size + 4) 44 i0 (.agg #[.int .i64 0, .string ⟨#[]⟩, .int .i64 0]) 3 32 Tryd.underlying38 hi hz0' hz1' hz2' rfl (by decide) (.slice A0 P.length cp) P.length _ (by simp [Act.eval, Act.put]) (hown3.alloc _) ⟨w3.heap.size, 0, none⟩ 1 1 [.int .i64 k, .string X, .int .i64 (a : Int)] (by simp [Act.eval, Act.put]) rfl (by intro t u ht; match t, ht with | 0, ht => (simp at ht; subst ht; simp [Addr.add]) | 1, ht => (simp at ht; subst ht; simp [Addr.add]) | 2, ht => (simp at ht; subst ht; simp [Addr.add])) (by intro u hu; simp at hu; rcases hu with rfl | rfl | rfl <;> rfl) (by omega) (by unfold maxLen; omega) (by omega) (by simp; omega) _ rfl ?_; intro g4 cp4 w4 hown4 hgrow4 hat4 hlt4; have hb3 : Blk w4 (w.heap.size + 1 + 1 + 1) 72 #[.string ⟨s.toArray⟩, .int .i64 (a : Int), .slice A0 P.length cp] := (by first | exact (HBH.out.b3.alloc _).grown hgrow4 hne3 | exact (HBH.out.b3.alloc _).drew.grown hgrow4 hne3 | exact (HBH.out.b3.drew.alloc _).grown hgrow4 hne3); have q2 := hb3.cell 2; have zq2 := hb3.frozen 2; have l4 := hb3.lt; simp at q2))
              all_goals
                rw [HX.out.symm] at hown4
                have HB5 : Boxes w (w4.setCell ⟨w.heap.size + 1 + 1 + 1, 2, none⟩ (.slice (some ⟨g4, 0, none⟩) (P.length + 1) cp4)) w.heap.size s a (.slice (some ⟨g4, 0, none⟩) (P.length + 1) cp4) (P ++ [⟨k, (s.take t).drop a, a⟩]) := by
                  first
                    | exact (HBH.out.on ((Below.refl _ _).alloc (Nat.le_refl _) _)).put hgrow4 hown4
                    | exact (HBH.out.on (((Below.refl _ _).alloc (Nat.le_refl _) _).drew)).put hgrow4 hown4
                    | exact (HBH.out.on (((Below.refl _ _).drew).alloc (Nat.le_refl _) _)).put hgrow4 hown4
                have HB6 := HB5.at_ t
                have l5 := HB5.b3.lt
                have k5 := HB5.b3.cell 1
                have z5 := HB5.b3.frozen 1
                simp at k5
                clear hb3 q2 zq2 hown4 hgrow4 hat4 hlt4 l4 hown3
                have HB5 := hide HB5
                generalize w4.setCell ⟨w.heap.size + 1 + 1 + 1, 2, none⟩ (.slice (some ⟨g4, 0, none⟩) (P.length + 1) cp4) = w5 at HB5 HB6 l5 k5 z5 ⊢
                go_wp2_with fail
                go_roundg (s.length - t)
                case measure => omega
                case rel => exact ⟨t, _, _, by omega, by simp; omega, HB6, hnx2⟩
            · have hpf : decide ((P.length : Int) < 4096) = false := by simp; omega
              have hft := hf3.out k (t : Int) hkz (by omega) (by omega)
              clear hnx hf3 hf33 hrg cO cB
              go_wp2_with (go_at_call 48; refine (lexNeed_yes _ _ _).mono ?_; rintro e wn ⟨rfl, rfl⟩)
              have lim : (a : Int) ≤ (s.length : Int) := by omega
              have hBW : Below w2.heap.size w2 w2 := Below.refl _ _
              refine wp_region_tail_below (W := w2) 10 (by kernel_rfl) (by kernel_rfl) hBW ?_
              simp only [List.take, List.drop]
              repeat (first
                | go_big_quiet_skip
                | (apply wpQuiet_one (by rfl)
                   · intro w' hw'
                     have hc := (bcell hw').1
                     go_simp
                     first
                       | done
                       | rfl
                   · go_simp
                     rfl))
              refine wpQuiet_nil ?_
              intro w5 hw5
              have HB5 := HB2.out.on hw5
              clear k0 k1 k2
              go_wp2_with (go_at_call 48; refine (lexNeed_no _ _ _).mono ?_; rintro e wn ⟨rfl, rfl⟩)
              exact lex_fault s w w5 a _ P 3 _ HB5 hft rfl rfl rfl
end Go.Proofs.YtdnmgpidfjkiaaaDoor
