/-
  The law's Of: an environment in memory of its own.
-/
import Derived.Test.YtdnmgpidfjkiaaaVEnv
import Derived.Test.YtdnmgpidfjkiaaaQHead
import Derived.Deep.RegionWith
import Derived.Deep.Cut
import Derived.Deep.CutRange
namespace Go.Proofs.Ytdnmgpidfjkiaaa
open Go.RowKit
set_option linter.unusedVariables false
set_option linter.unusedSimpArgs false

theorem freshV_ok (N : Nat) : ∀ (w w' : World) (b : Nat), Below w.heap.size w w' → b < w.heap.size → freshB N w b → freshB N w' b := fun _ _ b hb h ⟨h1, cs, t, h2⟩ => ⟨h1, cs, t, (hb.block b h).trans h2⟩
theorem IsV.stepV {U : World → Nat → Prop} (hU : ∀ w w' b, Below w.heap.size w w' → b < w.heap.size → U w b → U w' b) {w w' : World} {n : Nat} {v : Value} {d : VT n} (h : IsV U w n v d) (hb : Below w.heap.size w w') : IsV U w' n v d := IsV.on (Stays.of_below hb fun b h1 => hU _ _ b hb h1) n _ _ h
structure Env0 (w : World) (P : Nat) : Prop where
  c0 : w.cell? ⟨P, 0, none⟩ = some (.int .i64 0)
  c1 : w.cell? ⟨P, 1, none⟩ = some (.int .i64 0)
  c2 : w.cell? ⟨P, 2, none⟩ = some (.string ⟨#[]⟩)
  c3 : w.cell? ⟨P, 3, none⟩ = some (.slice none 0 0)
  c4 : w.cell? ⟨P, 4, none⟩ = some (.slice none 0 0)
  c5 : w.cell? ⟨P, 5, none⟩ = some (.int .i64 0)
  c6 : w.cell? ⟨P, 6, none⟩ = some (.int .i64 0)
  c7 : w.cell? ⟨P, 7, none⟩ = some (.string ⟨#[]⟩)
  c8 : w.cell? ⟨P, 8, none⟩ = some (.slice none 0 0)
  c9 : w.cell? ⟨P, 9, none⟩ = some (.slice none 0 0)
  c10 : w.cell? ⟨P, 10, none⟩ = some (.slice none 0 0)
  z0 : w.frozen? ⟨P, 0, none⟩ = false
  z1 : w.frozen? ⟨P, 1, none⟩ = false
  z2 : w.frozen? ⟨P, 2, none⟩ = false
  z3 : w.frozen? ⟨P, 3, none⟩ = false
  z4 : w.frozen? ⟨P, 4, none⟩ = false
  z5 : w.frozen? ⟨P, 5, none⟩ = false
  z6 : w.frozen? ⟨P, 6, none⟩ = false
  z7 : w.frozen? ⟨P, 7, none⟩ = false
  z8 : w.frozen? ⟨P, 8, none⟩ = false
  z9 : w.frozen? ⟨P, 9, none⟩ = false
  z10 : w.frozen? ⟨P, 10, none⟩ = false
theorem Blk.env0 {w : World} {P : Nat} {t : TypeId} (h : Blk w P t zeroEnv) : Env0 w P :=
  ⟨(h.cell 0).trans rfl, (h.cell 1).trans rfl, (h.cell 2).trans rfl, (h.cell 3).trans rfl, (h.cell 4).trans rfl, (h.cell 5).trans rfl, (h.cell 6).trans rfl, (h.cell 7).trans rfl, (h.cell 8).trans rfl, (h.cell 9).trans rfl, (h.cell 10).trans rfl, h.frozen 0, h.frozen 1, h.frozen 2, h.frozen 3, h.frozen 4, h.frozen 5, h.frozen 6, h.frozen 7, h.frozen 8, h.frozen 9, h.frozen 10⟩
/-- But for block P all is kept. -/
structure Keeps (P : Nat) (w1 wf : World) : Prop where
  size : w1.heap.size ≤ wf.heap.size
  block : ∀ b, b < w1.heap.size → b ≠ P → wf.heap[b]? = w1.heap[b]?
theorem Keeps.refl (P : Nat) (w : World) : Keeps P w w := ⟨Nat.le_refl _, fun _ _ _ => rfl⟩
theorem Keeps.alloc {P : Nat} {a w : World} (h : Keeps P a w) (o : Obj) : Keeps P a (w.alloc o) :=
  ⟨by have := h.size; simp; omega, fun b h1 h2 => (((Below.refl w.heap.size w).alloc (Nat.le_refl _) o).block b (Nat.lt_of_lt_of_le h1 h.size)).trans (h.block b h1 h2)⟩
theorem Keeps.then_ {P : Nat} {a w w' : World} (h : Keeps P a w) (k : Below w.heap.size w w') : Keeps P a w' :=
  ⟨Nat.le_trans h.size k.size, fun b h1 h2 => (k.block b (Nat.lt_of_lt_of_le h1 h.size)).trans (h.block b h1 h2)⟩
theorem Keeps.set11 {P : Nat} {a w : World} (h : Keeps P a w) (v0 v1 v2 v3 v4 v5 v6 v7 v8 v9 v10 : Value) : Keeps P a (set11 w P v0 v1 v2 v3 v4 v5 v6 v7 v8 v9 v10) :=
  ⟨by rw [set11_size]; exact h.size, fun b h1 h2 => (set11_heap w P v0 v1 v2 v3 v4 v5 v6 v7 v8 v9 v10 b h2).trans (h.block b h1 h2)⟩
/-- A value made on the way to a world. -/
theorem made_there {w1 wf : World} {n M N P base : Nat} {v : Value} {d : VT n} (h : IsV (freshB M) w1 n v d) (hk : Keeps P w1 wf) (hN : N ≤ M) (hP : P < M ∨ w1.heap.size ≤ P) (hbase : wf.heap.size ≤ base) : IsV (betweenB N base P) wf n v d := by
  refine IsV.on (U := freshB M) ⟨hk.size, ?_⟩ n _ _ h
  rintro b hb1 ⟨q1, cs, t, q2⟩
  have := hk.size
  have e := hk.block b hb1 (by omega)
  exact ⟨e, ⟨by omega, cs, t, e.trans q2⟩, by omega, by omega⟩
theorem of_start {w W wx wR wD : World} {m P MR MD : Nat} {bx : Array Value} {r d : VF} {root dot : VT m} (hBW : Below w.heap.size w W) (hMW : w.heap.size + 2 ≤ W.heap.size) (K1 : Blk W w.heap.size 28 bx) (K2 : Blk W (w.heap.size + 1) 32 zeroEnv)
    (hB : Below W.heap.size W wx) (hR : IsV (freshB MR) wR m r.val root) (hD : IsV (freshB MD) wD m d.val dot) (kR : Keeps P wR wx) (kD : Keeps P wD wx) (b3 : Blk wx P 32 (envV r d none 0 0))
    (hMR : W.heap.size ≤ MR) (hMD : W.heap.size ≤ MD) (hP : W.heap.size ≤ P) (hPR : P < MR ∨ wR.heap.size ≤ P) (hPD : P < MD ∨ wD.heap.size ≤ P) :
    OfI w wx m P wx.heap.size bx r d root dot none 0 [] [] :=
  ⟨hBW.trans (hB.mono hBW.size), by omega, b3.lt, Nat.le_refl _, K1.below hB K1.lt, K2.below hB K2.lt, b3, made_there hR kR (by omega) hPR (Nat.le_refl _), made_there hD kD (by omega) hPD (Nat.le_refl _), RowN.nil _ _ _⟩
set_option maxHeartbeats 20000000 in
set_option maxRecDepth 100000 in
theorem of_any (m : Nat) (U : World → Nat → Prop) (hU : ∀ w w' b, Below w.heap.size w w' → b < w.heap.size → U w b → U w' b) (r d : VF) (root dot : VT m) (vars : List (List UInt8 × VT m)) (a : Option Addr) (c : Nat) (w : World) (h : IsE U w m r d a root dot vars) (hs : SmallE m root dot vars) :
    Calls Try.prog 7 #[.agg (envV r d a vars.length c)] w fun e w' => ∃ (r' d' : VF) (a' : Option Addr) (c' : Nat), e = .returned (.agg (envV r' d' a' vars.length c')) ∧ IsE (freshB w.heap.size) w' m r' d' a' root dot vars ∧ Below w.heap.size w w' := by
  obtain ⟨kr, ir, sr, ar, nr, cr, br, mr, er⟩ := r
  obtain ⟨kd, id, sd, ad, nd, cd, bd, md, ed⟩ := d
  obtain ⟨j0, hj, hv0, hv1, hv2⟩ := info_parts info_named
  obtain ⟨W, hW⟩ : ∃ W, (w.alloc (.cells (envV ⟨kr, ir, sr, ar, nr, cr, br, mr, er⟩ ⟨kd, id, sd, ad, nd, cd, bd, md, ed⟩ a vars.length c) 28)).alloc (.cells zeroEnv 32) = W := ⟨_, rfl⟩
  have hBW : Below w.heap.size w W := by rw [← hW]; exact ((Below.refl _ _).alloc (Nat.le_refl _) _).alloc (by simp) _
  have K1 : Blk W w.heap.size 28 (envV ⟨kr, ir, sr, ar, nr, cr, br, mr, er⟩ ⟨kd, id, sd, ad, nd, cd, bd, md, ed⟩ a vars.length c) := by
    rw [← hW]; exact (Blk.new w _ _).alloc _
  have K2 : Blk W (w.heap.size + 1) 32 zeroEnv := by
    rw [← hW]
    have := Blk.new (w.alloc (.cells (envV ⟨kr, ir, sr, ar, nr, cr, br, mr, er⟩ ⟨kd, id, sd, ad, nd, cd, bd, md, ed⟩ a vars.length c) 28)) 32 zeroEnv
    simpa using this
  have hE := h.on (Stays.of_below hBW fun b h1 => hU _ _ b hBW h1)
  have cR := hide (fun W' (hb : Below W.heap.size W W') => own_any m U hU _ root W' (hE.root.stepV hU hb) hs.root)
  have cD := hide (fun W' (hb : Below W.heap.size W W') => own_any m U hU _ dot W' (hE.dot.stepV hU hb) hs.dot)
  have hlen := hs.len
  have HEach := hide hs.each
  have HE := hide h
  have HW := hide hW
  have HK := hide (And.intro K1 (And.intro K2 hBW))
  have l2 := K2.lt
  clear h hs hE K1 K2 hBW hW
  go_enter Try.func7, Try.ntmps7
  go_wp2_with fail
  rw [HW.out]
  have p0 := HK.out.1.cell 0; have p1 := HK.out.1.cell 1; have p2 := HK.out.1.cell 2; have p3 := HK.out.1.cell 3; have p4 := HK.out.1.cell 4
  have p5 := HK.out.1.cell 5; have p6 := HK.out.1.cell 6; have p7 := HK.out.1.cell 7; have p8 := HK.out.1.cell 8; have p9 := HK.out.1.cell 9
  simp at p0 p1 p2 p3 p4 p5 p6 p7 p8 p9
  have l1 := HK.out.1.lt
  have hM0 : w.heap.size + 2 ≤ W.heap.size := l2
  have hS : ∀ w', Below W.heap.size W w' → (w'.cell? ⟨w.heap.size, 0, none⟩ = some (.int .i64 kr) ∧ w'.cell? ⟨w.heap.size, 1, none⟩ = some (.int .i64 ir) ∧ w'.cell? ⟨w.heap.size, 2, none⟩ = some (.string sr) ∧ w'.cell? ⟨w.heap.size, 3, none⟩ = some (.slice ar nr cr) ∧ w'.cell? ⟨w.heap.size, 4, none⟩ = some (.slice br mr er) ∧ w'.cell? ⟨w.heap.size, 5, none⟩ = some (.int .i64 kd) ∧ w'.cell? ⟨w.heap.size, 6, none⟩ = some (.int .i64 id) ∧ w'.cell? ⟨w.heap.size, 7, none⟩ = some (.string sd) ∧ w'.cell? ⟨w.heap.size, 8, none⟩ = some (.slice ad nd cd) ∧ w'.cell? ⟨w.heap.size, 9, none⟩ = some (.slice bd md ed) ∧ Below W.heap.size W w') := fun w' hb =>
    ⟨(hb.cell (p := ⟨w.heap.size, 0, none⟩) l1).trans p0, (hb.cell (p := ⟨w.heap.size, 1, none⟩) l1).trans p1, (hb.cell (p := ⟨w.heap.size, 2, none⟩) l1).trans p2, (hb.cell (p := ⟨w.heap.size, 3, none⟩) l1).trans p3, (hb.cell (p := ⟨w.heap.size, 4, none⟩) l1).trans p4, (hb.cell (p := ⟨w.heap.size, 5, none⟩) l1).trans p5, (hb.cell (p := ⟨w.heap.size, 6, none⟩) l1).trans p6, (hb.cell (p := ⟨w.heap.size, 7, none⟩) l1).trans p7, (hb.cell (p := ⟨w.heap.size, 8, none⟩) l1).trans p8, (hb.cell (p := ⟨w.heap.size, 9, none⟩) l1).trans p9, hb⟩
  have HS := hide hS
  clear hS
  go_upto_region 1 with fail
  go_cut [3] from 5 to 11 (fun s3 wx => ∃ (P : Nat) (r' d' : VF), s3 = .pointer (some ⟨P, 0, none⟩) ∧ Hid (OfI w wx m P wx.heap.size (envV ⟨kr, ir, sr, ar, nr, cr, br, mr, er⟩ ⟨kd, id, sd, ad, nd, cd, bd, md, ed⟩ a vars.length c) r' d' root dot none 0 [] []))
  case first =>
    go_region_with (first
      | (go_at_call_of 13 (Value.string sr); first
          | (with_reducible refine (cR.out _ hBD).mono ?_; rintro e wR ⟨vR, rfl, hR, hbR⟩; have KP := hide (KP.out.below hbR KP.out.lt); have hBR := below_step hBD hbR; have hDR := hide hbR; have lR := Nat.lt_of_lt_of_le l1 hBR.size; obtain ⟨q0, q1, q2, q3, q4, q5, q6, q7, q8, q9, _⟩ := HS.out _ hBR; obtain ⟨eR, rfl⟩ := hR.shape; have lPR := KP.out.lt; obtain ⟨kc0, kc1, kc2, kc3, kc4, kc5, kc6, kc7, kc8, kc9, kc10, kz0, kz1, kz2, kz3, kz4, kz5, kz6, kz7, kz8, kz9, kz10⟩ := KP.out.env0)
          | (with_reducible refine (cR.out _ hBD).mono ?_; rintro e wR ⟨vR, rfl, hR, hbR⟩; have hBR := below_step hBD hbR; have hDR := hide hbR; have lR := Nat.lt_of_lt_of_le l1 hBR.size; obtain ⟨q0, q1, q2, q3, q4, q5, q6, q7, q8, q9, _⟩ := HS.out _ hBR; obtain ⟨eR, rfl⟩ := hR.shape)
          | (with_reducible refine (cR.out _ (hBD.alloc hBD.size _)).mono ?_; rintro e wR ⟨vR, rfl, hR, hbR⟩; have hBR := below_step (hBD.alloc hBD.size _) hbR; have hDR := hide (below_step ((Below.refl wD.heap.size wD).alloc (Nat.le_refl _) _) hbR); have KP := hide ((Blk.new wD 32 zeroEnv).below hbR (by simp)); have lR := Nat.lt_of_lt_of_le l1 hBR.size; obtain ⟨q0, q1, q2, q3, q4, q5, q6, q7, q8, q9, _⟩ := HS.out _ hBR; obtain ⟨eR, rfl⟩ := hR.shape; have lPR := KP.out.lt; obtain ⟨kc0, kc1, kc2, kc3, kc4, kc5, kc6, kc7, kc8, kc9, kc10, kz0, kz1, kz2, kz3, kz4, kz5, kz6, kz7, kz8, kz9, kz10⟩ := KP.out.env0)
          | (with_reducible refine (cR.out _ (((Below.refl W.heap.size W).alloc (Nat.le_refl _) _).drew)).mono ?_; rintro e wR ⟨vR, rfl, hR, hbR⟩; have hBR := below_step (((Below.refl W.heap.size W).alloc (Nat.le_refl _) _).drew) hbR; have KP := hide (show Blk wR W.heap.size 32 zeroEnv from (Blk.new W 32 zeroEnv).drew.below hbR (by simp)); have lR := Nat.lt_of_lt_of_le l1 hBR.size; obtain ⟨q0, q1, q2, q3, q4, q5, q6, q7, q8, q9, _⟩ := HS.out _ hBR; obtain ⟨eR, rfl⟩ := hR.shape; have lPR := KP.out.lt; obtain ⟨kc0, kc1, kc2, kc3, kc4, kc5, kc6, kc7, kc8, kc9, kc10, kz0, kz1, kz2, kz3, kz4, kz5, kz6, kz7, kz8, kz9, kz10⟩ := KP.out.env0)
          | (with_reducible refine (cR.out _ (Below.refl W.heap.size W).drew).mono ?_; rintro e wR ⟨vR, rfl, hR, hbR⟩; have hBR := below_step (Below.refl W.heap.size W).drew hbR; have lR := Nat.lt_of_lt_of_le l1 hBR.size; obtain ⟨q0, q1, q2, q3, q4, q5, q6, q7, q8, q9, _⟩ := HS.out _ hBR; obtain ⟨eR, rfl⟩ := hR.shape))
      | (go_at_call_of 13 (Value.string sd); first
          | (with_reducible refine (cD.out _ hBR).mono ?_; rintro e wD ⟨vD, rfl, hD, hbD⟩; have KP := hide (KP.out.below hbD KP.out.lt); have hBD := below_step hBR hbD; have hRD := hide hbD; have lD := Nat.lt_of_lt_of_le l1 hBD.size; obtain ⟨q0, q1, q2, q3, q4, q5, q6, q7, q8, q9, _⟩ := HS.out _ hBD; obtain ⟨eD, rfl⟩ := hD.shape; have lPD := KP.out.lt; obtain ⟨kc0, kc1, kc2, kc3, kc4, kc5, kc6, kc7, kc8, kc9, kc10, kz0, kz1, kz2, kz3, kz4, kz5, kz6, kz7, kz8, kz9, kz10⟩ := KP.out.env0)
          | (with_reducible refine (cD.out _ hBR).mono ?_; rintro e wD ⟨vD, rfl, hD, hbD⟩; have hBD := below_step hBR hbD; have hRD := hide hbD; have lD := Nat.lt_of_lt_of_le l1 hBD.size; obtain ⟨q0, q1, q2, q3, q4, q5, q6, q7, q8, q9, _⟩ := HS.out _ hBD; obtain ⟨eD, rfl⟩ := hD.shape)
          | (with_reducible refine (cD.out _ (hBR.alloc hBR.size _)).mono ?_; rintro e wD ⟨vD, rfl, hD, hbD⟩; have hBD := below_step (hBR.alloc hBR.size _) hbD; have hRD := hide (below_step ((Below.refl wR.heap.size wR).alloc (Nat.le_refl _) _) hbD); have KP := hide ((Blk.new wR 32 zeroEnv).below hbD (by simp)); have lD := Nat.lt_of_lt_of_le l1 hBD.size; obtain ⟨q0, q1, q2, q3, q4, q5, q6, q7, q8, q9, _⟩ := HS.out _ hBD; obtain ⟨eD, rfl⟩ := hD.shape; have lPD := KP.out.lt; obtain ⟨kc0, kc1, kc2, kc3, kc4, kc5, kc6, kc7, kc8, kc9, kc10, kz0, kz1, kz2, kz3, kz4, kz5, kz6, kz7, kz8, kz9, kz10⟩ := KP.out.env0)
          | (with_reducible refine (cD.out _ (((Below.refl W.heap.size W).alloc (Nat.le_refl _) _).drew)).mono ?_; rintro e wD ⟨vD, rfl, hD, hbD⟩; have hBD := below_step (((Below.refl W.heap.size W).alloc (Nat.le_refl _) _).drew) hbD; have KP := hide (show Blk wD W.heap.size 32 zeroEnv from (Blk.new W 32 zeroEnv).drew.below hbD (by simp)); have lD := Nat.lt_of_lt_of_le l1 hBD.size; obtain ⟨q0, q1, q2, q3, q4, q5, q6, q7, q8, q9, _⟩ := HS.out _ hBD; obtain ⟨eD, rfl⟩ := hD.shape; have lPD := KP.out.lt; obtain ⟨kc0, kc1, kc2, kc3, kc4, kc5, kc6, kc7, kc8, kc9, kc10, kz0, kz1, kz2, kz3, kz4, kz5, kz6, kz7, kz8, kz9, kz10⟩ := KP.out.env0)
          | (with_reducible refine (cD.out _ (Below.refl W.heap.size W).drew).mono ?_; rintro e wD ⟨vD, rfl, hD, hbD⟩; have hBD := below_step (Below.refl W.heap.size W).drew hbD; have lD := Nat.lt_of_lt_of_le l1 hBD.size; obtain ⟨q0, q1, q2, q3, q4, q5, q6, q7, q8, q9, _⟩ := HS.out _ hBD; obtain ⟨eD, rfl⟩ := hD.shape)))
    all_goals
      have hzR := hBR.size; have hzD := hBD.size
      go_wp2_with fail
      go_meet
      case rel =>
        first
          | (have hzz := hRD.out.size
             first
               | (with_reducible refine ⟨_, _, _, rfl, hide (of_start HK.out.2.2 hM0 HK.out.1 HK.out.2.1 (hBD.alloc hBD.size _) hR hD (((Keeps.refl _ _).then_ hRD.out).alloc _) ((Keeps.refl _ _).alloc _) (Blk.new _ _ _) ?_ ?_ ?_ ?_ ?_)⟩)
               | (with_reducible refine ⟨_, _, _, rfl, hide (of_start HK.out.2.2 hM0 HK.out.1 HK.out.2.1 (set11_below hBD ?_ _ _ _ _ _ _ _ _ _ _ _) hR hD (((Keeps.refl _ _).then_ hRD.out).set11 _ _ _ _ _ _ _ _ _ _ _) ((Keeps.refl _ _).set11 _ _ _ _ _ _ _ _ _ _ _) (set11_blk KP.out _ _ _ _ _ _ _ _ _ _ _) ?_ ?_ ?_ ?_ ?_)⟩))
          | (have hzz := hDR.out.size
             first
               | (with_reducible refine ⟨_, _, _, rfl, hide (of_start HK.out.2.2 hM0 HK.out.1 HK.out.2.1 (hBR.alloc hBR.size _) hR hD ((Keeps.refl _ _).alloc _) (((Keeps.refl _ _).then_ hDR.out).alloc _) (Blk.new _ _ _) ?_ ?_ ?_ ?_ ?_)⟩)
               | (with_reducible refine ⟨_, _, _, rfl, hide (of_start HK.out.2.2 hM0 HK.out.1 HK.out.2.1 (set11_below hBR ?_ _ _ _ _ _ _ _ _ _ _ _) hR hD ((Keeps.refl _ _).set11 _ _ _ _ _ _ _ _ _ _ _) (((Keeps.refl _ _).then_ hDR.out).set11 _ _ _ _ _ _ _ _ _ _ _) (set11_blk KP.out _ _ _ _ _ _ _ _ _ _ _) ?_ ?_ ?_ ?_ ?_)⟩))
        all_goals first | omega | (simp; done) | (simp; omega) | (left; simp; done) | (right; simp; done) | (left; simp; omega) | (right; simp; omega) | (left; omega) | (right; omega)
  case rest =>
    obtain ⟨P, r2, d2, rfl, hI⟩ := hcut
    obtain ⟨kx, ix, sx, ax, nx, cx, bx, mx, ex⟩ := r2
    obtain ⟨ky, iy, sy, ay, ny, cy, b_y, my, ey⟩ := d2
    clear cR cD p0 p1 p2 p3 p4 p5 p6 p7 p8 p9 HS HK HW
    go_wp2_with fail
    go_loopw [4] (fun iv wr => ∃ (j : Nat) (A0 : Option Addr) (cp : Nat) (es : List NF) (xs : List (List UInt8 × VT m)), iv = .int .i64 (j : Int) ∧ j ≤ vars.length ∧ xs.length = j ∧ Hid (xs = vars.take j) ∧ Hid (OfI w wr m P wc.heap.size (envV ⟨kr, ir, sr, ar, nr, cr, br, mr, er⟩ ⟨kd, id, sd, ad, nd, cd, bd, md, ed⟩ a vars.length c) ⟨kx, ix, sx, ax, nx, cx, bx, mx, ex⟩ ⟨ky, iy, sy, ay, ny, cy, b_y, my, ey⟩ root dot A0 cp es xs)) (fun iv _ => vars.length - (intOf iv).toNat)
    case atStart => exact ⟨0, _, _, [], [], rfl, Nat.zero_le _, rfl, rfl, hI⟩
    case round =>
      clear hI
      obtain ⟨j, A0, cp, es, xs, rfl, hjl, hxl, hxs, hI⟩ := hrel
      have bel := hI.out.bel
      have p10 := hI.out.b1.cell 10
      have q10 := hI.out.b3.cell 10
      have zq10 := hI.out.b3.frozen 10
      simp at p10 q10
      rw [hxl] at q10
      have zn := hI.out.b3.lt
      have l1r := hI.out.b1.lt
      have hbz := hI.out.bz; have hpb := hI.out.pb; have hpp := hI.out.p
      by_cases hlt : j < vars.length
      · obtain ⟨y, hy⟩ : ∃ y, vars[j]? = some y := ⟨_, List.getElem?_eq_getElem hlt⟩
        have hstay : Stays U U w wr := Stays.of_below bel fun b h => hU _ _ b bel h
        obtain ⟨g, o, ⟨nm, k2, i2, s2, a1, n1, d1, a2, n2, d2⟩, rfl, hg, _, f00, ⟨f0, f1, f2, f3, f4⟩, hN⟩ := (HE.out.vars.on hstay) j y hy
        simp only at f00 f0 f1 f2 f3 f4
        have e1 : wr.cell? ⟨g, o + j * 6 + 1 + 1, none⟩ = some (.int .i64 i2) := f1
        have e2 : wr.cell? ⟨g, o + j * 6 + 1 + 2, none⟩ = some (.string s2) := f2
        have e3 : wr.cell? ⟨g, o + j * 6 + 1 + 3, none⟩ = some (.slice a1 n1 d1) := f3
        have e4 : wr.cell? ⟨g, o + j * 6 + 1 + 4, none⟩ = some (.slice a2 n2 d2) := f4
        have hNm := hide hN.1
        have hNv := hN.2
        have cO := hide (fun W' (h : Below wr.heap.size wr W') => own_any m U hU _ y.2 W' (hNv.stepV hU h) (HEach.out y (List.mem_of_getElem? hy)))
        have hji : (j : Int) < (vars.length : Int) := by omega
        have hel : es.length = j := by rw [hI.out.row.len, hxl]
        have hown := hI.out.row.own
        rw [hel, hxl] at hown
        have hnx := hide (show xs ++ [y] = vars.take (j + 1) by rw [hxs.out, List.take_add_one, hy]; rfl)
        have hne : some P ≠ (Value.slice A0 j cp).ownBlock := fun e => by have := (hown.lt _ e.symm).1; omega
        have hI3 := hide hI.out.b3
        have cells5 : ∀ W', Below wr.heap.size wr W' → (W'.cell? ⟨g, o + j * 6, none⟩ = some (.string nm) ∧ W'.cell? ⟨P, 10, none⟩ = some (.slice A0 j cp) ∧ W'.cell? ⟨w.heap.size, 10, none⟩ = some (.slice (some ⟨g, o, none⟩) vars.length c) ∧ W'.frozen? ⟨P, 10, none⟩ = false ∧ P < W'.heap.size ∧ g < W'.heap.size ∧ w.heap.size < W'.heap.size) := fun W' hb =>
          ⟨(hb.cell (p := ⟨g, o + j * 6, none⟩) hg).trans f00, (hb.cell (p := ⟨P, 10, none⟩) zn).trans q10, (hb.cell (p := ⟨w.heap.size, 10, none⟩) l1r).trans p10, (hb.frozen (p := ⟨P, 10, none⟩) zn).trans zq10, Nat.lt_of_lt_of_le zn hb.size, Nat.lt_of_lt_of_le hg hb.size, Nat.lt_of_lt_of_le l1r hb.size⟩
        have C5 := hide cells5
        obtain ⟨g', o', _, hg', hgw, _⟩ := HE.out.vars j y hy
        injection hg' with hg'
        injection hg' with hg1 hg2
        subst hg1; subst hg2
        have K5 : ∀ w' : World, Below wr.heap.size wr w' → (w'.cell? ⟨g, o + j * 6, none⟩ = some (.string nm) ∧ w'.cell? ⟨g, o + j * 6 + 1, none⟩ = some (.int .i64 k2) ∧ w'.cell? ⟨g, o + j * 6 + 1 + 1, none⟩ = some (.int .i64 i2) ∧ w'.cell? ⟨g, o + j * 6 + 1 + 2, none⟩ = some (.string s2) ∧ w'.cell? ⟨g, o + j * 6 + 1 + 3, none⟩ = some (.slice a1 n1 d1) ∧ w'.cell? ⟨g, o + j * 6 + 1 + 4, none⟩ = some (.slice a2 n2 d2) ∧ w'.cell? ⟨w.heap.size, 10, none⟩ = some (.slice (some ⟨g, o, none⟩) vars.length c) ∧ w'.cell? ⟨P, 10, none⟩ = some (.slice A0 j cp)) := fun w' hb => ⟨(hb.cell (p := ⟨g, o + j * 6, none⟩) hg).trans f00, (hb.cell (p := ⟨g, _, none⟩) hg).trans f0, (hb.cell (p := ⟨g, _, none⟩) hg).trans e1, (hb.cell (p := ⟨g, _, none⟩) hg).trans e2, (hb.cell (p := ⟨g, _, none⟩) hg).trans e3, (hb.cell (p := ⟨g, _, none⟩) hg).trans e4, (hb.cell (p := ⟨w.heap.size, 10, none⟩) l1r).trans p10, (hb.cell (p := ⟨P, 10, none⟩) zn).trans q10⟩
        have HK5 := hide K5
        have hneg : some g ≠ (Value.slice A0 j cp).ownBlock := fun e => by have := (hown.lt _ e.symm).1; omega
        have hneN : some w.heap.size ≠ (Value.slice A0 j cp).ownBlock := fun e => by have := (hown.lt _ e.symm).1; omega
        have hgP : g ≠ P := by omega
        have hNP : w.heap.size ≠ P := by omega
        clear K5
        clear hN hNv hstay hy bel f1 f2 f3 f4 cells5
        go_wp2_with fail
        refine wp_region_head (fun w' => w'.cell? ⟨g, o + j * 6, none⟩ = some (.string nm) ∧ w'.cell? ⟨g, o + j * 6 + 1, none⟩ = some (.int .i64 k2) ∧ w'.cell? ⟨g, o + j * 6 + 1 + 1, none⟩ = some (.int .i64 i2) ∧ w'.cell? ⟨g, o + j * 6 + 1 + 2, none⟩ = some (.string s2) ∧ w'.cell? ⟨g, o + j * 6 + 1 + 3, none⟩ = some (.slice a1 n1 d1) ∧ w'.cell? ⟨g, o + j * 6 + 1 + 4, none⟩ = some (.slice a2 n2 d2) ∧ w'.cell? ⟨w.heap.size, 10, none⟩ = some (.slice (some ⟨g, o, none⟩) vars.length c) ∧ w'.cell? ⟨P, 10, none⟩ = some (.slice A0 j cp))
          [0, 1, 2, 3, 4, 5, 6, 7, 8, 9, 10, 11, 12, 13] [14, 15, 16] 17 (by kernel_rfl) (by kernel_rfl) (by rintro (_ | d) v c a w h <;> exact h) (HK5.out wr.drew (Below.refl wr.heap.size wr).drew) ?_
        iterate 14
          apply walkY_cons _ (by rfl) (by rfl)
          · intro w' hw
            obtain ⟨q0, q1, q2, q3, q4, q5, q6, q7⟩ := hw
            go_simp
            with_reducible rfl
          simp only [Act.put, List.setIfInBounds_toArray, List.set_cons_zero, List.set_cons_succ]
        refine walkH_cons (by rfl) fun Kh hKh => ?_
        go_wp2_with (go_at_call 13; refine (cO.out _ (Below.refl _ _).drew).mono ?_; rintro e wP ⟨v', rfl, hVP, hbP⟩; obtain ⟨ev, rfl⟩ := hVP.shape; have hBP := hide ((Below.refl wr.heap.size wr).drew.trans hbP); have hownP := own_keepV hown hBP.out; have HP3 := hide (hI3.out.below hBP.out zn); have HVP := hide hVP; have hPz := hBP.out.size; obtain ⟨t1, t2, t3, t4, t5, t6, t7⟩ := C5.out _ hBP.out; clear hVP hbP)
        refine hKh _ _ (HK5.out _ hBP.out) ?_
        clear hKh Kh
        refine walkH_cons (by rfl) fun Kh hKh => ?_
        go_wp2_with fail
        refine hKh _ _ (HK5.out _ hBP.out) ?_
        clear hKh Kh
        refine walkH_cons (by rfl) fun Kh hKh => ?_
        go_wp2_with fail
        refine hKh _ _ (HK5.out _ (hBP.out.alloc hBP.out.size _)) ?_
        clear hKh Kh
        refine walkH_nil ?_
        simp only [List.drop]
        have hownA := hownP.alloc (Obj.cells #[.string nm, .int .i64 ev.k, .int .i64 ev.i, .string ev.s, .slice ev.a ev.n ev.c, .slice ev.a2 ev.n2 ev.c2] 58)
        refine wpList_append_lies _ (by rfl) _ _ 30 (by rfl) wc.heap.size 58 j0 (.agg #[.string ⟨#[]⟩, .int .i64 0, .int .i64 0, .string ⟨#[]⟩, .slice none 0 0, .slice none 0 0]) 6 96 Try.underlying30 hj hv0 hv1 hv2 rfl (by decide) (.slice A0 j cp) j _ (by rfl) hownA ⟨wP.heap.size, 0, none⟩ 1 1 (NF.cells ⟨nm, ev⟩) (by rfl) rfl (by intro t u ht; match t, ht with | 0, ht => (simp [NF.cells] at ht; subst ht; simp [Addr.add]) | 1, ht => (simp [NF.cells] at ht; subst ht; simp [Addr.add]) | 2, ht => (simp [NF.cells] at ht; subst ht; simp [Addr.add]) | 3, ht => (simp [NF.cells] at ht; subst ht; simp [Addr.add]) | 4, ht => (simp [NF.cells] at ht; subst ht; simp [Addr.add]) | 5, ht => (simp [NF.cells] at ht; subst ht; simp [Addr.add])) (by intro u hu; simp [NF.cells] at hu; rcases hu with rfl | rfl | rfl | rfl | rfl | rfl <;> rfl) (by omega) (by unfold maxLen; omega) (by omega) (by simp; omega) _ rfl ?_
        intro g4 cp4 w4 hown4 hgrow4 hat4 hlt4
        have hb3 : Blk w4 P 32 (envV ⟨kx, ix, sx, ax, nx, cx, bx, mx, ex⟩ ⟨ky, iy, sy, ay, ny, cy, b_y, my, ey⟩ A0 xs.length cp) := (HP3.out.alloc _).grown hgrow4 hne
        have zz3 := hb3.frozen 10
        have qq3 := hb3.cell 10
        have l4 := hb3.lt
        simp at qq3
        have hIn := hide (hI.out.step hBP.out (show IsN _ wP m ⟨nm, ev⟩ y from ⟨hNm.out, HVP.out⟩) (Nat.le_refl _) ((Below.refl wP.heap.size wP).alloc (Nat.le_refl _) _) (by rw [hxl]; exact hgrow4) (by rw [hel]; exact hown4) (by rw [hxl]; exact hat4))
        rw [hel] at hIn
        clear hown4 hgrow4 hat4 hownP hownA hb3
        go_wp2_with fail
        go_roundw
        case rel => exact ⟨j + 1, _, _, _, _, by go_num, by omega, by simp [hxl], hnx.out, hIn.out⟩
        case measure => simp [intOf]; omega
      · obtain rfl : j = vars.length := by omega
        have hif : decide ((vars.length : Int) < (vars.length : Int)) = false := by simp
        have hxe : xs = vars := by rw [hxs.out, List.take_length]
        subst hxe
        have r0 := hI.out.b3.cell 0; have r1 := hI.out.b3.cell 1; have r2 := hI.out.b3.cell 2; have r3 := hI.out.b3.cell 3; have r4 := hI.out.b3.cell 4; have r5 := hI.out.b3.cell 5; have r6 := hI.out.b3.cell 6; have r7 := hI.out.b3.cell 7; have r8 := hI.out.b3.cell 8; have r9 := hI.out.b3.cell 9; have r10 := hI.out.b3.cell 10
        have o0 := hI.out.b2.cell 0; have o1 := hI.out.b2.cell 1; have o2 := hI.out.b2.cell 2; have o3 := hI.out.b2.cell 3; have o4 := hI.out.b2.cell 4; have o5 := hI.out.b2.cell 5; have o6 := hI.out.b2.cell 6; have o7 := hI.out.b2.cell 7; have o8 := hI.out.b2.cell 8; have o9 := hI.out.b2.cell 9; have o10 := hI.out.b2.cell 10
        have y0 := hI.out.b2.frozen 0; have y1 := hI.out.b2.frozen 1; have y2 := hI.out.b2.frozen 2; have y3 := hI.out.b2.frozen 3; have y4 := hI.out.b2.frozen 4; have y5 := hI.out.b2.frozen 5; have y6 := hI.out.b2.frozen 6; have y7 := hI.out.b2.frozen 7; have y8 := hI.out.b2.frozen 8; have y9 := hI.out.b2.frozen 9; have y10 := hI.out.b2.frozen 10
        simp at r0 r1 r2 r3 r4 r5 r6 r7 r8 r9 r10 o0 o1 o2 o3 o4 o5 o6 o7 o8 o9 o10
        have hDn := hide (fun v0 v1 v2 v3 v4 v5 v6 v7 v8 v9 v10 => hI.out.done v0 v1 v2 v3 v4 v5 v6 v7 v8 v9 v10)
        clear q10 zq10
        go_wp2_with fail
        obtain ⟨hV5, hb5, hK5⟩ := hDn.out (.int .i64 kx) (.int .i64 ix) (.string sx) (.slice ax nx cx) (.slice bx mx ex) (.int .i64 ky) (.int .i64 iy) (.string sy) (.slice ay ny cy) (.slice b_y my ey) (.slice A0 xs.length cp)
        unfold set11 at hV5 hb5 hK5
        clear p10 r0 o0 y0 r1 o1 y1 r2 o2 y2 r3 o3 y3 r4 o4 y4 r5 o5 y5 r6 o6 y6 r7 o7 y7 r8 o8 y8 r9 o9 y9 r10 o10 y10
        generalize (((((((((((wr.setCell ⟨w.heap.size + 1, 0, none⟩ (.int .i64 kx)).setCell ⟨w.heap.size + 1, 1, none⟩ (.int .i64 ix)).setCell ⟨w.heap.size + 1, 2, none⟩ (.string sx)).setCell ⟨w.heap.size + 1, 3, none⟩ (.slice ax nx cx)).setCell ⟨w.heap.size + 1, 4, none⟩ (.slice bx mx ex)).setCell ⟨w.heap.size + 1, 5, none⟩ (.int .i64 ky)).setCell ⟨w.heap.size + 1, 6, none⟩ (.int .i64 iy)).setCell ⟨w.heap.size + 1, 7, none⟩ (.string sy)).setCell ⟨w.heap.size + 1, 8, none⟩ (.slice ay ny cy)).setCell ⟨w.heap.size + 1, 9, none⟩ (.slice b_y my ey)).setCell ⟨w.heap.size + 1, 10, none⟩ (.slice A0 xs.length cp)) = w5 at hV5 hb5 hK5 ⊢
        have r0 := hK5.cell 0; have r1 := hK5.cell 1; have r2 := hK5.cell 2; have r3 := hK5.cell 3; have r4 := hK5.cell 4; have r5 := hK5.cell 5; have r6 := hK5.cell 6; have r7 := hK5.cell 7; have r8 := hK5.cell 8; have r9 := hK5.cell 9; have r10 := hK5.cell 10
        simp at r0 r1 r2 r3 r4 r5 r6 r7 r8 r9 r10
        have HV5 := hide hV5; have HB5 := hide hb5
        clear hV5 hb5
        simp [bodyPost, results, Try.results7, go_sem, r0, r1, r2, r3, r4, r5, r6, r7, r8, r9, r10]
        exact ⟨⟨kx, ix, sx, ax, nx, cx, bx, mx, ex⟩, ⟨ky, iy, sy, ay, ny, cy, b_y, my, ey⟩, A0, ⟨rfl, rfl, rfl, ⟨rfl, rfl, rfl⟩, ⟨rfl, rfl, rfl⟩, rfl, rfl, rfl, ⟨rfl, rfl, rfl⟩, ⟨rfl, rfl, rfl⟩, rfl⟩, HV5.out, HB5.out⟩
end Go.Proofs.Ytdnmgpidfjkiaaa
