/-
  PLAIN LAWS of many texts, in one.
-/
import Derived.Test.YtnepogddjinpoaaGreatDoorC4
import Derived.Deep.QuietTactic
import Derived.BigQuiet
namespace Go.Proofs.YtnepogddjinpoaaGreatDoor
open Go.RowKit
set_option linter.unusedVariables false
set_option linter.unusedSimpArgs false

set_option maxHeartbeats 4000000 in
set_option maxRecDepth 100000 in
theorem cArg_root (n N : Nat) (r d : VF) (av : Option Addr) (nv cv : Nat) (ap : Option Addr) (path : List (List UInt8)) (cp : Nat) (i : Int) (s : ByteArray) (w : World) (dv : VD n) (hN : N ≤ w.heap.size) (hd : IsV (lowN N) w (n + 1) r.val dv) (gd : GoodD dv) (hP : StrsAt (lowN N) w ap path) (hpl : path.length ≤ 1048576) :
    Calls Tryz.prog 24 #[.agg (envCells r d av nv cv), .agg #[.int .i64 2, .string ⟨#[]⟩, .slice ap path.length cp, .int .i64 i, .string s]] w fun e w' => TellsR N n w (pathR path dv) e w' := by
  have HP := hide hP; have HD := hide hd; have HG := hide gd; have HPL := hide hpl; have HN := hide hN
  clear hP hd gd hN
  obtain ⟨kd, id, sd, ad, nd, cd, bd, md, ed⟩ := d
  obtain ⟨kr, ir, sr, ar, nr, cr, br, mr, er⟩ := r
  obtain ⟨nm, hnm⟩ : ∃ nm : ByteArray, nm = ⟨#[]⟩ := ⟨_, rfl⟩
  have e0 : ((⟨#[]⟩ : ByteArray) == ⟨#[]⟩) = true := by decide +kernel
  rcases Nat.eq_zero_or_pos nv with hz | hz
  · subst hz
    go_enter Tryz.func24, Tryz.ntmps24
    go_wp2_with fail
    refine wp_loop_rounds 1 ?_
    rw [rounds_succ]
    go_wp2_with fail
    refine name_codeC fun W0 hW0 => ?_
    have HI : Hid (PathI N n w W0 2 ⟨#[]⟩ ap path.length cp i s ⟨kr, ir, sr, ar, nr, cr, br, mr, er⟩ dv) := hide (by
      have C0 : Chg [] w W0 := by subst hW0; (repeat' (first | with_reducible exact Chg.refl _ _ | with_reducible refine Chg.alloc ?_ _ | with_reducible refine Chg.drew ?_ | with_reducible refine Chg.drewN ?_ _ | with_reducible refine Chg.set_ ?_ _ _ (by first | (simp; done) | (simp; omega) | omega)))
      exact ⟨C0, by subst hW0; (repeat' (first | with_reducible exact Blk.new_ (by first | rfl | (simp; done) | (simp; omega)) | with_reducible refine Blk.alloc_ ?_ | with_reducible refine Blk.drew ?_ | with_reducible refine Blk.drewN ?_ _ | with_reducible refine Blk.far_ ?_ (by first | (simp; done) | (simp; omega) | omega) | with_reducible apply Blk.set_eq | rfl)), by subst hW0; (repeat' (first | with_reducible exact Blk.new_ (by first | rfl | (simp; done) | (simp; omega)) | with_reducible refine Blk.alloc_ ?_ | with_reducible refine Blk.drew ?_ | with_reducible refine Blk.drewN ?_ _ | with_reducible refine Blk.far_ ?_ (by first | (simp; done) | (simp; omega) | omega) | with_reducible apply Blk.set_eq | rfl)), by subst hW0; (repeat' (first | with_reducible exact Blk.new_ (by first | rfl | (simp; done) | (simp; omega)) | with_reducible refine Blk.alloc_ ?_ | with_reducible refine Blk.drew ?_ | with_reducible refine Blk.drewN ?_ _ | with_reducible refine Blk.far_ ?_ (by first | (simp; done) | (simp; omega) | omega) | with_reducible apply Blk.set_eq | rfl)), isV_chg HD.out C0 (by intro x hx; cases hx), HG.out⟩)
    clear hW0
    go_loopw [9] (fun iv wr => ∃ (j : Nat) (f : VF) (x : VD n), iv = .int .i64 (j : Int) ∧ j ≤ path.length ∧ Hid (pathR path dv = pathR (path.drop j) x) ∧ Hid (PathI N n w wr 2 ⟨#[]⟩ ap path.length cp i s f x)) (fun iv _ => path.length - (intOf iv).toNat)
    case atStart => exact ⟨0, _, dv, rfl, Nat.zero_le _, hide rfl, HI⟩
    case round =>
      obtain ⟨j, ⟨kx, ix, sx, ax, nx, cx, bx, mx, ex⟩, x, rfl, hjl, hq, hI⟩ := hrel
      clear HI
      have KA := hI.out.arg
      have KV := hI.out.val
      have hsw := hI.out.chg.size
      have hI0 : w.heap.size + 3 < wr.heap.size := KV.lt
      have k0 := KA.cell 0; have k1 := KA.cell 1; have k2 := KA.cell 2; have k3 := KA.cell 3; have k4 := KA.cell 4; simp at k0 k1 k2 k3 k4
      have v0 := KV.cell 0; have v1 := KV.cell 1; have v2 := KV.cell 2; have v3 := KV.cell 3; have v4 := KV.cell 4; simp at v0 v1 v2 v3 v4
      have lA := KA.lt
      have lV := KV.lt
      clear KA KV
      have hN9 := HN.out
      by_cases hlt : j < path.length
      · obtain ⟨p, hp⟩ : ∃ p, path[j]? = some p := ⟨_, List.getElem?_eq_getElem hlt⟩
        obtain ⟨b, off, rfl, hb, hu, hc⟩ := HP.out j p hp
        have hc := (cellB (hI.out.chg.block b hb (by simp)) _).trans hc
        have hbr := Nat.lt_of_lt_of_le hb hsw
        have hdr : path.drop j = p :: path.drop (j + 1) := by rw [List.drop_eq_getElem_cons hlt]; congr 1; rw [List.getElem?_eq_getElem hlt] at hp; injection hp
        have HDR := hide hdr
        have HLT := hide hlt
        have cF := hide (fun W (hW : Below wr.heap.size wr W) => refField_any n (lowN N) (lasts_N N) _ x p W (isV_bel hI.out.is hW) (small_of_mass _ _ hI.out.good.1))
        have hji : (j : Int) < (path.length : Int) := by omega
        have hj9 : j < 1048576 := by omega
        rcases field_fine hI.out.good p with ⟨y, hy, gy⟩ | ⟨E, hy, hE⟩
        · have cF1 : Hid (∀ W, Below wr.heap.size wr W → Calls Tryz.prog 39 #[.agg (vCells kx ix sx ax nx cx bx mx ex), .string ⟨p.toArray⟩] W fun e w' => ∃ f : VF, e = .returned (.tuple #[.agg (vCells f.k f.i f.s f.a f.n f.c f.a2 f.n2 f.c2), .int .i64 0]) ∧ IsV (lowN N) w' (n + 1) f.val y ∧ Below W.heap.size W w') := hide (by
            intro W hW
            refine (cF.out W hW).mono ?_
            rintro e w' ⟨v', rfl, ht, hb⟩
            have ht2 := tells_up ht
            rw [hy] at ht2
            have h2 : (fieldR x p).2 = 0 := congrArg Prod.snd hy
            obtain ⟨f, rfl⟩ := IsV.shape (show IsV (lowN N) w' (n + 1) v' y from ht2)
            exact ⟨f, by rw [h2], ht2, hb⟩)
          clear cF hp hu hdr hlt hjl
          go_wp2_with fail
          refine wp_region_held (S := fun W => Below wr.heap.size wr W) (by kernel_rfl) ?_
          change wpAnyH _ _ _ _ _ _ _ _ (World.drew _)
          have hD : Below wr.heap.size wr wr.drew := (Below.refl _ _).drew
          refine wpAnyH_take (i := 0) (v := .agg (vCells kx ix sx ax nx cx bx mx ex)) rfl (by kernel_rfl) (by kernel_rfl) (by kernel_rfl) (fun _ _ _ h => h) (Or.inl ⟨by rfl, by
            intro W hW
            have KV := hI.out.val.chg (Chg.of_below (S := []) hW) (by simp)
            have q0 := KV.cell 0; have q1 := KV.cell 1; have q2 := KV.cell 2; have q3 := KV.cell 3; have q4 := KV.cell 4; simp at q0 q1 q2 q3 q4
            clear KV
            go_simp⟩) hD ?_
          refine wpAnyH_take (i := 1) (v := .pointer (some ⟨w.heap.size + 1, 2, none⟩)) rfl (by kernel_rfl) (by kernel_rfl) (by kernel_rfl) (fun _ _ _ h => h) (Or.inl ⟨by rfl, by intro W hW; go_simp⟩) hD ?_
          refine wpAnyH_take (i := 2) (v := .slice (some ⟨b, off, none⟩) path.length cp) rfl (by kernel_rfl) (by kernel_rfl) (by kernel_rfl) (fun _ _ _ h => h) (Or.inl ⟨by rfl, by
            intro W hW
            have KA := hI.out.arg.chg (Chg.of_below (S := []) hW) (by simp)
            have q0 := KA.cell 0; have q1 := KA.cell 1; have q2 := KA.cell 2; have q3 := KA.cell 3; have q4 := KA.cell 4; simp at q0 q1 q2 q3 q4
            clear KA
            go_simp⟩) hD ?_
          refine wpAnyH_take (i := 3) (v := .int .i64 (j : Int)) rfl (by kernel_rfl) (by kernel_rfl) (by kernel_rfl) (fun _ _ _ h => h) (Or.inl ⟨by rfl, by intro W hW; go_simp⟩) hD ?_
          refine wpAnyH_take (i := 4) (v := .pointer (some ⟨b, off + j, none⟩)) rfl (by kernel_rfl) (by kernel_rfl) (by kernel_rfl) (fun _ _ _ h => h) (Or.inl ⟨by rfl, by intro W hW; go_simp⟩) hD ?_
          refine wpAnyH_take (i := 5) (v := .string ⟨p.toArray⟩) rfl (by kernel_rfl) (by kernel_rfl) (by kernel_rfl) (fun _ _ _ h => h) (Or.inl ⟨by rfl, by
            intro W hW
            have q0 := (cellB (hW.block b hbr) _).trans hc
            go_simp⟩) hD ?_
          refine wpAnyH_all (rs := [6, 10]) (by kernel_rfl) (by simp) ?_
          intro i0 hi0
          simp only [List.mem_cons, List.mem_nil_iff, or_false] at hi0
          rcases hi0 with rfl | rfl
          · refine wpOp_enter 39 #[.agg (vCells kx ix sx ax nx cx bx mx ex), .string ⟨p.toArray⟩] rfl (by rfl) (by go_simp) ?_
            refine (cF1.out _ hD).mono ?_
            rintro e w1 ⟨⟨kf, jf, sf, af, nf, cf, bf, mf, ef⟩, rfl, hv, hb1⟩
            have hB1 := below_step hD hb1
            refine ⟨_, rfl, hB1, ?_⟩
            refine wpAnyH_take (i := 7) (v := .tuple #[.agg (vCells kf jf sf af nf cf bf mf ef), .int .i64 0]) rfl (by kernel_rfl) (by kernel_rfl) (by kernel_rfl) (fun _ _ _ h => h) (Or.inl ⟨by rfl, by intro W hW; go_simp⟩) hB1 ?_
            refine wpAnyH_take (i := 8) (v := .agg (vCells kf jf sf af nf cf bf mf ef)) rfl (by kernel_rfl) (by kernel_rfl) (by kernel_rfl) (fun _ _ _ h => h) (Or.inl ⟨by rfl, by intro W hW; go_simp⟩) hB1 ?_
            refine wpAnyH_take (i := 9) (v := .int .i64 0) rfl (by kernel_rfl) (by kernel_rfl) (by kernel_rfl) (fun _ _ _ h => h) (Or.inl ⟨by rfl, by intro W hW; go_simp⟩) hB1 ?_
            refine wpAnyH_all (rs := [10]) (by kernel_rfl) (by simp) ?_
            intro i0 hi0
            simp only [List.mem_cons, List.mem_nil_iff, or_false] at hi0
            subst hi0
            obtain ⟨w2, hw2⟩ : ∃ w2, w1.alloc (.cells (vCells 0 0 ⟨#[]⟩ none 0 0 none 0 0) 26) = w2 := ⟨_, rfl⟩
            have hb2 : Below w1.heap.size w1 w2 := by rw [← hw2]; exact (Below.refl _ _).alloc (Nat.le_refl _) _
            have hB2 := below_step hB1 hb2
            have KZ : Blk w2 w1.heap.size 26 (vCells 0 0 ⟨#[]⟩ none 0 0 none 0 0) := by rw [← hw2]; exact Blk.new w1 _ _
            refine wpOp_does (v := .pointer (some ⟨w1.heap.size, 0, none⟩)) (w' := w2) rfl (by rfl) (by rw [← hw2]; go_simp) ⟨hB2, ?_⟩
            clear hw2
            have hv := isV_bel hv hb2
            have hg : wr.heap.size ≤ w1.heap.size := hB1.size
            obtain ⟨g, hgd⟩ : ∃ g, w1.heap.size = g := ⟨_, rfl⟩
            rw [hgd] at KZ hg
            rw [hgd]
            clear hgd hb1 hb2 hB1
            have hNg : N ≤ g := by omega
            obtain ⟨W3, hW3⟩ : ∃ W3, set5 w2 g (.int .i64 kf) (.int .i64 jf) (.string sf) (.slice af nf cf) (.slice bf mf ef) = W3 := ⟨_, rfl⟩
            have C3 : Chg [g] w2 W3 := by rw [← hW3]; unfold set5; (repeat' (first | with_reducible exact Chg.refl _ _ | with_reducible refine Chg.alloc ?_ _ | with_reducible refine Chg.drew ?_ | with_reducible refine Chg.drewN ?_ _ | with_reducible refine Chg.set_ ?_ _ _ (by first | (simp; done) | (simp; omega) | omega)))
            have K10 : Blk W3 g 26 (vCells kf jf sf af nf cf bf mf ef) := by rw [← hW3]; exact set5_blk KZ _ _ _ _ _
            have hB3 : Below wr.heap.size wr W3 := by
              skip
              exact (((Chg.of_below (S := []) hB2).mono (S' := [g]) (by simp)).trans C3 (by simp)).to_below (Nat.le_refl _) (by intro x hx; simp at hx; omega)
            refine wpAnyH_all (rs := [11]) (by kernel_rfl) (by simp) ?_
            intro i0 hi0
            simp only [List.mem_cons, List.mem_nil_iff, or_false] at hi0
            subst hi0
            refine wpOp_skips (w' := W3) rfl (by rfl) (by
              rw [← hW3]
              clear hW3 K10 C3 hB3
              have q0 := KZ.cell 0; have q1 := KZ.cell 1; have q2 := KZ.cell 2; have q3 := KZ.cell 3; have q4 := KZ.cell 4; simp at q0 q1 q2 q3 q4
              have y0 := KZ.frozen 0; have y1 := KZ.frozen 1; have y2 := KZ.frozen 2; have y3 := KZ.frozen 3; have y4 := KZ.frozen 4
              have lz := KZ.lt
              clear KZ
              go_simp) ⟨hB3, ?_⟩
            refine wpAnyH_take (i := 12) (v := .int .i64 0) rfl (by kernel_rfl) (by kernel_rfl) (by kernel_rfl) (fun _ _ _ h => h) (Or.inl ⟨by rfl, by intro W hW; go_simp⟩) hB3 ?_
            refine wpAnyH_done (by kernel_rfl) ?_ _
            have hv3 := isV_chg hv C3 (by intro x hx; simp at hx; subst hx; exact hNg)
            clear hv
            clear hW3 C3 KZ hB2 hD
            have hB := hide hB3
            have hI3 : Hid (PathI N n w W3 2 ⟨#[]⟩ (some ⟨b, off, none⟩) path.length cp i s ⟨kx, ix, sx, ax, nx, cx, bx, mx, ex⟩ x) := hide ⟨hI.out.chg.below hB3, hI.out.arg.chg (Chg.of_below (S := []) hB3) (by simp), hI.out.res.chg (Chg.of_below (S := []) hB3) (by simp), hI.out.val.chg (Chg.of_below (S := []) hB3) (by simp), isV_bel hI.out.is hB3, hI.out.good⟩
            clear hB3 hI k0 k1 k2 k3 k4 v0 v1 v2 v3 v4 lA lV
            have hne : w.heap.size + 3 ≠ g := by have := hsw; have := hI0; omega
            have KV3 := hI3.out.val
            have HK10 := hide K10
            have lV := KV3.lt
            have lG := K10.lt
            have q0 := K10.cell 0; have q1 := K10.cell 1; have q2 := K10.cell 2; have q3 := K10.cell 3; have q4 := K10.cell 4; simp at q0 q1 q2 q3 q4
            have v0 := KV3.cell 0; have v1 := KV3.cell 1; have v2 := KV3.cell 2; have v3 := KV3.cell 3; have v4 := KV3.cell 4; simp at v0 v1 v2 v3 v4
            have y0 := KV3.frozen 0; have y1 := KV3.frozen 1; have y2 := KV3.frozen 2; have y3 := KV3.frozen 3; have y4 := KV3.frozen 4
            clear KV3 K10
            go_wp2_with fail
            have hlt := HLT.out
            go_roundw
            case rel =>
              refine ⟨j + 1, ⟨kf, jf, sf, af, nf, cf, bf, mf, ef⟩, y, by go_num, by omega, hide (by rw [hq.out, HDR.out]; exact pathR_cons hy), ?_⟩
              refine name_it (C := fun W4 => Hid (PathI N n w W4 2 ⟨#[]⟩ (some ⟨b, off, none⟩) path.length cp i s ⟨kf, jf, sf, af, nf, cf, bf, mf, ef⟩ y)) fun W4 hW4 => ?_
              have C4 : Chg [w.heap.size + 3] W3 W4 := by subst hW4; (repeat' (first | with_reducible exact Chg.refl _ _ | with_reducible refine Chg.alloc ?_ _ | with_reducible refine Chg.drew ?_ | with_reducible refine Chg.drewN ?_ _ | with_reducible refine Chg.set_ ?_ _ _ (by first | (simp; done) | (simp; omega) | omega)))
              have KV4 : Blk W4 (w.heap.size + 3) 26 (vCells kf jf sf af nf cf bf mf ef) := by subst hW4; (repeat' (first | with_reducible exact hI3.out.val | with_reducible exact Blk.new_ (by first | rfl | (simp; done) | (simp; omega)) | with_reducible refine Blk.alloc_ ?_ | with_reducible refine Blk.drew ?_ | with_reducible refine Blk.drewN ?_ _ | with_reducible refine Blk.far_ ?_ (by first | (simp; done) | (simp; omega) | omega) | with_reducible apply Blk.set_eq | rfl))
              clear hW4
              refine hide ⟨?_, hI3.out.arg.chg C4 (by simp), hI3.out.res.chg C4 (by simp), KV4, isV_chg hv3 C4 (by intro x hx; simp at hx; have := HN.out; omega), gy⟩
              exact ((hI3.out.chg.mono (S' := [w.heap.size + 3]) (by simp)).trans C4 (by simp)).mono (by intro x hx; simp at hx; subst hx; exact .inr (by omega))
            case measure => simp [intOf]; omega
          · obtain ⟨w1, hw1⟩ : ∃ w1, wr.drew.alloc (.cells (vCells 0 0 ⟨#[]⟩ none 0 0 none 0 0) 26) = w1 := ⟨_, rfl⟩
            have hB1 : Below wr.heap.size wr w1 := by rw [← hw1]; exact hD.alloc (Nat.le_refl _) _
            have KZ : Blk w1 wr.heap.size 26 (vCells 0 0 ⟨#[]⟩ none 0 0 none 0 0) := by rw [← hw1]; exact Blk.new wr.drew _ _
            refine wpOp_does (v := .pointer (some ⟨wr.heap.size, 0, none⟩)) (w' := w1) rfl (by rfl) (by rw [← hw1]; go_simp) ⟨hB1, ?_⟩
            clear hw1
            refine wpAnyH_all (rs := [6]) (by kernel_rfl) (by simp) ?_
            intro i0 hi0
            simp only [List.mem_cons, List.mem_nil_iff, or_false] at hi0
            subst hi0
            refine wpOp_enter 39 #[.agg (vCells kx ix sx ax nx cx bx mx ex), .string ⟨p.toArray⟩] rfl (by rfl) (by go_simp) ?_
            refine (cF1.out _ hB1).mono ?_
            rintro e w2 ⟨⟨kf, jf, sf, af, nf, cf, bf, mf, ef⟩, rfl, hv, hb1⟩
            have hB2 := below_step hB1 hb1
            refine ⟨_, rfl, hB2, ?_⟩
            have KZ := KZ.chg (Chg.of_below (S := []) hb1) (by simp)
            have hg : wr.heap.size ≤ wr.heap.size := Nat.le_refl _
            obtain ⟨g, hgd⟩ : ∃ g, wr.heap.size = g := ⟨_, rfl⟩
            rw [hgd] at KZ hB2 hD
            have hg : wr.heap.size ≤ g := by omega
            rw [hgd]
            clear hb1 hB1
            have hNg : N ≤ g := by omega
            refine wpAnyH_take (i := 7) (v := .tuple #[.agg (vCells kf jf sf af nf cf bf mf ef), .int .i64 0]) rfl (by kernel_rfl) (by kernel_rfl) (by kernel_rfl) (fun _ _ _ h => h) (Or.inl ⟨by rfl, by intro W hW; go_simp⟩) hB2 ?_
            refine wpAnyH_take (i := 8) (v := .agg (vCells kf jf sf af nf cf bf mf ef)) rfl (by kernel_rfl) (by kernel_rfl) (by kernel_rfl) (fun _ _ _ h => h) (Or.inl ⟨by rfl, by intro W hW; go_simp⟩) hB2 ?_
            refine wpAnyH_take (i := 9) (v := .int .i64 0) rfl (by kernel_rfl) (by kernel_rfl) (by kernel_rfl) (fun _ _ _ h => h) (Or.inl ⟨by rfl, by intro W hW; go_simp⟩) hB2 ?_
            obtain ⟨W3, hW3⟩ : ∃ W3, set5 w2 g (.int .i64 kf) (.int .i64 jf) (.string sf) (.slice af nf cf) (.slice bf mf ef) = W3 := ⟨_, rfl⟩
            have C3 : Chg [g] w2 W3 := by rw [← hW3]; unfold set5; (repeat' (first | with_reducible exact Chg.refl _ _ | with_reducible refine Chg.alloc ?_ _ | with_reducible refine Chg.drew ?_ | with_reducible refine Chg.drewN ?_ _ | with_reducible refine Chg.set_ ?_ _ _ (by first | (simp; done) | (simp; omega) | omega)))
            have K10 : Blk W3 g 26 (vCells kf jf sf af nf cf bf mf ef) := by rw [← hW3]; exact set5_blk KZ _ _ _ _ _
            have hB3 : Below g wr W3 := by
              rw [← hgd] at hB2 ⊢
              exact (((Chg.of_below (S := []) hB2).mono (S' := [g]) (by simp)).trans C3 (by simp)).to_below (Nat.le_refl _) (by intro x hx; simp at hx; omega)
            refine wpAnyH_all (rs := [11]) (by kernel_rfl) (by simp) ?_
            intro i0 hi0
            simp only [List.mem_cons, List.mem_nil_iff, or_false] at hi0
            subst hi0
            refine wpOp_skips (w' := W3) rfl (by rfl) (by
              rw [← hW3]
              clear hW3 K10 C3 hB3
              have q0 := KZ.cell 0; have q1 := KZ.cell 1; have q2 := KZ.cell 2; have q3 := KZ.cell 3; have q4 := KZ.cell 4; simp at q0 q1 q2 q3 q4
              have y0 := KZ.frozen 0; have y1 := KZ.frozen 1; have y2 := KZ.frozen 2; have y3 := KZ.frozen 3; have y4 := KZ.frozen 4
              have lz := KZ.lt
              clear KZ
              go_simp) ⟨hB3, ?_⟩
            refine wpAnyH_take (i := 12) (v := .int .i64 0) rfl (by kernel_rfl) (by kernel_rfl) (by kernel_rfl) (fun _ _ _ h => h) (Or.inl ⟨by rfl, by intro W hW; go_simp⟩) hB3 ?_
            refine wpAnyH_done (by kernel_rfl) ?_ _
            have hv3 := isV_chg hv C3 (by intro x hx; simp at hx; subst hx; exact hNg)
            clear hv
            clear hW3 C3 KZ hB2 hD
            rw [← hgd] at hB3
            clear hgd
            have hB := hide hB3
            have hI3 : Hid (PathI N n w W3 2 ⟨#[]⟩ (some ⟨b, off, none⟩) path.length cp i s ⟨kx, ix, sx, ax, nx, cx, bx, mx, ex⟩ x) := hide ⟨hI.out.chg.below hB3, hI.out.arg.chg (Chg.of_below (S := []) hB3) (by simp), hI.out.res.chg (Chg.of_below (S := []) hB3) (by simp), hI.out.val.chg (Chg.of_below (S := []) hB3) (by simp), isV_bel hI.out.is hB3, hI.out.good⟩
            clear hB3 hI k0 k1 k2 k3 k4 v0 v1 v2 v3 v4 lA lV
            have hne : w.heap.size + 3 ≠ g := by have := hsw; have := hI0; omega
            have KV3 := hI3.out.val
            have HK10 := hide K10
            have lV := KV3.lt
            have lG := K10.lt
            have q0 := K10.cell 0; have q1 := K10.cell 1; have q2 := K10.cell 2; have q3 := K10.cell 3; have q4 := K10.cell 4; simp at q0 q1 q2 q3 q4
            have v0 := KV3.cell 0; have v1 := KV3.cell 1; have v2 := KV3.cell 2; have v3 := KV3.cell 3; have v4 := KV3.cell 4; simp at v0 v1 v2 v3 v4
            have y0 := KV3.frozen 0; have y1 := KV3.frozen 1; have y2 := KV3.frozen 2; have y3 := KV3.frozen 3; have y4 := KV3.frozen 4
            clear KV3 K10
            go_wp2_with fail
            have hlt := HLT.out
            go_roundw
            case rel =>
              refine ⟨j + 1, ⟨kf, jf, sf, af, nf, cf, bf, mf, ef⟩, y, by go_num, by omega, hide (by rw [hq.out, HDR.out]; exact pathR_cons hy), ?_⟩
              refine name_it (C := fun W4 => Hid (PathI N n w W4 2 ⟨#[]⟩ (some ⟨b, off, none⟩) path.length cp i s ⟨kf, jf, sf, af, nf, cf, bf, mf, ef⟩ y)) fun W4 hW4 => ?_
              have C4 : Chg [w.heap.size + 3] W3 W4 := by subst hW4; (repeat' (first | with_reducible exact Chg.refl _ _ | with_reducible refine Chg.alloc ?_ _ | with_reducible refine Chg.drew ?_ | with_reducible refine Chg.drewN ?_ _ | with_reducible refine Chg.set_ ?_ _ _ (by first | (simp; done) | (simp; omega) | omega)))
              have KV4 : Blk W4 (w.heap.size + 3) 26 (vCells kf jf sf af nf cf bf mf ef) := by subst hW4; (repeat' (first | with_reducible exact hI3.out.val | with_reducible exact Blk.new_ (by first | rfl | (simp; done) | (simp; omega)) | with_reducible refine Blk.alloc_ ?_ | with_reducible refine Blk.drew ?_ | with_reducible refine Blk.drewN ?_ _ | with_reducible refine Blk.far_ ?_ (by first | (simp; done) | (simp; omega) | omega) | with_reducible apply Blk.set_eq | rfl))
              clear hW4
              refine hide ⟨?_, hI3.out.arg.chg C4 (by simp), hI3.out.res.chg C4 (by simp), KV4, isV_chg hv3 C4 (by intro x hx; simp at hx; have := HN.out; omega), gy⟩
              exact ((hI3.out.chg.mono (S' := [w.heap.size + 3]) (by simp)).trans C4 (by simp)).mono (by intro x hx; simp at hx; subst hx; exact .inr (by omega))
            case measure => simp [intOf]; omega
        · have cF1 : Hid (∀ W, Below wr.heap.size wr W → Calls Tryz.prog 39 #[.agg (vCells kx ix sx ax nx cx bx mx ex), .string ⟨p.toArray⟩] W fun e w' => e = .returned (.tuple #[.agg (vCells 0 0 ⟨#[]⟩ none 0 0 none 0 0), .int .i64 E]) ∧ Below W.heap.size W w') := hide (by
            intro W hW
            refine (cF.out W hW).mono ?_
            rintro e w' ⟨v', rfl, ht, hb⟩
            have ht2 := tells_up ht
            rw [hy] at ht2
            have h2 : (fieldR x p).2 = E := congrArg Prod.snd hy
            have ht3 : v' = zeroV := ht2
            subst ht3
            exact ⟨by rw [h2]; rfl, hb⟩)
          have eE : (E == 0) = false := by simpa using hE
          clear cF hp hu hdr hlt hjl hE
          go_wp2_with fail
          refine wp_region_held (S := fun W => Below wr.heap.size wr W) (by kernel_rfl) ?_
          change wpAnyH _ _ _ _ _ _ _ _ (World.drew _)
          have hD : Below wr.heap.size wr wr.drew := (Below.refl _ _).drew
          refine wpAnyH_take (i := 0) (v := .agg (vCells kx ix sx ax nx cx bx mx ex)) rfl (by kernel_rfl) (by kernel_rfl) (by kernel_rfl) (fun _ _ _ h => h) (Or.inl ⟨by rfl, by
            intro W hW
            have KV := hI.out.val.chg (Chg.of_below (S := []) hW) (by simp)
            have q0 := KV.cell 0; have q1 := KV.cell 1; have q2 := KV.cell 2; have q3 := KV.cell 3; have q4 := KV.cell 4; simp at q0 q1 q2 q3 q4
            clear KV
            go_simp⟩) hD ?_
          refine wpAnyH_take (i := 1) (v := .pointer (some ⟨w.heap.size + 1, 2, none⟩)) rfl (by kernel_rfl) (by kernel_rfl) (by kernel_rfl) (fun _ _ _ h => h) (Or.inl ⟨by rfl, by intro W hW; go_simp⟩) hD ?_
          refine wpAnyH_take (i := 2) (v := .slice (some ⟨b, off, none⟩) path.length cp) rfl (by kernel_rfl) (by kernel_rfl) (by kernel_rfl) (fun _ _ _ h => h) (Or.inl ⟨by rfl, by
            intro W hW
            have KA := hI.out.arg.chg (Chg.of_below (S := []) hW) (by simp)
            have q0 := KA.cell 0; have q1 := KA.cell 1; have q2 := KA.cell 2; have q3 := KA.cell 3; have q4 := KA.cell 4; simp at q0 q1 q2 q3 q4
            clear KA
            go_simp⟩) hD ?_
          refine wpAnyH_take (i := 3) (v := .int .i64 (j : Int)) rfl (by kernel_rfl) (by kernel_rfl) (by kernel_rfl) (fun _ _ _ h => h) (Or.inl ⟨by rfl, by intro W hW; go_simp⟩) hD ?_
          refine wpAnyH_take (i := 4) (v := .pointer (some ⟨b, off + j, none⟩)) rfl (by kernel_rfl) (by kernel_rfl) (by kernel_rfl) (fun _ _ _ h => h) (Or.inl ⟨by rfl, by intro W hW; go_simp⟩) hD ?_
          refine wpAnyH_take (i := 5) (v := .string ⟨p.toArray⟩) rfl (by kernel_rfl) (by kernel_rfl) (by kernel_rfl) (fun _ _ _ h => h) (Or.inl ⟨by rfl, by
            intro W hW
            have q0 := (cellB (hW.block b hbr) _).trans hc
            go_simp⟩) hD ?_
          refine wpAnyH_all (rs := [6, 10]) (by kernel_rfl) (by simp) ?_
          intro i0 hi0
          simp only [List.mem_cons, List.mem_nil_iff, or_false] at hi0
          rcases hi0 with rfl | rfl
          · refine wpOp_enter 39 #[.agg (vCells kx ix sx ax nx cx bx mx ex), .string ⟨p.toArray⟩] rfl (by rfl) (by go_simp) ?_
            refine (cF1.out _ hD).mono ?_
            rintro e w1 ⟨rfl, hb1⟩
            have hB1 := below_step hD hb1
            refine ⟨_, rfl, hB1, ?_⟩
            refine wpAnyH_take (i := 7) (v := .tuple #[.agg (vCells 0 0 ⟨#[]⟩ none 0 0 none 0 0), .int .i64 E]) rfl (by kernel_rfl) (by kernel_rfl) (by kernel_rfl) (fun _ _ _ h => h) (Or.inl ⟨by rfl, by intro W hW; go_simp⟩) hB1 ?_
            refine wpAnyH_take (i := 8) (v := .agg (vCells 0 0 ⟨#[]⟩ none 0 0 none 0 0)) rfl (by kernel_rfl) (by kernel_rfl) (by kernel_rfl) (fun _ _ _ h => h) (Or.inl ⟨by rfl, by intro W hW; go_simp⟩) hB1 ?_
            refine wpAnyH_take (i := 9) (v := .int .i64 E) rfl (by kernel_rfl) (by kernel_rfl) (by kernel_rfl) (fun _ _ _ h => h) (Or.inl ⟨by rfl, by intro W hW; go_simp⟩) hB1 ?_
            refine wpAnyH_all (rs := [10]) (by kernel_rfl) (by simp) ?_
            intro i0 hi0
            simp only [List.mem_cons, List.mem_nil_iff, or_false] at hi0
            subst hi0
            obtain ⟨w2, hw2⟩ : ∃ w2, w1.alloc (.cells (vCells 0 0 ⟨#[]⟩ none 0 0 none 0 0) 26) = w2 := ⟨_, rfl⟩
            have hb2 : Below w1.heap.size w1 w2 := by rw [← hw2]; exact (Below.refl _ _).alloc (Nat.le_refl _) _
            have hB2 := below_step hB1 hb2
            have KZ : Blk w2 w1.heap.size 26 (vCells 0 0 ⟨#[]⟩ none 0 0 none 0 0) := by rw [← hw2]; exact Blk.new w1 _ _
            refine wpOp_does (v := .pointer (some ⟨w1.heap.size, 0, none⟩)) (w' := w2) rfl (by rfl) (by rw [← hw2]; go_simp) ⟨hB2, ?_⟩
            clear hw2
            have hg : wr.heap.size ≤ w1.heap.size := hB1.size
            obtain ⟨g, hgd⟩ : ∃ g, w1.heap.size = g := ⟨_, rfl⟩
            rw [hgd] at KZ hg
            rw [hgd]
            clear hgd hb1 hb2 hB1
            have hNg : N ≤ g := by omega
            obtain ⟨W3, hW3⟩ : ∃ W3, set5 w2 g (.int .i64 0) (.int .i64 0) (.string ⟨#[]⟩) (.slice none 0 0) (.slice none 0 0) = W3 := ⟨_, rfl⟩
            have C3 : Chg [g] w2 W3 := by rw [← hW3]; unfold set5; (repeat' (first | with_reducible exact Chg.refl _ _ | with_reducible refine Chg.alloc ?_ _ | with_reducible refine Chg.drew ?_ | with_reducible refine Chg.drewN ?_ _ | with_reducible refine Chg.set_ ?_ _ _ (by first | (simp; done) | (simp; omega) | omega)))
            have K10 : Blk W3 g 26 (vCells 0 0 ⟨#[]⟩ none 0 0 none 0 0) := by rw [← hW3]; exact set5_blk KZ _ _ _ _ _
            have hB3 : Below wr.heap.size wr W3 := by
              skip
              exact (((Chg.of_below (S := []) hB2).mono (S' := [g]) (by simp)).trans C3 (by simp)).to_below (Nat.le_refl _) (by intro x hx; simp at hx; omega)
            refine wpAnyH_all (rs := [11]) (by kernel_rfl) (by simp) ?_
            intro i0 hi0
            simp only [List.mem_cons, List.mem_nil_iff, or_false] at hi0
            subst hi0
            refine wpOp_skips (w' := W3) rfl (by rfl) (by
              rw [← hW3]
              clear hW3 K10 C3 hB3
              have q0 := KZ.cell 0; have q1 := KZ.cell 1; have q2 := KZ.cell 2; have q3 := KZ.cell 3; have q4 := KZ.cell 4; simp at q0 q1 q2 q3 q4
              have y0 := KZ.frozen 0; have y1 := KZ.frozen 1; have y2 := KZ.frozen 2; have y3 := KZ.frozen 3; have y4 := KZ.frozen 4
              have lz := KZ.lt
              clear KZ
              go_simp) ⟨hB3, ?_⟩
            refine wpAnyH_take (i := 12) (v := .int .i64 E) rfl (by kernel_rfl) (by kernel_rfl) (by kernel_rfl) (fun _ _ _ h => h) (Or.inl ⟨by rfl, by intro W hW; go_simp⟩) hB3 ?_
            refine wpAnyH_done (by kernel_rfl) ?_ _
            clear hW3 C3 KZ hB2 hD
            have KR3 := hI.out.res.chg (Chg.of_below (S := []) hB3) (by simp)
            have HC3 := hide (hI.out.chg.below hB3)
            have hne : w.heap.size + 2 ≠ g := by have := hsw; have := hI0; omega
            have HR3 := hide KR3
            have lR := KR3.lt
            have lG := K10.lt
            have q0 := KR3.cell 0; have q1 := KR3.cell 1; have q2 := KR3.cell 2; have q3 := KR3.cell 3; have q4 := KR3.cell 4; simp at q0 q1 q2 q3 q4
            have y0 := KR3.frozen 0; have y1 := KR3.frozen 1; have y2 := KR3.frozen 2; have y3 := KR3.frozen 3; have y4 := KR3.frozen 4
            clear KR3 K10 k0 k1 k2 k3 k4 v0 v1 v2 v3 v4 lA lV
            go_wp2_with fail
            refine name_postO fun W4 hW4 => ?_
            have C4 : Chg [w.heap.size + 2] W3 W4 := by subst hW4; (repeat' (first | with_reducible exact Chg.refl _ _ | with_reducible refine Chg.alloc ?_ _ | with_reducible refine Chg.drew ?_ | with_reducible refine Chg.drewN ?_ _ | with_reducible refine Chg.set_ ?_ _ _ (by first | (simp; done) | (simp; omega) | omega)))
            have KR4 : Blk W4 (w.heap.size + 2) 26 (vCells 0 0 ⟨#[]⟩ none 0 0 none 0 0) := by subst hW4; (repeat' (first | with_reducible exact HR3.out | with_reducible exact Blk.new_ (by first | rfl | (simp; done) | (simp; omega)) | with_reducible refine Blk.alloc_ ?_ | with_reducible refine Blk.drew ?_ | with_reducible refine Blk.drewN ?_ _ | with_reducible refine Blk.far_ ?_ (by first | (simp; done) | (simp; omega) | omega) | with_reducible apply Blk.set_eq | rfl))
            clear hW4 q0 q1 q2 q3 q4 y0 y1 y2 y3 y4
            have k0 := KR4.cell 0; have k1 := KR4.cell 1; have k2 := KR4.cell 2; have k3 := KR4.cell 3; have k4 := KR4.cell 4; simp at k0 k1 k2 k3 k4
            clear KR4
            simp [bodyPost, results, Tryz.results24, go_sem, k0, k1, k2, k3, k4]
            rw [hq.out, HDR.out, pathR_err hy]
            refine ⟨_, rfl, rfl, (((HC3.out.mono (S' := [w.heap.size + 2]) (by simp)).trans C4 (by simp)).mono (S' := []) (by intro x hx; simp at hx; subst hx; exact .inr (by omega))).bel⟩
          · obtain ⟨w1, hw1⟩ : ∃ w1, wr.drew.alloc (.cells (vCells 0 0 ⟨#[]⟩ none 0 0 none 0 0) 26) = w1 := ⟨_, rfl⟩
            have hB1 : Below wr.heap.size wr w1 := by rw [← hw1]; exact hD.alloc (Nat.le_refl _) _
            have KZ : Blk w1 wr.heap.size 26 (vCells 0 0 ⟨#[]⟩ none 0 0 none 0 0) := by rw [← hw1]; exact Blk.new wr.drew _ _
            refine wpOp_does (v := .pointer (some ⟨wr.heap.size, 0, none⟩)) (w' := w1) rfl (by rfl) (by rw [← hw1]; go_simp) ⟨hB1, ?_⟩
            clear hw1
            refine wpAnyH_all (rs := [6]) (by kernel_rfl) (by simp) ?_
            intro i0 hi0
            simp only [List.mem_cons, List.mem_nil_iff, or_false] at hi0
            subst hi0
            refine wpOp_enter 39 #[.agg (vCells kx ix sx ax nx cx bx mx ex), .string ⟨p.toArray⟩] rfl (by rfl) (by go_simp) ?_
            refine (cF1.out _ hB1).mono ?_
            rintro e w2 ⟨rfl, hb1⟩
            have hB2 := below_step hB1 hb1
            refine ⟨_, rfl, hB2, ?_⟩
            have KZ := KZ.chg (Chg.of_below (S := []) hb1) (by simp)
            have hg : wr.heap.size ≤ wr.heap.size := Nat.le_refl _
            obtain ⟨g, hgd⟩ : ∃ g, wr.heap.size = g := ⟨_, rfl⟩
            rw [hgd] at KZ hB2 hD
            have hg : wr.heap.size ≤ g := by omega
            rw [hgd]
            clear hb1 hB1
            have hNg : N ≤ g := by omega
            refine wpAnyH_take (i := 7) (v := .tuple #[.agg (vCells 0 0 ⟨#[]⟩ none 0 0 none 0 0), .int .i64 E]) rfl (by kernel_rfl) (by kernel_rfl) (by kernel_rfl) (fun _ _ _ h => h) (Or.inl ⟨by rfl, by intro W hW; go_simp⟩) hB2 ?_
            refine wpAnyH_take (i := 8) (v := .agg (vCells 0 0 ⟨#[]⟩ none 0 0 none 0 0)) rfl (by kernel_rfl) (by kernel_rfl) (by kernel_rfl) (fun _ _ _ h => h) (Or.inl ⟨by rfl, by intro W hW; go_simp⟩) hB2 ?_
            refine wpAnyH_take (i := 9) (v := .int .i64 E) rfl (by kernel_rfl) (by kernel_rfl) (by kernel_rfl) (fun _ _ _ h => h) (Or.inl ⟨by rfl, by intro W hW; go_simp⟩) hB2 ?_
            obtain ⟨W3, hW3⟩ : ∃ W3, set5 w2 g (.int .i64 0) (.int .i64 0) (.string ⟨#[]⟩) (.slice none 0 0) (.slice none 0 0) = W3 := ⟨_, rfl⟩
            have C3 : Chg [g] w2 W3 := by rw [← hW3]; unfold set5; (repeat' (first | with_reducible exact Chg.refl _ _ | with_reducible refine Chg.alloc ?_ _ | with_reducible refine Chg.drew ?_ | with_reducible refine Chg.drewN ?_ _ | with_reducible refine Chg.set_ ?_ _ _ (by first | (simp; done) | (simp; omega) | omega)))
            have K10 : Blk W3 g 26 (vCells 0 0 ⟨#[]⟩ none 0 0 none 0 0) := by rw [← hW3]; exact set5_blk KZ _ _ _ _ _
            have hB3 : Below g wr W3 := by
              rw [← hgd] at hB2 ⊢
              exact (((Chg.of_below (S := []) hB2).mono (S' := [g]) (by simp)).trans C3 (by simp)).to_below (Nat.le_refl _) (by intro x hx; simp at hx; omega)
            refine wpAnyH_all (rs := [11]) (by kernel_rfl) (by simp) ?_
            intro i0 hi0
            simp only [List.mem_cons, List.mem_nil_iff, or_false] at hi0
            subst hi0
            refine wpOp_skips (w' := W3) rfl (by rfl) (by
              rw [← hW3]
              clear hW3 K10 C3 hB3
              have q0 := KZ.cell 0; have q1 := KZ.cell 1; have q2 := KZ.cell 2; have q3 := KZ.cell 3; have q4 := KZ.cell 4; simp at q0 q1 q2 q3 q4
              have y0 := KZ.frozen 0; have y1 := KZ.frozen 1; have y2 := KZ.frozen 2; have y3 := KZ.frozen 3; have y4 := KZ.frozen 4
              have lz := KZ.lt
              clear KZ
              go_simp) ⟨hB3, ?_⟩
            refine wpAnyH_take (i := 12) (v := .int .i64 E) rfl (by kernel_rfl) (by kernel_rfl) (by kernel_rfl) (fun _ _ _ h => h) (Or.inl ⟨by rfl, by intro W hW; go_simp⟩) hB3 ?_
            refine wpAnyH_done (by kernel_rfl) ?_ _
            clear hW3 C3 KZ hB2 hD
            rw [← hgd] at hB3
            clear hgd
            have KR3 := hI.out.res.chg (Chg.of_below (S := []) hB3) (by simp)
            have HC3 := hide (hI.out.chg.below hB3)
            have hne : w.heap.size + 2 ≠ g := by have := hsw; have := hI0; omega
            have HR3 := hide KR3
            have lR := KR3.lt
            have lG := K10.lt
            have q0 := KR3.cell 0; have q1 := KR3.cell 1; have q2 := KR3.cell 2; have q3 := KR3.cell 3; have q4 := KR3.cell 4; simp at q0 q1 q2 q3 q4
            have y0 := KR3.frozen 0; have y1 := KR3.frozen 1; have y2 := KR3.frozen 2; have y3 := KR3.frozen 3; have y4 := KR3.frozen 4
            clear KR3 K10 k0 k1 k2 k3 k4 v0 v1 v2 v3 v4 lA lV
            go_wp2_with fail
            refine name_postO fun W4 hW4 => ?_
            have C4 : Chg [w.heap.size + 2] W3 W4 := by subst hW4; (repeat' (first | with_reducible exact Chg.refl _ _ | with_reducible refine Chg.alloc ?_ _ | with_reducible refine Chg.drew ?_ | with_reducible refine Chg.drewN ?_ _ | with_reducible refine Chg.set_ ?_ _ _ (by first | (simp; done) | (simp; omega) | omega)))
            have KR4 : Blk W4 (w.heap.size + 2) 26 (vCells 0 0 ⟨#[]⟩ none 0 0 none 0 0) := by subst hW4; (repeat' (first | with_reducible exact HR3.out | with_reducible exact Blk.new_ (by first | rfl | (simp; done) | (simp; omega)) | with_reducible refine Blk.alloc_ ?_ | with_reducible refine Blk.drew ?_ | with_reducible refine Blk.drewN ?_ _ | with_reducible refine Blk.far_ ?_ (by first | (simp; done) | (simp; omega) | omega) | with_reducible apply Blk.set_eq | rfl))
            clear hW4 q0 q1 q2 q3 q4 y0 y1 y2 y3 y4
            have k0 := KR4.cell 0; have k1 := KR4.cell 1; have k2 := KR4.cell 2; have k3 := KR4.cell 3; have k4 := KR4.cell 4; simp at k0 k1 k2 k3 k4
            clear KR4
            simp [bodyPost, results, Tryz.results24, go_sem, k0, k1, k2, k3, k4]
            rw [hq.out, HDR.out, pathR_err hy]
            refine ⟨_, rfl, rfl, (((HC3.out.mono (S' := [w.heap.size + 2]) (by simp)).trans C4 (by simp)).mono (S' := []) (by intro x hx; simp at hx; subst hx; exact .inr (by omega))).bel⟩
      · obtain rfl : j = path.length := by omega
        have hte := hide (show pathR path dv = (some x, 0) by rw [hq.out, List.drop_length]; rfl)
        clear hlt hjl
        have hif : decide ((path.length : Int) < (path.length : Int)) = false := by simp
        have KR3 := hI.out.res
        have HR3 := hide KR3
        have lR := KR3.lt
        have q0 := KR3.cell 0; have q1 := KR3.cell 1; have q2 := KR3.cell 2; have q3 := KR3.cell 3; have q4 := KR3.cell 4; simp at q0 q1 q2 q3 q4
        have y0 := KR3.frozen 0; have y1 := KR3.frozen 1; have y2 := KR3.frozen 2; have y3 := KR3.frozen 3; have y4 := KR3.frozen 4
        clear KR3
        go_wp2_with fail
        refine name_postO fun W4 hW4 => ?_
        have C4 : Chg [w.heap.size + 2] wr W4 := by subst hW4; (repeat' (first | with_reducible exact Chg.refl _ _ | with_reducible refine Chg.alloc ?_ _ | with_reducible refine Chg.drew ?_ | with_reducible refine Chg.drewN ?_ _ | with_reducible refine Chg.set_ ?_ _ _ (by first | (simp; done) | (simp; omega) | omega)))
        have KR4 : Blk W4 (w.heap.size + 2) 26 (vCells kx ix sx ax nx cx bx mx ex) := by subst hW4; (repeat' (first | with_reducible exact HR3.out | with_reducible exact Blk.new_ (by first | rfl | (simp; done) | (simp; omega)) | with_reducible refine Blk.alloc_ ?_ | with_reducible refine Blk.drew ?_ | with_reducible refine Blk.drewN ?_ _ | with_reducible refine Blk.far_ ?_ (by first | (simp; done) | (simp; omega) | omega) | with_reducible apply Blk.set_eq | rfl))
        clear hW4 q0 q1 q2 q3 q4 y0 y1 y2 y3 y4 k0 k1 k2 k3 k4 v0 v1 v2 v3 v4
        have k0 := KR4.cell 0; have k1 := KR4.cell 1; have k2 := KR4.cell 2; have k3 := KR4.cell 3; have k4 := KR4.cell 4; simp at k0 k1 k2 k3 k4
        clear KR4
        simp [bodyPost, results, Tryz.results24, go_sem, k0, k1, k2, k3, k4]
        rw [hte.out]
        refine ⟨_, rfl, isV_chg hI.out.is C4 (by intro x hx; simp at hx; have := HN.out; omega), (((hI.out.chg.mono (S' := [w.heap.size + 2]) (by simp)).trans C4 (by simp)).mono (S' := []) (by intro x hx; simp at hx; subst hx; exact .inr (by omega))).bel⟩
  · have hz1 : decide ((0 : Int) < (nv : Int)) = true := by simp; omega
    have hz2 : (0 : Int) < (nv : Int) := by omega
    go_enter Tryz.func24, Tryz.ntmps24
    go_wp2_with fail
    refine wp_loop_rounds 1 ?_
    rw [rounds_succ]
    go_wp2_with fail
    refine name_codeC fun W0 hW0 => ?_
    have HI : Hid (PathI N n w W0 2 ⟨#[]⟩ ap path.length cp i s ⟨kr, ir, sr, ar, nr, cr, br, mr, er⟩ dv) := hide (by
      have C0 : Chg [] w W0 := by subst hW0; (repeat' (first | with_reducible exact Chg.refl _ _ | with_reducible refine Chg.alloc ?_ _ | with_reducible refine Chg.drew ?_ | with_reducible refine Chg.drewN ?_ _ | with_reducible refine Chg.set_ ?_ _ _ (by first | (simp; done) | (simp; omega) | omega)))
      exact ⟨C0, by subst hW0; (repeat' (first | with_reducible exact Blk.new_ (by first | rfl | (simp; done) | (simp; omega)) | with_reducible refine Blk.alloc_ ?_ | with_reducible refine Blk.drew ?_ | with_reducible refine Blk.drewN ?_ _ | with_reducible refine Blk.far_ ?_ (by first | (simp; done) | (simp; omega) | omega) | with_reducible apply Blk.set_eq | rfl)), by subst hW0; (repeat' (first | with_reducible exact Blk.new_ (by first | rfl | (simp; done) | (simp; omega)) | with_reducible refine Blk.alloc_ ?_ | with_reducible refine Blk.drew ?_ | with_reducible refine Blk.drewN ?_ _ | with_reducible refine Blk.far_ ?_ (by first | (simp; done) | (simp; omega) | omega) | with_reducible apply Blk.set_eq | rfl)), by subst hW0; (repeat' (first | with_reducible exact Blk.new_ (by first | rfl | (simp; done) | (simp; omega)) | with_reducible refine Blk.alloc_ ?_ | with_reducible refine Blk.drew ?_ | with_reducible refine Blk.drewN ?_ _ | with_reducible refine Blk.far_ ?_ (by first | (simp; done) | (simp; omega) | omega) | with_reducible apply Blk.set_eq | rfl)), isV_chg HD.out C0 (by intro x hx; cases hx), HG.out⟩)
    clear hW0
    go_loopw [9] (fun iv wr => ∃ (j : Nat) (f : VF) (x : VD n), iv = .int .i64 (j : Int) ∧ j ≤ path.length ∧ Hid (pathR path dv = pathR (path.drop j) x) ∧ Hid (PathI N n w wr 2 ⟨#[]⟩ ap path.length cp i s f x)) (fun iv _ => path.length - (intOf iv).toNat)
    case atStart => exact ⟨0, _, dv, rfl, Nat.zero_le _, hide rfl, HI⟩
    case round =>
      obtain ⟨j, ⟨kx, ix, sx, ax, nx, cx, bx, mx, ex⟩, x, rfl, hjl, hq, hI⟩ := hrel
      clear HI
      have KA := hI.out.arg
      have KV := hI.out.val
      have hsw := hI.out.chg.size
      have hI0 : w.heap.size + 3 < wr.heap.size := KV.lt
      have k0 := KA.cell 0; have k1 := KA.cell 1; have k2 := KA.cell 2; have k3 := KA.cell 3; have k4 := KA.cell 4; simp at k0 k1 k2 k3 k4
      have v0 := KV.cell 0; have v1 := KV.cell 1; have v2 := KV.cell 2; have v3 := KV.cell 3; have v4 := KV.cell 4; simp at v0 v1 v2 v3 v4
      have lA := KA.lt
      have lV := KV.lt
      clear KA KV
      have hN9 := HN.out
      by_cases hlt : j < path.length
      · obtain ⟨p, hp⟩ : ∃ p, path[j]? = some p := ⟨_, List.getElem?_eq_getElem hlt⟩
        obtain ⟨b, off, rfl, hb, hu, hc⟩ := HP.out j p hp
        have hc := (cellB (hI.out.chg.block b hb (by simp)) _).trans hc
        have hbr := Nat.lt_of_lt_of_le hb hsw
        have hdr : path.drop j = p :: path.drop (j + 1) := by rw [List.drop_eq_getElem_cons hlt]; congr 1; rw [List.getElem?_eq_getElem hlt] at hp; injection hp
        have HDR := hide hdr
        have HLT := hide hlt
        have cF := hide (fun W (hW : Below wr.heap.size wr W) => refField_any n (lowN N) (lasts_N N) _ x p W (isV_bel hI.out.is hW) (small_of_mass _ _ hI.out.good.1))
        have hji : (j : Int) < (path.length : Int) := by omega
        have hj9 : j < 1048576 := by omega
        rcases field_fine hI.out.good p with ⟨y, hy, gy⟩ | ⟨E, hy, hE⟩
        · have cF1 : Hid (∀ W, Below wr.heap.size wr W → Calls Tryz.prog 39 #[.agg (vCells kx ix sx ax nx cx bx mx ex), .string ⟨p.toArray⟩] W fun e w' => ∃ f : VF, e = .returned (.tuple #[.agg (vCells f.k f.i f.s f.a f.n f.c f.a2 f.n2 f.c2), .int .i64 0]) ∧ IsV (lowN N) w' (n + 1) f.val y ∧ Below W.heap.size W w') := hide (by
            intro W hW
            refine (cF.out W hW).mono ?_
            rintro e w' ⟨v', rfl, ht, hb⟩
            have ht2 := tells_up ht
            rw [hy] at ht2
            have h2 : (fieldR x p).2 = 0 := congrArg Prod.snd hy
            obtain ⟨f, rfl⟩ := IsV.shape (show IsV (lowN N) w' (n + 1) v' y from ht2)
            exact ⟨f, by rw [h2], ht2, hb⟩)
          clear cF hp hu hdr hlt hjl
          go_wp2_with fail
          refine wp_region_held (S := fun W => Below wr.heap.size wr W) (by kernel_rfl) ?_
          change wpAnyH _ _ _ _ _ _ _ _ (World.drew _)
          have hD : Below wr.heap.size wr wr.drew := (Below.refl _ _).drew
          refine wpAnyH_take (i := 0) (v := .agg (vCells kx ix sx ax nx cx bx mx ex)) rfl (by kernel_rfl) (by kernel_rfl) (by kernel_rfl) (fun _ _ _ h => h) (Or.inl ⟨by rfl, by
            intro W hW
            have KV := hI.out.val.chg (Chg.of_below (S := []) hW) (by simp)
            have q0 := KV.cell 0; have q1 := KV.cell 1; have q2 := KV.cell 2; have q3 := KV.cell 3; have q4 := KV.cell 4; simp at q0 q1 q2 q3 q4
            clear KV
            go_simp⟩) hD ?_
          refine wpAnyH_take (i := 1) (v := .pointer (some ⟨w.heap.size + 1, 2, none⟩)) rfl (by kernel_rfl) (by kernel_rfl) (by kernel_rfl) (fun _ _ _ h => h) (Or.inl ⟨by rfl, by intro W hW; go_simp⟩) hD ?_
          refine wpAnyH_take (i := 2) (v := .slice (some ⟨b, off, none⟩) path.length cp) rfl (by kernel_rfl) (by kernel_rfl) (by kernel_rfl) (fun _ _ _ h => h) (Or.inl ⟨by rfl, by
            intro W hW
            have KA := hI.out.arg.chg (Chg.of_below (S := []) hW) (by simp)
            have q0 := KA.cell 0; have q1 := KA.cell 1; have q2 := KA.cell 2; have q3 := KA.cell 3; have q4 := KA.cell 4; simp at q0 q1 q2 q3 q4
            clear KA
            go_simp⟩) hD ?_
          refine wpAnyH_take (i := 3) (v := .int .i64 (j : Int)) rfl (by kernel_rfl) (by kernel_rfl) (by kernel_rfl) (fun _ _ _ h => h) (Or.inl ⟨by rfl, by intro W hW; go_simp⟩) hD ?_
          refine wpAnyH_take (i := 4) (v := .pointer (some ⟨b, off + j, none⟩)) rfl (by kernel_rfl) (by kernel_rfl) (by kernel_rfl) (fun _ _ _ h => h) (Or.inl ⟨by rfl, by intro W hW; go_simp⟩) hD ?_
          refine wpAnyH_take (i := 5) (v := .string ⟨p.toArray⟩) rfl (by kernel_rfl) (by kernel_rfl) (by kernel_rfl) (fun _ _ _ h => h) (Or.inl ⟨by rfl, by
            intro W hW
            have q0 := (cellB (hW.block b hbr) _).trans hc
            go_simp⟩) hD ?_
          refine wpAnyH_all (rs := [6, 10]) (by kernel_rfl) (by simp) ?_
          intro i0 hi0
          simp only [List.mem_cons, List.mem_nil_iff, or_false] at hi0
          rcases hi0 with rfl | rfl
          · refine wpOp_enter 39 #[.agg (vCells kx ix sx ax nx cx bx mx ex), .string ⟨p.toArray⟩] rfl (by rfl) (by go_simp) ?_
            refine (cF1.out _ hD).mono ?_
            rintro e w1 ⟨⟨kf, jf, sf, af, nf, cf, bf, mf, ef⟩, rfl, hv, hb1⟩
            have hB1 := below_step hD hb1
            refine ⟨_, rfl, hB1, ?_⟩
            refine wpAnyH_take (i := 7) (v := .tuple #[.agg (vCells kf jf sf af nf cf bf mf ef), .int .i64 0]) rfl (by kernel_rfl) (by kernel_rfl) (by kernel_rfl) (fun _ _ _ h => h) (Or.inl ⟨by rfl, by intro W hW; go_simp⟩) hB1 ?_
            refine wpAnyH_take (i := 8) (v := .agg (vCells kf jf sf af nf cf bf mf ef)) rfl (by kernel_rfl) (by kernel_rfl) (by kernel_rfl) (fun _ _ _ h => h) (Or.inl ⟨by rfl, by intro W hW; go_simp⟩) hB1 ?_
            refine wpAnyH_take (i := 9) (v := .int .i64 0) rfl (by kernel_rfl) (by kernel_rfl) (by kernel_rfl) (fun _ _ _ h => h) (Or.inl ⟨by rfl, by intro W hW; go_simp⟩) hB1 ?_
            refine wpAnyH_all (rs := [10]) (by kernel_rfl) (by simp) ?_
            intro i0 hi0
            simp only [List.mem_cons, List.mem_nil_iff, or_false] at hi0
            subst hi0
            obtain ⟨w2, hw2⟩ : ∃ w2, w1.alloc (.cells (vCells 0 0 ⟨#[]⟩ none 0 0 none 0 0) 26) = w2 := ⟨_, rfl⟩
            have hb2 : Below w1.heap.size w1 w2 := by rw [← hw2]; exact (Below.refl _ _).alloc (Nat.le_refl _) _
            have hB2 := below_step hB1 hb2
            have KZ : Blk w2 w1.heap.size 26 (vCells 0 0 ⟨#[]⟩ none 0 0 none 0 0) := by rw [← hw2]; exact Blk.new w1 _ _
            refine wpOp_does (v := .pointer (some ⟨w1.heap.size, 0, none⟩)) (w' := w2) rfl (by rfl) (by rw [← hw2]; go_simp) ⟨hB2, ?_⟩
            clear hw2
            have hv := isV_bel hv hb2
            have hg : wr.heap.size ≤ w1.heap.size := hB1.size
            obtain ⟨g, hgd⟩ : ∃ g, w1.heap.size = g := ⟨_, rfl⟩
            rw [hgd] at KZ hg
            rw [hgd]
            clear hgd hb1 hb2 hB1
            have hNg : N ≤ g := by omega
            obtain ⟨W3, hW3⟩ : ∃ W3, set5 w2 g (.int .i64 kf) (.int .i64 jf) (.string sf) (.slice af nf cf) (.slice bf mf ef) = W3 := ⟨_, rfl⟩
            have C3 : Chg [g] w2 W3 := by rw [← hW3]; unfold set5; (repeat' (first | with_reducible exact Chg.refl _ _ | with_reducible refine Chg.alloc ?_ _ | with_reducible refine Chg.drew ?_ | with_reducible refine Chg.drewN ?_ _ | with_reducible refine Chg.set_ ?_ _ _ (by first | (simp; done) | (simp; omega) | omega)))
            have K10 : Blk W3 g 26 (vCells kf jf sf af nf cf bf mf ef) := by rw [← hW3]; exact set5_blk KZ _ _ _ _ _
            have hB3 : Below wr.heap.size wr W3 := by
              skip
              exact (((Chg.of_below (S := []) hB2).mono (S' := [g]) (by simp)).trans C3 (by simp)).to_below (Nat.le_refl _) (by intro x hx; simp at hx; omega)
            refine wpAnyH_all (rs := [11]) (by kernel_rfl) (by simp) ?_
            intro i0 hi0
            simp only [List.mem_cons, List.mem_nil_iff, or_false] at hi0
            subst hi0
            refine wpOp_skips (w' := W3) rfl (by rfl) (by
              rw [← hW3]
              clear hW3 K10 C3 hB3
              have q0 := KZ.cell 0; have q1 := KZ.cell 1; have q2 := KZ.cell 2; have q3 := KZ.cell 3; have q4 := KZ.cell 4; simp at q0 q1 q2 q3 q4
              have y0 := KZ.frozen 0; have y1 := KZ.frozen 1; have y2 := KZ.frozen 2; have y3 := KZ.frozen 3; have y4 := KZ.frozen 4
              have lz := KZ.lt
              clear KZ
              go_simp) ⟨hB3, ?_⟩
            refine wpAnyH_take (i := 12) (v := .int .i64 0) rfl (by kernel_rfl) (by kernel_rfl) (by kernel_rfl) (fun _ _ _ h => h) (Or.inl ⟨by rfl, by intro W hW; go_simp⟩) hB3 ?_
            refine wpAnyH_done (by kernel_rfl) ?_ _
            have hv3 := isV_chg hv C3 (by intro x hx; simp at hx; subst hx; exact hNg)
            clear hv
            clear hW3 C3 KZ hB2 hD
            have hB := hide hB3
            have hI3 : Hid (PathI N n w W3 2 ⟨#[]⟩ (some ⟨b, off, none⟩) path.length cp i s ⟨kx, ix, sx, ax, nx, cx, bx, mx, ex⟩ x) := hide ⟨hI.out.chg.below hB3, hI.out.arg.chg (Chg.of_below (S := []) hB3) (by simp), hI.out.res.chg (Chg.of_below (S := []) hB3) (by simp), hI.out.val.chg (Chg.of_below (S := []) hB3) (by simp), isV_bel hI.out.is hB3, hI.out.good⟩
            clear hB3 hI k0 k1 k2 k3 k4 v0 v1 v2 v3 v4 lA lV
            have hne : w.heap.size + 3 ≠ g := by have := hsw; have := hI0; omega
            have KV3 := hI3.out.val
            have HK10 := hide K10
            have lV := KV3.lt
            have lG := K10.lt
            have q0 := K10.cell 0; have q1 := K10.cell 1; have q2 := K10.cell 2; have q3 := K10.cell 3; have q4 := K10.cell 4; simp at q0 q1 q2 q3 q4
            have v0 := KV3.cell 0; have v1 := KV3.cell 1; have v2 := KV3.cell 2; have v3 := KV3.cell 3; have v4 := KV3.cell 4; simp at v0 v1 v2 v3 v4
            have y0 := KV3.frozen 0; have y1 := KV3.frozen 1; have y2 := KV3.frozen 2; have y3 := KV3.frozen 3; have y4 := KV3.frozen 4
            clear KV3 K10
            go_wp2_with fail
            have hlt := HLT.out
            go_roundw
            case rel =>
              refine ⟨j + 1, ⟨kf, jf, sf, af, nf, cf, bf, mf, ef⟩, y, by go_num, by omega, hide (by rw [hq.out, HDR.out]; exact pathR_cons hy), ?_⟩
              refine name_it (C := fun W4 => Hid (PathI N n w W4 2 ⟨#[]⟩ (some ⟨b, off, none⟩) path.length cp i s ⟨kf, jf, sf, af, nf, cf, bf, mf, ef⟩ y)) fun W4 hW4 => ?_
              have C4 : Chg [w.heap.size + 3] W3 W4 := by subst hW4; (repeat' (first | with_reducible exact Chg.refl _ _ | with_reducible refine Chg.alloc ?_ _ | with_reducible refine Chg.drew ?_ | with_reducible refine Chg.drewN ?_ _ | with_reducible refine Chg.set_ ?_ _ _ (by first | (simp; done) | (simp; omega) | omega)))
              have KV4 : Blk W4 (w.heap.size + 3) 26 (vCells kf jf sf af nf cf bf mf ef) := by subst hW4; (repeat' (first | with_reducible exact hI3.out.val | with_reducible exact Blk.new_ (by first | rfl | (simp; done) | (simp; omega)) | with_reducible refine Blk.alloc_ ?_ | with_reducible refine Blk.drew ?_ | with_reducible refine Blk.drewN ?_ _ | with_reducible refine Blk.far_ ?_ (by first | (simp; done) | (simp; omega) | omega) | with_reducible apply Blk.set_eq | rfl))
              clear hW4
              refine hide ⟨?_, hI3.out.arg.chg C4 (by simp), hI3.out.res.chg C4 (by simp), KV4, isV_chg hv3 C4 (by intro x hx; simp at hx; have := HN.out; omega), gy⟩
              exact ((hI3.out.chg.mono (S' := [w.heap.size + 3]) (by simp)).trans C4 (by simp)).mono (by intro x hx; simp at hx; subst hx; exact .inr (by omega))
            case measure => simp [intOf]; omega
          · obtain ⟨w1, hw1⟩ : ∃ w1, wr.drew.alloc (.cells (vCells 0 0 ⟨#[]⟩ none 0 0 none 0 0) 26) = w1 := ⟨_, rfl⟩
            have hB1 : Below wr.heap.size wr w1 := by rw [← hw1]; exact hD.alloc (Nat.le_refl _) _
            have KZ : Blk w1 wr.heap.size 26 (vCells 0 0 ⟨#[]⟩ none 0 0 none 0 0) := by rw [← hw1]; exact Blk.new wr.drew _ _
            refine wpOp_does (v := .pointer (some ⟨wr.heap.size, 0, none⟩)) (w' := w1) rfl (by rfl) (by rw [← hw1]; go_simp) ⟨hB1, ?_⟩
            clear hw1
            refine wpAnyH_all (rs := [6]) (by kernel_rfl) (by simp) ?_
            intro i0 hi0
            simp only [List.mem_cons, List.mem_nil_iff, or_false] at hi0
            subst hi0
            refine wpOp_enter 39 #[.agg (vCells kx ix sx ax nx cx bx mx ex), .string ⟨p.toArray⟩] rfl (by rfl) (by go_simp) ?_
            refine (cF1.out _ hB1).mono ?_
            rintro e w2 ⟨⟨kf, jf, sf, af, nf, cf, bf, mf, ef⟩, rfl, hv, hb1⟩
            have hB2 := below_step hB1 hb1
            refine ⟨_, rfl, hB2, ?_⟩
            have KZ := KZ.chg (Chg.of_below (S := []) hb1) (by simp)
            have hg : wr.heap.size ≤ wr.heap.size := Nat.le_refl _
            obtain ⟨g, hgd⟩ : ∃ g, wr.heap.size = g := ⟨_, rfl⟩
            rw [hgd] at KZ hB2 hD
            have hg : wr.heap.size ≤ g := by omega
            rw [hgd]
            clear hb1 hB1
            have hNg : N ≤ g := by omega
            refine wpAnyH_take (i := 7) (v := .tuple #[.agg (vCells kf jf sf af nf cf bf mf ef), .int .i64 0]) rfl (by kernel_rfl) (by kernel_rfl) (by kernel_rfl) (fun _ _ _ h => h) (Or.inl ⟨by rfl, by intro W hW; go_simp⟩) hB2 ?_
            refine wpAnyH_take (i := 8) (v := .agg (vCells kf jf sf af nf cf bf mf ef)) rfl (by kernel_rfl) (by kernel_rfl) (by kernel_rfl) (fun _ _ _ h => h) (Or.inl ⟨by rfl, by intro W hW; go_simp⟩) hB2 ?_
            refine wpAnyH_take (i := 9) (v := .int .i64 0) rfl (by kernel_rfl) (by kernel_rfl) (by kernel_rfl) (fun _ _ _ h => h) (Or.inl ⟨by rfl, by intro W hW; go_simp⟩) hB2 ?_
            obtain ⟨W3, hW3⟩ : ∃ W3, set5 w2 g (.int .i64 kf) (.int .i64 jf) (.string sf) (.slice af nf cf) (.slice bf mf ef) = W3 := ⟨_, rfl⟩
            have C3 : Chg [g] w2 W3 := by rw [← hW3]; unfold set5; (repeat' (first | with_reducible exact Chg.refl _ _ | with_reducible refine Chg.alloc ?_ _ | with_reducible refine Chg.drew ?_ | with_reducible refine Chg.drewN ?_ _ | with_reducible refine Chg.set_ ?_ _ _ (by first | (simp; done) | (simp; omega) | omega)))
            have K10 : Blk W3 g 26 (vCells kf jf sf af nf cf bf mf ef) := by rw [← hW3]; exact set5_blk KZ _ _ _ _ _
            have hB3 : Below g wr W3 := by
              rw [← hgd] at hB2 ⊢
              exact (((Chg.of_below (S := []) hB2).mono (S' := [g]) (by simp)).trans C3 (by simp)).to_below (Nat.le_refl _) (by intro x hx; simp at hx; omega)
            refine wpAnyH_all (rs := [11]) (by kernel_rfl) (by simp) ?_
            intro i0 hi0
            simp only [List.mem_cons, List.mem_nil_iff, or_false] at hi0
            subst hi0
            refine wpOp_skips (w' := W3) rfl (by rfl) (by
              rw [← hW3]
              clear hW3 K10 C3 hB3
              have q0 := KZ.cell 0; have q1 := KZ.cell 1; have q2 := KZ.cell 2; have q3 := KZ.cell 3; have q4 := KZ.cell 4; simp at q0 q1 q2 q3 q4
              have y0 := KZ.frozen 0; have y1 := KZ.frozen 1; have y2 := KZ.frozen 2; have y3 := KZ.frozen 3; have y4 := KZ.frozen 4
              have lz := KZ.lt
              clear KZ
              go_simp) ⟨hB3, ?_⟩
            refine wpAnyH_take (i := 12) (v := .int .i64 0) rfl (by kernel_rfl) (by kernel_rfl) (by kernel_rfl) (fun _ _ _ h => h) (Or.inl ⟨by rfl, by intro W hW; go_simp⟩) hB3 ?_
            refine wpAnyH_done (by kernel_rfl) ?_ _
            have hv3 := isV_chg hv C3 (by intro x hx; simp at hx; subst hx; exact hNg)
            clear hv
            clear hW3 C3 KZ hB2 hD
            rw [← hgd] at hB3
            clear hgd
            have hB := hide hB3
            have hI3 : Hid (PathI N n w W3 2 ⟨#[]⟩ (some ⟨b, off, none⟩) path.length cp i s ⟨kx, ix, sx, ax, nx, cx, bx, mx, ex⟩ x) := hide ⟨hI.out.chg.below hB3, hI.out.arg.chg (Chg.of_below (S := []) hB3) (by simp), hI.out.res.chg (Chg.of_below (S := []) hB3) (by simp), hI.out.val.chg (Chg.of_below (S := []) hB3) (by simp), isV_bel hI.out.is hB3, hI.out.good⟩
            clear hB3 hI k0 k1 k2 k3 k4 v0 v1 v2 v3 v4 lA lV
            have hne : w.heap.size + 3 ≠ g := by have := hsw; have := hI0; omega
            have KV3 := hI3.out.val
            have HK10 := hide K10
            have lV := KV3.lt
            have lG := K10.lt
            have q0 := K10.cell 0; have q1 := K10.cell 1; have q2 := K10.cell 2; have q3 := K10.cell 3; have q4 := K10.cell 4; simp at q0 q1 q2 q3 q4
            have v0 := KV3.cell 0; have v1 := KV3.cell 1; have v2 := KV3.cell 2; have v3 := KV3.cell 3; have v4 := KV3.cell 4; simp at v0 v1 v2 v3 v4
            have y0 := KV3.frozen 0; have y1 := KV3.frozen 1; have y2 := KV3.frozen 2; have y3 := KV3.frozen 3; have y4 := KV3.frozen 4
            clear KV3 K10
            go_wp2_with fail
            have hlt := HLT.out
            go_roundw
            case rel =>
              refine ⟨j + 1, ⟨kf, jf, sf, af, nf, cf, bf, mf, ef⟩, y, by go_num, by omega, hide (by rw [hq.out, HDR.out]; exact pathR_cons hy), ?_⟩
              refine name_it (C := fun W4 => Hid (PathI N n w W4 2 ⟨#[]⟩ (some ⟨b, off, none⟩) path.length cp i s ⟨kf, jf, sf, af, nf, cf, bf, mf, ef⟩ y)) fun W4 hW4 => ?_
              have C4 : Chg [w.heap.size + 3] W3 W4 := by subst hW4; (repeat' (first | with_reducible exact Chg.refl _ _ | with_reducible refine Chg.alloc ?_ _ | with_reducible refine Chg.drew ?_ | with_reducible refine Chg.drewN ?_ _ | with_reducible refine Chg.set_ ?_ _ _ (by first | (simp; done) | (simp; omega) | omega)))
              have KV4 : Blk W4 (w.heap.size + 3) 26 (vCells kf jf sf af nf cf bf mf ef) := by subst hW4; (repeat' (first | with_reducible exact hI3.out.val | with_reducible exact Blk.new_ (by first | rfl | (simp; done) | (simp; omega)) | with_reducible refine Blk.alloc_ ?_ | with_reducible refine Blk.drew ?_ | with_reducible refine Blk.drewN ?_ _ | with_reducible refine Blk.far_ ?_ (by first | (simp; done) | (simp; omega) | omega) | with_reducible apply Blk.set_eq | rfl))
              clear hW4
              refine hide ⟨?_, hI3.out.arg.chg C4 (by simp), hI3.out.res.chg C4 (by simp), KV4, isV_chg hv3 C4 (by intro x hx; simp at hx; have := HN.out; omega), gy⟩
              exact ((hI3.out.chg.mono (S' := [w.heap.size + 3]) (by simp)).trans C4 (by simp)).mono (by intro x hx; simp at hx; subst hx; exact .inr (by omega))
            case measure => simp [intOf]; omega
        · have cF1 : Hid (∀ W, Below wr.heap.size wr W → Calls Tryz.prog 39 #[.agg (vCells kx ix sx ax nx cx bx mx ex), .string ⟨p.toArray⟩] W fun e w' => e = .returned (.tuple #[.agg (vCells 0 0 ⟨#[]⟩ none 0 0 none 0 0), .int .i64 E]) ∧ Below W.heap.size W w') := hide (by
            intro W hW
            refine (cF.out W hW).mono ?_
            rintro e w' ⟨v', rfl, ht, hb⟩
            have ht2 := tells_up ht
            rw [hy] at ht2
            have h2 : (fieldR x p).2 = E := congrArg Prod.snd hy
            have ht3 : v' = zeroV := ht2
            subst ht3
            exact ⟨by rw [h2]; rfl, hb⟩)
          have eE : (E == 0) = false := by simpa using hE
          clear cF hp hu hdr hlt hjl hE
          go_wp2_with fail
          refine wp_region_held (S := fun W => Below wr.heap.size wr W) (by kernel_rfl) ?_
          change wpAnyH _ _ _ _ _ _ _ _ (World.drew _)
          have hD : Below wr.heap.size wr wr.drew := (Below.refl _ _).drew
          refine wpAnyH_take (i := 0) (v := .agg (vCells kx ix sx ax nx cx bx mx ex)) rfl (by kernel_rfl) (by kernel_rfl) (by kernel_rfl) (fun _ _ _ h => h) (Or.inl ⟨by rfl, by
            intro W hW
            have KV := hI.out.val.chg (Chg.of_below (S := []) hW) (by simp)
            have q0 := KV.cell 0; have q1 := KV.cell 1; have q2 := KV.cell 2; have q3 := KV.cell 3; have q4 := KV.cell 4; simp at q0 q1 q2 q3 q4
            clear KV
            go_simp⟩) hD ?_
          refine wpAnyH_take (i := 1) (v := .pointer (some ⟨w.heap.size + 1, 2, none⟩)) rfl (by kernel_rfl) (by kernel_rfl) (by kernel_rfl) (fun _ _ _ h => h) (Or.inl ⟨by rfl, by intro W hW; go_simp⟩) hD ?_
          refine wpAnyH_take (i := 2) (v := .slice (some ⟨b, off, none⟩) path.length cp) rfl (by kernel_rfl) (by kernel_rfl) (by kernel_rfl) (fun _ _ _ h => h) (Or.inl ⟨by rfl, by
            intro W hW
            have KA := hI.out.arg.chg (Chg.of_below (S := []) hW) (by simp)
            have q0 := KA.cell 0; have q1 := KA.cell 1; have q2 := KA.cell 2; have q3 := KA.cell 3; have q4 := KA.cell 4; simp at q0 q1 q2 q3 q4
            clear KA
            go_simp⟩) hD ?_
          refine wpAnyH_take (i := 3) (v := .int .i64 (j : Int)) rfl (by kernel_rfl) (by kernel_rfl) (by kernel_rfl) (fun _ _ _ h => h) (Or.inl ⟨by rfl, by intro W hW; go_simp⟩) hD ?_
          refine wpAnyH_take (i := 4) (v := .pointer (some ⟨b, off + j, none⟩)) rfl (by kernel_rfl) (by kernel_rfl) (by kernel_rfl) (fun _ _ _ h => h) (Or.inl ⟨by rfl, by intro W hW; go_simp⟩) hD ?_
          refine wpAnyH_take (i := 5) (v := .string ⟨p.toArray⟩) rfl (by kernel_rfl) (by kernel_rfl) (by kernel_rfl) (fun _ _ _ h => h) (Or.inl ⟨by rfl, by
            intro W hW
            have q0 := (cellB (hW.block b hbr) _).trans hc
            go_simp⟩) hD ?_
          refine wpAnyH_all (rs := [6, 10]) (by kernel_rfl) (by simp) ?_
          intro i0 hi0
          simp only [List.mem_cons, List.mem_nil_iff, or_false] at hi0
          rcases hi0 with rfl | rfl
          · refine wpOp_enter 39 #[.agg (vCells kx ix sx ax nx cx bx mx ex), .string ⟨p.toArray⟩] rfl (by rfl) (by go_simp) ?_
            refine (cF1.out _ hD).mono ?_
            rintro e w1 ⟨rfl, hb1⟩
            have hB1 := below_step hD hb1
            refine ⟨_, rfl, hB1, ?_⟩
            refine wpAnyH_take (i := 7) (v := .tuple #[.agg (vCells 0 0 ⟨#[]⟩ none 0 0 none 0 0), .int .i64 E]) rfl (by kernel_rfl) (by kernel_rfl) (by kernel_rfl) (fun _ _ _ h => h) (Or.inl ⟨by rfl, by intro W hW; go_simp⟩) hB1 ?_
            refine wpAnyH_take (i := 8) (v := .agg (vCells 0 0 ⟨#[]⟩ none 0 0 none 0 0)) rfl (by kernel_rfl) (by kernel_rfl) (by kernel_rfl) (fun _ _ _ h => h) (Or.inl ⟨by rfl, by intro W hW; go_simp⟩) hB1 ?_
            refine wpAnyH_take (i := 9) (v := .int .i64 E) rfl (by kernel_rfl) (by kernel_rfl) (by kernel_rfl) (fun _ _ _ h => h) (Or.inl ⟨by rfl, by intro W hW; go_simp⟩) hB1 ?_
            refine wpAnyH_all (rs := [10]) (by kernel_rfl) (by simp) ?_
            intro i0 hi0
            simp only [List.mem_cons, List.mem_nil_iff, or_false] at hi0
            subst hi0
            obtain ⟨w2, hw2⟩ : ∃ w2, w1.alloc (.cells (vCells 0 0 ⟨#[]⟩ none 0 0 none 0 0) 26) = w2 := ⟨_, rfl⟩
            have hb2 : Below w1.heap.size w1 w2 := by rw [← hw2]; exact (Below.refl _ _).alloc (Nat.le_refl _) _
            have hB2 := below_step hB1 hb2
            have KZ : Blk w2 w1.heap.size 26 (vCells 0 0 ⟨#[]⟩ none 0 0 none 0 0) := by rw [← hw2]; exact Blk.new w1 _ _
            refine wpOp_does (v := .pointer (some ⟨w1.heap.size, 0, none⟩)) (w' := w2) rfl (by rfl) (by rw [← hw2]; go_simp) ⟨hB2, ?_⟩
            clear hw2
            have hg : wr.heap.size ≤ w1.heap.size := hB1.size
            obtain ⟨g, hgd⟩ : ∃ g, w1.heap.size = g := ⟨_, rfl⟩
            rw [hgd] at KZ hg
            rw [hgd]
            clear hgd hb1 hb2 hB1
            have hNg : N ≤ g := by omega
            obtain ⟨W3, hW3⟩ : ∃ W3, set5 w2 g (.int .i64 0) (.int .i64 0) (.string ⟨#[]⟩) (.slice none 0 0) (.slice none 0 0) = W3 := ⟨_, rfl⟩
            have C3 : Chg [g] w2 W3 := by rw [← hW3]; unfold set5; (repeat' (first | with_reducible exact Chg.refl _ _ | with_reducible refine Chg.alloc ?_ _ | with_reducible refine Chg.drew ?_ | with_reducible refine Chg.drewN ?_ _ | with_reducible refine Chg.set_ ?_ _ _ (by first | (simp; done) | (simp; omega) | omega)))
            have K10 : Blk W3 g 26 (vCells 0 0 ⟨#[]⟩ none 0 0 none 0 0) := by rw [← hW3]; exact set5_blk KZ _ _ _ _ _
            have hB3 : Below wr.heap.size wr W3 := by
              skip
              exact (((Chg.of_below (S := []) hB2).mono (S' := [g]) (by simp)).trans C3 (by simp)).to_below (Nat.le_refl _) (by intro x hx; simp at hx; omega)
            refine wpAnyH_all (rs := [11]) (by kernel_rfl) (by simp) ?_
            intro i0 hi0
            simp only [List.mem_cons, List.mem_nil_iff, or_false] at hi0
            subst hi0
            refine wpOp_skips (w' := W3) rfl (by rfl) (by
              rw [← hW3]
              clear hW3 K10 C3 hB3
              have q0 := KZ.cell 0; have q1 := KZ.cell 1; have q2 := KZ.cell 2; have q3 := KZ.cell 3; have q4 := KZ.cell 4; simp at q0 q1 q2 q3 q4
              have y0 := KZ.frozen 0; have y1 := KZ.frozen 1; have y2 := KZ.frozen 2; have y3 := KZ.frozen 3; have y4 := KZ.frozen 4
              have lz := KZ.lt
              clear KZ
              go_simp) ⟨hB3, ?_⟩
            refine wpAnyH_take (i := 12) (v := .int .i64 E) rfl (by kernel_rfl) (by kernel_rfl) (by kernel_rfl) (fun _ _ _ h => h) (Or.inl ⟨by rfl, by intro W hW; go_simp⟩) hB3 ?_
            refine wpAnyH_done (by kernel_rfl) ?_ _
            clear hW3 C3 KZ hB2 hD
            have KR3 := hI.out.res.chg (Chg.of_below (S := []) hB3) (by simp)
            have HC3 := hide (hI.out.chg.below hB3)
            have hne : w.heap.size + 2 ≠ g := by have := hsw; have := hI0; omega
            have HR3 := hide KR3
            have lR := KR3.lt
            have lG := K10.lt
            have q0 := KR3.cell 0; have q1 := KR3.cell 1; have q2 := KR3.cell 2; have q3 := KR3.cell 3; have q4 := KR3.cell 4; simp at q0 q1 q2 q3 q4
            have y0 := KR3.frozen 0; have y1 := KR3.frozen 1; have y2 := KR3.frozen 2; have y3 := KR3.frozen 3; have y4 := KR3.frozen 4
            clear KR3 K10 k0 k1 k2 k3 k4 v0 v1 v2 v3 v4 lA lV
            go_wp2_with fail
            refine name_postO fun W4 hW4 => ?_
            have C4 : Chg [w.heap.size + 2] W3 W4 := by subst hW4; (repeat' (first | with_reducible exact Chg.refl _ _ | with_reducible refine Chg.alloc ?_ _ | with_reducible refine Chg.drew ?_ | with_reducible refine Chg.drewN ?_ _ | with_reducible refine Chg.set_ ?_ _ _ (by first | (simp; done) | (simp; omega) | omega)))
            have KR4 : Blk W4 (w.heap.size + 2) 26 (vCells 0 0 ⟨#[]⟩ none 0 0 none 0 0) := by subst hW4; (repeat' (first | with_reducible exact HR3.out | with_reducible exact Blk.new_ (by first | rfl | (simp; done) | (simp; omega)) | with_reducible refine Blk.alloc_ ?_ | with_reducible refine Blk.drew ?_ | with_reducible refine Blk.drewN ?_ _ | with_reducible refine Blk.far_ ?_ (by first | (simp; done) | (simp; omega) | omega) | with_reducible apply Blk.set_eq | rfl))
            clear hW4 q0 q1 q2 q3 q4 y0 y1 y2 y3 y4
            have k0 := KR4.cell 0; have k1 := KR4.cell 1; have k2 := KR4.cell 2; have k3 := KR4.cell 3; have k4 := KR4.cell 4; simp at k0 k1 k2 k3 k4
            clear KR4
            simp [bodyPost, results, Tryz.results24, go_sem, k0, k1, k2, k3, k4]
            rw [hq.out, HDR.out, pathR_err hy]
            refine ⟨_, rfl, rfl, (((HC3.out.mono (S' := [w.heap.size + 2]) (by simp)).trans C4 (by simp)).mono (S' := []) (by intro x hx; simp at hx; subst hx; exact .inr (by omega))).bel⟩
          · obtain ⟨w1, hw1⟩ : ∃ w1, wr.drew.alloc (.cells (vCells 0 0 ⟨#[]⟩ none 0 0 none 0 0) 26) = w1 := ⟨_, rfl⟩
            have hB1 : Below wr.heap.size wr w1 := by rw [← hw1]; exact hD.alloc (Nat.le_refl _) _
            have KZ : Blk w1 wr.heap.size 26 (vCells 0 0 ⟨#[]⟩ none 0 0 none 0 0) := by rw [← hw1]; exact Blk.new wr.drew _ _
            refine wpOp_does (v := .pointer (some ⟨wr.heap.size, 0, none⟩)) (w' := w1) rfl (by rfl) (by rw [← hw1]; go_simp) ⟨hB1, ?_⟩
            clear hw1
            refine wpAnyH_all (rs := [6]) (by kernel_rfl) (by simp) ?_
            intro i0 hi0
            simp only [List.mem_cons, List.mem_nil_iff, or_false] at hi0
            subst hi0
            refine wpOp_enter 39 #[.agg (vCells kx ix sx ax nx cx bx mx ex), .string ⟨p.toArray⟩] rfl (by rfl) (by go_simp) ?_
            refine (cF1.out _ hB1).mono ?_
            rintro e w2 ⟨rfl, hb1⟩
            have hB2 := below_step hB1 hb1
            refine ⟨_, rfl, hB2, ?_⟩
            have KZ := KZ.chg (Chg.of_below (S := []) hb1) (by simp)
            have hg : wr.heap.size ≤ wr.heap.size := Nat.le_refl _
            obtain ⟨g, hgd⟩ : ∃ g, wr.heap.size = g := ⟨_, rfl⟩
            rw [hgd] at KZ hB2 hD
            have hg : wr.heap.size ≤ g := by omega
            rw [hgd]
            clear hb1 hB1
            have hNg : N ≤ g := by omega
            refine wpAnyH_take (i := 7) (v := .tuple #[.agg (vCells 0 0 ⟨#[]⟩ none 0 0 none 0 0), .int .i64 E]) rfl (by kernel_rfl) (by kernel_rfl) (by kernel_rfl) (fun _ _ _ h => h) (Or.inl ⟨by rfl, by intro W hW; go_simp⟩) hB2 ?_
            refine wpAnyH_take (i := 8) (v := .agg (vCells 0 0 ⟨#[]⟩ none 0 0 none 0 0)) rfl (by kernel_rfl) (by kernel_rfl) (by kernel_rfl) (fun _ _ _ h => h) (Or.inl ⟨by rfl, by intro W hW; go_simp⟩) hB2 ?_
            refine wpAnyH_take (i := 9) (v := .int .i64 E) rfl (by kernel_rfl) (by kernel_rfl) (by kernel_rfl) (fun _ _ _ h => h) (Or.inl ⟨by rfl, by intro W hW; go_simp⟩) hB2 ?_
            obtain ⟨W3, hW3⟩ : ∃ W3, set5 w2 g (.int .i64 0) (.int .i64 0) (.string ⟨#[]⟩) (.slice none 0 0) (.slice none 0 0) = W3 := ⟨_, rfl⟩
            have C3 : Chg [g] w2 W3 := by rw [← hW3]; unfold set5; (repeat' (first | with_reducible exact Chg.refl _ _ | with_reducible refine Chg.alloc ?_ _ | with_reducible refine Chg.drew ?_ | with_reducible refine Chg.drewN ?_ _ | with_reducible refine Chg.set_ ?_ _ _ (by first | (simp; done) | (simp; omega) | omega)))
            have K10 : Blk W3 g 26 (vCells 0 0 ⟨#[]⟩ none 0 0 none 0 0) := by rw [← hW3]; exact set5_blk KZ _ _ _ _ _
            have hB3 : Below g wr W3 := by
              rw [← hgd] at hB2 ⊢
              exact (((Chg.of_below (S := []) hB2).mono (S' := [g]) (by simp)).trans C3 (by simp)).to_below (Nat.le_refl _) (by intro x hx; simp at hx; omega)
            refine wpAnyH_all (rs := [11]) (by kernel_rfl) (by simp) ?_
            intro i0 hi0
            simp only [List.mem_cons, List.mem_nil_iff, or_false] at hi0
            subst hi0
            refine wpOp_skips (w' := W3) rfl (by rfl) (by
              rw [← hW3]
              clear hW3 K10 C3 hB3
              have q0 := KZ.cell 0; have q1 := KZ.cell 1; have q2 := KZ.cell 2; have q3 := KZ.cell 3; have q4 := KZ.cell 4; simp at q0 q1 q2 q3 q4
              have y0 := KZ.frozen 0; have y1 := KZ.frozen 1; have y2 := KZ.frozen 2; have y3 := KZ.frozen 3; have y4 := KZ.frozen 4
              have lz := KZ.lt
              clear KZ
              go_simp) ⟨hB3, ?_⟩
            refine wpAnyH_take (i := 12) (v := .int .i64 E) rfl (by kernel_rfl) (by kernel_rfl) (by kernel_rfl) (fun _ _ _ h => h) (Or.inl ⟨by rfl, by intro W hW; go_simp⟩) hB3 ?_
            refine wpAnyH_done (by kernel_rfl) ?_ _
            clear hW3 C3 KZ hB2 hD
            rw [← hgd] at hB3
            clear hgd
            have KR3 := hI.out.res.chg (Chg.of_below (S := []) hB3) (by simp)
            have HC3 := hide (hI.out.chg.below hB3)
            have hne : w.heap.size + 2 ≠ g := by have := hsw; have := hI0; omega
            have HR3 := hide KR3
            have lR := KR3.lt
            have lG := K10.lt
            have q0 := KR3.cell 0; have q1 := KR3.cell 1; have q2 := KR3.cell 2; have q3 := KR3.cell 3; have q4 := KR3.cell 4; simp at q0 q1 q2 q3 q4
            have y0 := KR3.frozen 0; have y1 := KR3.frozen 1; have y2 := KR3.frozen 2; have y3 := KR3.frozen 3; have y4 := KR3.frozen 4
            clear KR3 K10 k0 k1 k2 k3 k4 v0 v1 v2 v3 v4 lA lV
            go_wp2_with fail
            refine name_postO fun W4 hW4 => ?_
            have C4 : Chg [w.heap.size + 2] W3 W4 := by subst hW4; (repeat' (first | with_reducible exact Chg.refl _ _ | with_reducible refine Chg.alloc ?_ _ | with_reducible refine Chg.drew ?_ | with_reducible refine Chg.drewN ?_ _ | with_reducible refine Chg.set_ ?_ _ _ (by first | (simp; done) | (simp; omega) | omega)))
            have KR4 : Blk W4 (w.heap.size + 2) 26 (vCells 0 0 ⟨#[]⟩ none 0 0 none 0 0) := by subst hW4; (repeat' (first | with_reducible exact HR3.out | with_reducible exact Blk.new_ (by first | rfl | (simp; done) | (simp; omega)) | with_reducible refine Blk.alloc_ ?_ | with_reducible refine Blk.drew ?_ | with_reducible refine Blk.drewN ?_ _ | with_reducible refine Blk.far_ ?_ (by first | (simp; done) | (simp; omega) | omega) | with_reducible apply Blk.set_eq | rfl))
            clear hW4 q0 q1 q2 q3 q4 y0 y1 y2 y3 y4
            have k0 := KR4.cell 0; have k1 := KR4.cell 1; have k2 := KR4.cell 2; have k3 := KR4.cell 3; have k4 := KR4.cell 4; simp at k0 k1 k2 k3 k4
            clear KR4
            simp [bodyPost, results, Tryz.results24, go_sem, k0, k1, k2, k3, k4]
            rw [hq.out, HDR.out, pathR_err hy]
            refine ⟨_, rfl, rfl, (((HC3.out.mono (S' := [w.heap.size + 2]) (by simp)).trans C4 (by simp)).mono (S' := []) (by intro x hx; simp at hx; subst hx; exact .inr (by omega))).bel⟩
      · obtain rfl : j = path.length := by omega
        have hte := hide (show pathR path dv = (some x, 0) by rw [hq.out, List.drop_length]; rfl)
        clear hlt hjl
        have hif : decide ((path.length : Int) < (path.length : Int)) = false := by simp
        have KR3 := hI.out.res
        have HR3 := hide KR3
        have lR := KR3.lt
        have q0 := KR3.cell 0; have q1 := KR3.cell 1; have q2 := KR3.cell 2; have q3 := KR3.cell 3; have q4 := KR3.cell 4; simp at q0 q1 q2 q3 q4
        have y0 := KR3.frozen 0; have y1 := KR3.frozen 1; have y2 := KR3.frozen 2; have y3 := KR3.frozen 3; have y4 := KR3.frozen 4
        clear KR3
        go_wp2_with fail
        refine name_postO fun W4 hW4 => ?_
        have C4 : Chg [w.heap.size + 2] wr W4 := by subst hW4; (repeat' (first | with_reducible exact Chg.refl _ _ | with_reducible refine Chg.alloc ?_ _ | with_reducible refine Chg.drew ?_ | with_reducible refine Chg.drewN ?_ _ | with_reducible refine Chg.set_ ?_ _ _ (by first | (simp; done) | (simp; omega) | omega)))
        have KR4 : Blk W4 (w.heap.size + 2) 26 (vCells kx ix sx ax nx cx bx mx ex) := by subst hW4; (repeat' (first | with_reducible exact HR3.out | with_reducible exact Blk.new_ (by first | rfl | (simp; done) | (simp; omega)) | with_reducible refine Blk.alloc_ ?_ | with_reducible refine Blk.drew ?_ | with_reducible refine Blk.drewN ?_ _ | with_reducible refine Blk.far_ ?_ (by first | (simp; done) | (simp; omega) | omega) | with_reducible apply Blk.set_eq | rfl))
        clear hW4 q0 q1 q2 q3 q4 y0 y1 y2 y3 y4 k0 k1 k2 k3 k4 v0 v1 v2 v3 v4
        have k0 := KR4.cell 0; have k1 := KR4.cell 1; have k2 := KR4.cell 2; have k3 := KR4.cell 3; have k4 := KR4.cell 4; simp at k0 k1 k2 k3 k4
        clear KR4
        simp [bodyPost, results, Tryz.results24, go_sem, k0, k1, k2, k3, k4]
        rw [hte.out]
        refine ⟨_, rfl, isV_chg hI.out.is C4 (by intro x hx; simp at hx; have := HN.out; omega), (((hI.out.chg.mono (S' := [w.heap.size + 2]) (by simp)).trans C4 (by simp)).mono (S' := []) (by intro x hx; simp at hx; subst hx; exact .inr (by omega))).bel⟩
end Go.Proofs.YtnepogddjinpoaaGreatDoor

namespace Go.Proofs.YtnepogddjinpoaaGreatDoor
open Go.RowKit
set_option linter.unusedVariables false
set_option linter.unusedSimpArgs false

/-- Arg's boxes within its loop over variables. -/
structure VarI (N n : Nat) (w wr : World) (E : Array Value) (nm : ByteArray) (ap : Option Addr) (np cp : Nat) (i : Int) (s : ByteArray) (f : VF) (x : VD n) : Prop where
  chg : Chg [] w wr
  env : Blk wr w.heap.size 29 E
  arg : Blk wr (w.heap.size + 1) 35 #[.int .i64 2, .string nm, .slice ap np cp, .int .i64 i, .string s]
  res : Blk wr (w.heap.size + 2) 26 (vCells 0 0 ⟨#[]⟩ none 0 0 none 0 0)
  val : Blk wr (w.heap.size + 3) 26 (vCells f.k f.i f.s f.a f.n f.c f.a2 f.n2 f.c2)
  is : IsV (lowN N) wr (n + 1) f.val x
theorem last_app {n : Nat} (nm : List UInt8) : ∀ (l : List (List UInt8 × VD n)) (y : List UInt8 × VD n) (r : Option (VD n)), lastOf nm (l ++ [y]) r = if y.1 = nm then some y.2 else lastOf nm l r := by
  intro l
  induction l with
  | nil => intro y r; rfl
  | cons x l ih => intro y r; exact ih y _
set_option maxHeartbeats 8000000 in
set_option maxRecDepth 100000 in
theorem cArg_var (n N : Nat) (r d : VF) (av : Option Addr) (vars : List (List UInt8 × VD n)) (cv : Nat) (name : List UInt8) (ap : Option Addr) (path : List (List UInt8)) (cp : Nat) (i : Int) (s : ByteArray) (w : World) (rv : VD n) (hne : name ≠ []) (hN : N ≤ w.heap.size) (hr : IsV (lowN N) w (n + 1) r.val rv) (hV : AtR (NamedR (n + 1)) 6 (lowN N) w av vars) (gv : ∀ x ∈ vars, GoodD x.2) (hvl : vars.length ≤ 1048576) (hP : StrsAt (lowN N) w ap path) (hpl : path.length ≤ 1048576) :
    Calls Tryz.prog 24 #[.agg (envCells r d av vars.length cv), .agg #[.int .i64 2, .string ⟨name.toArray⟩, .slice ap path.length cp, .int .i64 i, .string s]] w fun e w' => TellsR N n w (match lastOf name vars none with | some v => pathR path v | none => (none, 31)) e w' := by
  have HP := hide hP; have HRR := hide hr; have HV := hide hV; have HGV := hide gv; have HPL := hide hpl; have HN := hide hN
  clear hP hr hV gv hN
  obtain ⟨kd, id, sd, ad, nd, cd, bd, md, ed⟩ := d
  obtain ⟨kr, ir, sr, ar, nr, cr, br, mr, er⟩ := r
  obtain ⟨nm, hnm⟩ : ∃ nm : ByteArray, (⟨name.toArray⟩ : ByteArray) = nm := ⟨_, rfl⟩
  have hnl : nm.toList = name := by rw [← hnm, ByteArray.toList_eq]
  have z1 : nm.toList.isEmpty = false := by rw [hnl]; cases name with | nil => exact absurd rfl hne | cons a b => rfl
  have z2 : (nm.toList == []) = false := by rw [hnl]; simpa using hne
  rw [hnm]
  obtain ⟨E, hE⟩ : ∃ E, envCells (⟨kr, ir, sr, ar, nr, cr, br, mr, er⟩ : VF) ⟨kd, id, sd, ad, nd, cd, bd, md, ed⟩ av vars.length cv = E := ⟨_, rfl⟩
  have HE := hide hE
  clear hE
  obtain ⟨R, hR⟩ : ∃ R, (match lastOf name vars none with | some v => pathR path v | none => (none, 31)) = R := ⟨_, rfl⟩
  rw [hR]
  have HR0 := hide hR
  clear hR
  have HNM := hide hnm
  have HNL := hide hnl
  clear hnm hnl hne
  go_enter Tryz.func24, Tryz.ntmps24
  go_wp2_with fail
  refine name_codeC fun W0 hW0 => ?_
  have HI : Hid (VarI N n w W0 E nm ap path.length cp i s ⟨kr, ir, sr, ar, nr, cr, br, mr, er⟩ rv) := hide (by
    have C0 : Chg [] w W0 := by subst hW0; (repeat' (first | with_reducible exact Chg.refl _ _ | with_reducible refine Chg.alloc ?_ _ | with_reducible refine Chg.drew ?_ | with_reducible refine Chg.drewN ?_ _ | with_reducible refine Chg.set_ ?_ _ _ (by first | (simp; done) | (simp; omega) | omega)))
    exact ⟨C0, by rw [← HE.out]; subst hW0; (repeat' (first | with_reducible exact Blk.new_ (by first | rfl | (simp; done) | (simp; omega)) | with_reducible refine Blk.alloc_ ?_ | with_reducible refine Blk.drew ?_ | with_reducible refine Blk.drewN ?_ _ | with_reducible refine Blk.far_ ?_ (by first | (simp; done) | (simp; omega) | omega) | with_reducible apply Blk.set_eq | rfl)), by subst hW0; (repeat' (first | with_reducible exact Blk.new_ (by first | rfl | (simp; done) | (simp; omega)) | with_reducible refine Blk.alloc_ ?_ | with_reducible refine Blk.drew ?_ | with_reducible refine Blk.drewN ?_ _ | with_reducible refine Blk.far_ ?_ (by first | (simp; done) | (simp; omega) | omega) | with_reducible apply Blk.set_eq | rfl)), by subst hW0; (repeat' (first | with_reducible exact Blk.new_ (by first | rfl | (simp; done) | (simp; omega)) | with_reducible refine Blk.alloc_ ?_ | with_reducible refine Blk.drew ?_ | with_reducible refine Blk.drewN ?_ _ | with_reducible refine Blk.far_ ?_ (by first | (simp; done) | (simp; omega) | omega) | with_reducible apply Blk.set_eq | rfl)), by subst hW0; (repeat' (first | with_reducible exact Blk.new_ (by first | rfl | (simp; done) | (simp; omega)) | with_reducible refine Blk.alloc_ ?_ | with_reducible refine Blk.drew ?_ | with_reducible refine Blk.drewN ?_ _ | with_reducible refine Blk.far_ ?_ (by first | (simp; done) | (simp; omega) | omega) | with_reducible apply Blk.set_eq | rfl)), isV_chg HRR.out C0 (by intro x hx; cases hx)⟩)
  clear hW0
  go_loopw [7, 8] (fun qv iv wr => ∃ (j : Nat) (f : VF) (x : Option (VD n)), iv = .int .i64 (j : Int) ∧ qv = .bool x.isSome ∧ j ≤ vars.length ∧ Hid (lastOf name (vars.take j) none = x) ∧ Hid (VarI N n w wr E nm ap path.length cp i s f (x.getD rv))) (fun _ iv _ => vars.length - (intOf iv).toNat)
  case atStart => exact ⟨0, _, none, rfl, rfl, Nat.zero_le _, hide rfl, HI⟩
  case round =>
    obtain ⟨j, ⟨kx, ix, sx, ax, nx, cx, bx, mx, ex⟩, x, rfl, rfl, hjl, hq, hI⟩ := hrel
    clear HI
    have KE := hI.out.env
    have KA := hI.out.arg
    have hsw := hI.out.chg.size
    have hI0 : w.heap.size + 3 < wr.heap.size := hI.out.val.lt
    rw [← HE.out] at KE
    have k0 := KA.cell 0; have k1 := KA.cell 1; have k2 := KA.cell 2; have k3 := KA.cell 3; have k4 := KA.cell 4; simp at k0 k1 k2 k3 k4
    have z0 := KE.cell 0; have z1 := KE.cell 1; have z2 := KE.cell 2; have z3 := KE.cell 3; have z4 := KE.cell 4; have z5 := KE.cell 5; have z6 := KE.cell 6; have z7 := KE.cell 7; have z8 := KE.cell 8; have z9 := KE.cell 9; have z10 := KE.cell 10; simp at z0 z1 z2 z3 z4 z5 z6 z7 z8 z9 z10
    have lA := KA.lt
    have lE := KE.lt
    clear KA KE
    by_cases hlt : j < vars.length
    · obtain ⟨y, hy⟩ : ∃ y, vars[j]? = some y := ⟨_, List.getElem?_eq_getElem hlt⟩
      obtain ⟨b, off, vs, rfl, hb, hu, _, hcell, ⟨yv, rfl, hyV⟩⟩ := HV.out j y hy
      obtain ⟨ky, iy, sy, ay, ny, cy, by_, my, ey⟩ := yv
      have hblk := hI.out.chg.block b hb (by simp)
      have f0 := (cellB hblk _).trans (hcell 0 _ rfl)
      have f1 := (cellB hblk _).trans (hcell 1 _ rfl)
      have f2 := (cellB hblk _).trans (hcell 2 _ rfl)
      have f3 := (cellB hblk _).trans (hcell 3 _ rfl)
      have f4 := (cellB hblk _).trans (hcell 4 _ rfl)
      have f5 := (cellB hblk _).trans (hcell 5 _ rfl)
      simp only [Nat.add_zero] at f0
      have hbr := Nat.lt_of_lt_of_le hb hsw
      have htk : lastOf name (vars.take (j + 1)) none = if y.1 = name then some y.2 else x := by
        rw [List.take_add_one, hy]
        simp only [Option.toList_some]
        rw [last_app, hq.out]
      have HTK := hide htk
      have HY := hide hyV
      have HLT := hide hlt
      have hji : (j : Int) < (vars.length : Int) := by omega
      have hj9 : j < 1048576 := by omega
      have hyl : (⟨y.1.toArray⟩ : ByteArray).toList = y.1 := by rw [ByteArray.toList_eq]
      clear htk hyV hcell hy hu hblk hlt hjl
      have KV := hI.out.val
      have lV := KV.lt
      have v0 := KV.cell 0; have v1 := KV.cell 1; have v2 := KV.cell 2; have v3 := KV.cell 3; have v4 := KV.cell 4; simp at v0 v1 v2 v3 v4
      have u0 := KV.frozen 0; have u1 := KV.frozen 1; have u2 := KV.frozen 2; have u3 := KV.frozen 3; have u4 := KV.frozen 4
      clear KV
      by_cases hn : y.1 = name
      · have g1 : (y.1 == nm.toList) = true := by rw [HNL.out]; simpa using hn
        have HHN := hide hn
        clear hn hyl
        go_wp2_with fail
        go_quiet (fail)
        go_wp2_with fail
        have hlt := HLT.out
        go_roundw
        case rel =>
          refine ⟨j + 1, ⟨ky, iy, sy, ay, ny, cy, by_, my, ey⟩, some y.2, by go_num, rfl, by omega, hide (by rw [HTK.out, if_pos HHN.out]), ?_⟩
          refine name_it (C := fun W4 => Hid (VarI N n w W4 E nm ap path.length cp i s ⟨ky, iy, sy, ay, ny, cy, by_, my, ey⟩ y.2)) fun W4 hW4 => ?_
          have C4 : Chg [w.heap.size + 3] wr W4 := by subst hW4; (repeat' (first | with_reducible exact Chg.refl _ _ | with_reducible refine Chg.alloc ?_ _ | with_reducible refine Chg.drew ?_ | with_reducible refine Chg.drewN ?_ _ | with_reducible refine Chg.set_ ?_ _ _ (by first | (simp; done) | (simp; omega) | omega)))
          have KV4 : Blk W4 (w.heap.size + 3) 26 (vCells ky iy sy ay ny cy by_ my ey) := by subst hW4; (repeat' (first | with_reducible exact hI.out.val | with_reducible exact Blk.new_ (by first | rfl | (simp; done) | (simp; omega)) | with_reducible refine Blk.alloc_ ?_ | with_reducible refine Blk.drew ?_ | with_reducible refine Blk.drewN ?_ _ | with_reducible refine Blk.far_ ?_ (by first | (simp; done) | (simp; omega) | omega) | with_reducible apply Blk.set_eq | rfl))
          clear hW4
          refine hide ⟨?_, hI.out.env.chg C4 (by simp), hI.out.arg.chg C4 (by simp), hI.out.res.chg C4 (by simp), KV4, isV_chg (isV_chg HY.out hI.out.chg (by intro x hx; cases hx)) C4 (by intro x hx; simp at hx; have := HN.out; omega)⟩
          exact ((hI.out.chg.mono (S' := [w.heap.size + 3]) (by simp)).trans C4 (by simp)).mono (by intro x hx; simp at hx; subst hx; exact .inr (by omega))
        case measure => simp [intOf]; omega
      · have g1 : (y.1 == nm.toList) = false := by rw [HNL.out]; simpa using hn
        have HHN := hide hn
        clear hn hyl
        go_wp2_with fail
        go_quiet (fail)
        go_wp2_with fail
        have hlt := HLT.out
        go_roundw
        case rel =>
          refine ⟨j + 1, ⟨kx, ix, sx, ax, nx, cx, bx, mx, ex⟩, x, by go_num, rfl, by omega, hide (by rw [HTK.out, if_neg HHN.out]), ?_⟩
          refine name_it (C := fun W4 => Hid (VarI N n w W4 E nm ap path.length cp i s ⟨kx, ix, sx, ax, nx, cx, bx, mx, ex⟩ (x.getD rv))) fun W4 hW4 => ?_
          have C4 : Chg [] wr W4 := by subst hW4; (repeat' (first | with_reducible exact Chg.refl _ _ | with_reducible refine Chg.alloc ?_ _ | with_reducible refine Chg.drew ?_ | with_reducible refine Chg.drewN ?_ _ | with_reducible refine Chg.set_ ?_ _ _ (by first | (simp; done) | (simp; omega) | omega)))
          clear hW4
          exact hide ⟨hI.out.chg.trans C4 (by simp), hI.out.env.chg C4 (by simp), hI.out.arg.chg C4 (by simp), hI.out.res.chg C4 (by simp), hI.out.val.chg C4 (by simp), isV_chg hI.out.is C4 (by intro x hx; cases hx)⟩
        case measure => simp [intOf]; omega
    · obtain rfl : j = vars.length := by omega
      have hif : decide ((vars.length : Int) < (vars.length : Int)) = false := by simp
      have hte : lastOf name vars none = x := by rw [← hq.out, List.take_of_length_le (Nat.le_refl _)]
      have HTE := hide hte
      clear hlt hjl hte
      cases x with
      | none =>
        have KR3 := hI.out.res
        have HR3 := hide KR3
        have lR := KR3.lt
        have q0 := KR3.cell 0; have q1 := KR3.cell 1; have q2 := KR3.cell 2; have q3 := KR3.cell 3; have q4 := KR3.cell 4; simp at q0 q1 q2 q3 q4
        have y0 := KR3.frozen 0; have y1 := KR3.frozen 1; have y2 := KR3.frozen 2; have y3 := KR3.frozen 3; have y4 := KR3.frozen 4
        clear KR3
        go_wp2_with fail
        refine name_postO fun W4 hW4 => ?_
        have C4 : Chg [w.heap.size + 2] wr W4 := by subst hW4; (repeat' (first | with_reducible exact Chg.refl _ _ | with_reducible refine Chg.alloc ?_ _ | with_reducible refine Chg.drew ?_ | with_reducible refine Chg.drewN ?_ _ | with_reducible refine Chg.set_ ?_ _ _ (by first | (simp; done) | (simp; omega) | omega)))
        have KR4 : Blk W4 (w.heap.size + 2) 26 (vCells 0 0 ⟨#[]⟩ none 0 0 none 0 0) := by subst hW4; (repeat' (first | with_reducible exact HR3.out | with_reducible exact Blk.new_ (by first | rfl | (simp; done) | (simp; omega)) | with_reducible refine Blk.alloc_ ?_ | with_reducible refine Blk.drew ?_ | with_reducible refine Blk.drewN ?_ _ | with_reducible refine Blk.far_ ?_ (by first | (simp; done) | (simp; omega) | omega) | with_reducible apply Blk.set_eq | rfl))
        clear hW4 q0 q1 q2 q3 q4 y0 y1 y2 y3 y4 k0 k1 k2 k3 k4 z0 z1 z2 z3 z4 z5 z6 z7 z8 z9 z10
        have k0 := KR4.cell 0; have k1 := KR4.cell 1; have k2 := KR4.cell 2; have k3 := KR4.cell 3; have k4 := KR4.cell 4; simp at k0 k1 k2 k3 k4
        clear KR4
        simp [bodyPost, results, Tryz.results24, go_sem, k0, k1, k2, k3, k4]
        have hR := HR0.out
        rw [HTE.out] at hR
        subst hR
        refine ⟨_, rfl, rfl, (((hI.out.chg.mono (S' := [w.heap.size + 2]) (by simp)).trans C4 (by simp)).mono (S' := []) (by intro x hx; simp at hx; subst hx; exact .inr (by omega))).bel⟩
      | some dv =>
        have hgd : GoodD dv := last_good name vars none HGV.out (by intro d h; cases h) dv HTE.out
        have HI : Hid (PathI N n w wr 2 nm ap path.length cp i s ⟨kx, ix, sx, ax, nx, cx, bx, mx, ex⟩ dv) := hide ⟨hI.out.chg, hI.out.arg, hI.out.res, hI.out.val, hI.out.is, hgd⟩
        have hR := HR0.out
        rw [HTE.out] at hR
        have hR : pathR path dv = R := hR
        subst hR
        go_wp2_with fail
        clear k0 k1 k2 k3 k4 z0 z1 z2 z3 z4 z5 z6 z7 z8 z9 z10 lA lE hI HTE hq hgd
        go_loopw [9] (fun iv wr => ∃ (j : Nat) (f : VF) (x : VD n), iv = .int .i64 (j : Int) ∧ j ≤ path.length ∧ Hid (pathR path dv = pathR (path.drop j) x) ∧ Hid (PathI N n w wr 2 nm ap path.length cp i s f x)) (fun iv _ => path.length - (intOf iv).toNat)
        case atStart => exact ⟨0, _, dv, rfl, Nat.zero_le _, hide rfl, HI⟩
        case round =>
          obtain ⟨j, ⟨kx, ix, sx, ax, nx, cx, bx, mx, ex⟩, x, rfl, hjl, hq, hI⟩ := hrel
          clear HI
          have KA := hI.out.arg
          have KV := hI.out.val
          have hsw := hI.out.chg.size
          have hI0 : w.heap.size + 3 < wr.heap.size := KV.lt
          have k0 := KA.cell 0; have k1 := KA.cell 1; have k2 := KA.cell 2; have k3 := KA.cell 3; have k4 := KA.cell 4; simp at k0 k1 k2 k3 k4
          have v0 := KV.cell 0; have v1 := KV.cell 1; have v2 := KV.cell 2; have v3 := KV.cell 3; have v4 := KV.cell 4; simp at v0 v1 v2 v3 v4
          have lA := KA.lt
          have lV := KV.lt
          clear KA KV
          have hN9 := HN.out
          by_cases hlt : j < path.length
          · obtain ⟨p, hp⟩ : ∃ p, path[j]? = some p := ⟨_, List.getElem?_eq_getElem hlt⟩
            obtain ⟨b, off, rfl, hb, hu, hc⟩ := HP.out j p hp
            have hc := (cellB (hI.out.chg.block b hb (by simp)) _).trans hc
            have hbr := Nat.lt_of_lt_of_le hb hsw
            have hdr : path.drop j = p :: path.drop (j + 1) := by rw [List.drop_eq_getElem_cons hlt]; congr 1; rw [List.getElem?_eq_getElem hlt] at hp; injection hp
            have HDR := hide hdr
            have HLT := hide hlt
            have cF := hide (fun W (hW : Below wr.heap.size wr W) => refField_any n (lowN N) (lasts_N N) _ x p W (isV_bel hI.out.is hW) (small_of_mass _ _ hI.out.good.1))
            have hji : (j : Int) < (path.length : Int) := by omega
            have hj9 : j < 1048576 := by omega
            rcases field_fine hI.out.good p with ⟨y, hy, gy⟩ | ⟨E, hy, hE⟩
            · have cF1 : Hid (∀ W, Below wr.heap.size wr W → Calls Tryz.prog 39 #[.agg (vCells kx ix sx ax nx cx bx mx ex), .string ⟨p.toArray⟩] W fun e w' => ∃ f : VF, e = .returned (.tuple #[.agg (vCells f.k f.i f.s f.a f.n f.c f.a2 f.n2 f.c2), .int .i64 0]) ∧ IsV (lowN N) w' (n + 1) f.val y ∧ Below W.heap.size W w') := hide (by
                intro W hW
                refine (cF.out W hW).mono ?_
                rintro e w' ⟨v', rfl, ht, hb⟩
                have ht2 := tells_up ht
                rw [hy] at ht2
                have h2 : (fieldR x p).2 = 0 := congrArg Prod.snd hy
                obtain ⟨f, rfl⟩ := IsV.shape (show IsV (lowN N) w' (n + 1) v' y from ht2)
                exact ⟨f, by rw [h2], ht2, hb⟩)
              clear cF hp hu hdr hlt hjl
              go_wp2_with fail
              refine wp_region_held (S := fun W => Below wr.heap.size wr W) (by kernel_rfl) ?_
              change wpAnyH _ _ _ _ _ _ _ _ (World.drew _)
              have hD : Below wr.heap.size wr wr.drew := (Below.refl _ _).drew
              refine wpAnyH_take (i := 0) (v := .agg (vCells kx ix sx ax nx cx bx mx ex)) rfl (by kernel_rfl) (by kernel_rfl) (by kernel_rfl) (fun _ _ _ h => h) (Or.inl ⟨by rfl, by
                intro W hW
                have KV := hI.out.val.chg (Chg.of_below (S := []) hW) (by simp)
                have q0 := KV.cell 0; have q1 := KV.cell 1; have q2 := KV.cell 2; have q3 := KV.cell 3; have q4 := KV.cell 4; simp at q0 q1 q2 q3 q4
                clear KV
                go_simp⟩) hD ?_
              refine wpAnyH_take (i := 1) (v := .pointer (some ⟨w.heap.size + 1, 2, none⟩)) rfl (by kernel_rfl) (by kernel_rfl) (by kernel_rfl) (fun _ _ _ h => h) (Or.inl ⟨by rfl, by intro W hW; go_simp⟩) hD ?_
              refine wpAnyH_take (i := 2) (v := .slice (some ⟨b, off, none⟩) path.length cp) rfl (by kernel_rfl) (by kernel_rfl) (by kernel_rfl) (fun _ _ _ h => h) (Or.inl ⟨by rfl, by
                intro W hW
                have KA := hI.out.arg.chg (Chg.of_below (S := []) hW) (by simp)
                have q0 := KA.cell 0; have q1 := KA.cell 1; have q2 := KA.cell 2; have q3 := KA.cell 3; have q4 := KA.cell 4; simp at q0 q1 q2 q3 q4
                clear KA
                go_simp⟩) hD ?_
              refine wpAnyH_take (i := 3) (v := .int .i64 (j : Int)) rfl (by kernel_rfl) (by kernel_rfl) (by kernel_rfl) (fun _ _ _ h => h) (Or.inl ⟨by rfl, by intro W hW; go_simp⟩) hD ?_
              refine wpAnyH_take (i := 4) (v := .pointer (some ⟨b, off + j, none⟩)) rfl (by kernel_rfl) (by kernel_rfl) (by kernel_rfl) (fun _ _ _ h => h) (Or.inl ⟨by rfl, by intro W hW; go_simp⟩) hD ?_
              refine wpAnyH_take (i := 5) (v := .string ⟨p.toArray⟩) rfl (by kernel_rfl) (by kernel_rfl) (by kernel_rfl) (fun _ _ _ h => h) (Or.inl ⟨by rfl, by
                intro W hW
                have q0 := (cellB (hW.block b hbr) _).trans hc
                go_simp⟩) hD ?_
              refine wpAnyH_all (rs := [6, 10]) (by kernel_rfl) (by simp) ?_
              intro i0 hi0
              simp only [List.mem_cons, List.mem_nil_iff, or_false] at hi0
              rcases hi0 with rfl | rfl
              · refine wpOp_enter 39 #[.agg (vCells kx ix sx ax nx cx bx mx ex), .string ⟨p.toArray⟩] rfl (by rfl) (by go_simp) ?_
                refine (cF1.out _ hD).mono ?_
                rintro e w1 ⟨⟨kf, jf, sf, af, nf, cf, bf, mf, ef⟩, rfl, hv, hb1⟩
                have hB1 := below_step hD hb1
                refine ⟨_, rfl, hB1, ?_⟩
                refine wpAnyH_take (i := 7) (v := .tuple #[.agg (vCells kf jf sf af nf cf bf mf ef), .int .i64 0]) rfl (by kernel_rfl) (by kernel_rfl) (by kernel_rfl) (fun _ _ _ h => h) (Or.inl ⟨by rfl, by intro W hW; go_simp⟩) hB1 ?_
                refine wpAnyH_take (i := 8) (v := .agg (vCells kf jf sf af nf cf bf mf ef)) rfl (by kernel_rfl) (by kernel_rfl) (by kernel_rfl) (fun _ _ _ h => h) (Or.inl ⟨by rfl, by intro W hW; go_simp⟩) hB1 ?_
                refine wpAnyH_take (i := 9) (v := .int .i64 0) rfl (by kernel_rfl) (by kernel_rfl) (by kernel_rfl) (fun _ _ _ h => h) (Or.inl ⟨by rfl, by intro W hW; go_simp⟩) hB1 ?_
                refine wpAnyH_all (rs := [10]) (by kernel_rfl) (by simp) ?_
                intro i0 hi0
                simp only [List.mem_cons, List.mem_nil_iff, or_false] at hi0
                subst hi0
                obtain ⟨w2, hw2⟩ : ∃ w2, w1.alloc (.cells (vCells 0 0 ⟨#[]⟩ none 0 0 none 0 0) 26) = w2 := ⟨_, rfl⟩
                have hb2 : Below w1.heap.size w1 w2 := by rw [← hw2]; exact (Below.refl _ _).alloc (Nat.le_refl _) _
                have hB2 := below_step hB1 hb2
                have KZ : Blk w2 w1.heap.size 26 (vCells 0 0 ⟨#[]⟩ none 0 0 none 0 0) := by rw [← hw2]; exact Blk.new w1 _ _
                refine wpOp_does (v := .pointer (some ⟨w1.heap.size, 0, none⟩)) (w' := w2) rfl (by rfl) (by rw [← hw2]; go_simp) ⟨hB2, ?_⟩
                clear hw2
                have hv := isV_bel hv hb2
                have hg : wr.heap.size ≤ w1.heap.size := hB1.size
                obtain ⟨g, hgd⟩ : ∃ g, w1.heap.size = g := ⟨_, rfl⟩
                rw [hgd] at KZ hg
                rw [hgd]
                clear hgd hb1 hb2 hB1
                have hNg : N ≤ g := by omega
                obtain ⟨W3, hW3⟩ : ∃ W3, set5 w2 g (.int .i64 kf) (.int .i64 jf) (.string sf) (.slice af nf cf) (.slice bf mf ef) = W3 := ⟨_, rfl⟩
                have C3 : Chg [g] w2 W3 := by rw [← hW3]; unfold set5; (repeat' (first | with_reducible exact Chg.refl _ _ | with_reducible refine Chg.alloc ?_ _ | with_reducible refine Chg.drew ?_ | with_reducible refine Chg.drewN ?_ _ | with_reducible refine Chg.set_ ?_ _ _ (by first | (simp; done) | (simp; omega) | omega)))
                have K10 : Blk W3 g 26 (vCells kf jf sf af nf cf bf mf ef) := by rw [← hW3]; exact set5_blk KZ _ _ _ _ _
                have hB3 : Below wr.heap.size wr W3 := by
                  skip
                  exact (((Chg.of_below (S := []) hB2).mono (S' := [g]) (by simp)).trans C3 (by simp)).to_below (Nat.le_refl _) (by intro x hx; simp at hx; omega)
                refine wpAnyH_all (rs := [11]) (by kernel_rfl) (by simp) ?_
                intro i0 hi0
                simp only [List.mem_cons, List.mem_nil_iff, or_false] at hi0
                subst hi0
                refine wpOp_skips (w' := W3) rfl (by rfl) (by
                  rw [← hW3]
                  clear hW3 K10 C3 hB3
                  have q0 := KZ.cell 0; have q1 := KZ.cell 1; have q2 := KZ.cell 2; have q3 := KZ.cell 3; have q4 := KZ.cell 4; simp at q0 q1 q2 q3 q4
                  have y0 := KZ.frozen 0; have y1 := KZ.frozen 1; have y2 := KZ.frozen 2; have y3 := KZ.frozen 3; have y4 := KZ.frozen 4
                  have lz := KZ.lt
                  clear KZ
                  go_simp) ⟨hB3, ?_⟩
                refine wpAnyH_take (i := 12) (v := .int .i64 0) rfl (by kernel_rfl) (by kernel_rfl) (by kernel_rfl) (fun _ _ _ h => h) (Or.inl ⟨by rfl, by intro W hW; go_simp⟩) hB3 ?_
                refine wpAnyH_done (by kernel_rfl) ?_ _
                have hv3 := isV_chg hv C3 (by intro x hx; simp at hx; subst hx; exact hNg)
                clear hv
                clear hW3 C3 KZ hB2 hD
                have hB := hide hB3
                have hI3 : Hid (PathI N n w W3 2 nm (some ⟨b, off, none⟩) path.length cp i s ⟨kx, ix, sx, ax, nx, cx, bx, mx, ex⟩ x) := hide ⟨hI.out.chg.below hB3, hI.out.arg.chg (Chg.of_below (S := []) hB3) (by simp), hI.out.res.chg (Chg.of_below (S := []) hB3) (by simp), hI.out.val.chg (Chg.of_below (S := []) hB3) (by simp), isV_bel hI.out.is hB3, hI.out.good⟩
                clear hB3 hI k0 k1 k2 k3 k4 v0 v1 v2 v3 v4 lA lV
                have hne : w.heap.size + 3 ≠ g := by have := hsw; have := hI0; omega
                have KV3 := hI3.out.val
                have HK10 := hide K10
                have lV := KV3.lt
                have lG := K10.lt
                have q0 := K10.cell 0; have q1 := K10.cell 1; have q2 := K10.cell 2; have q3 := K10.cell 3; have q4 := K10.cell 4; simp at q0 q1 q2 q3 q4
                have v0 := KV3.cell 0; have v1 := KV3.cell 1; have v2 := KV3.cell 2; have v3 := KV3.cell 3; have v4 := KV3.cell 4; simp at v0 v1 v2 v3 v4
                have y0 := KV3.frozen 0; have y1 := KV3.frozen 1; have y2 := KV3.frozen 2; have y3 := KV3.frozen 3; have y4 := KV3.frozen 4
                clear KV3 K10
                go_wp2_with fail
                have hlt := HLT.out
                go_roundw
                case rel =>
                  refine ⟨j + 1, ⟨kf, jf, sf, af, nf, cf, bf, mf, ef⟩, y, by go_num, by omega, hide (by rw [hq.out, HDR.out]; exact pathR_cons hy), ?_⟩
                  refine name_it (C := fun W4 => Hid (PathI N n w W4 2 nm (some ⟨b, off, none⟩) path.length cp i s ⟨kf, jf, sf, af, nf, cf, bf, mf, ef⟩ y)) fun W4 hW4 => ?_
                  have C4 : Chg [w.heap.size + 3] W3 W4 := by subst hW4; (repeat' (first | with_reducible exact Chg.refl _ _ | with_reducible refine Chg.alloc ?_ _ | with_reducible refine Chg.drew ?_ | with_reducible refine Chg.drewN ?_ _ | with_reducible refine Chg.set_ ?_ _ _ (by first | (simp; done) | (simp; omega) | omega)))
                  have KV4 : Blk W4 (w.heap.size + 3) 26 (vCells kf jf sf af nf cf bf mf ef) := by subst hW4; (repeat' (first | with_reducible exact hI3.out.val | with_reducible exact Blk.new_ (by first | rfl | (simp; done) | (simp; omega)) | with_reducible refine Blk.alloc_ ?_ | with_reducible refine Blk.drew ?_ | with_reducible refine Blk.drewN ?_ _ | with_reducible refine Blk.far_ ?_ (by first | (simp; done) | (simp; omega) | omega) | with_reducible apply Blk.set_eq | rfl))
                  clear hW4
                  refine hide ⟨?_, hI3.out.arg.chg C4 (by simp), hI3.out.res.chg C4 (by simp), KV4, isV_chg hv3 C4 (by intro x hx; simp at hx; have := HN.out; omega), gy⟩
                  exact ((hI3.out.chg.mono (S' := [w.heap.size + 3]) (by simp)).trans C4 (by simp)).mono (by intro x hx; simp at hx; subst hx; exact .inr (by omega))
                case measure => simp [intOf]; omega
              · obtain ⟨w1, hw1⟩ : ∃ w1, wr.drew.alloc (.cells (vCells 0 0 ⟨#[]⟩ none 0 0 none 0 0) 26) = w1 := ⟨_, rfl⟩
                have hB1 : Below wr.heap.size wr w1 := by rw [← hw1]; exact hD.alloc (Nat.le_refl _) _
                have KZ : Blk w1 wr.heap.size 26 (vCells 0 0 ⟨#[]⟩ none 0 0 none 0 0) := by rw [← hw1]; exact Blk.new wr.drew _ _
                refine wpOp_does (v := .pointer (some ⟨wr.heap.size, 0, none⟩)) (w' := w1) rfl (by rfl) (by rw [← hw1]; go_simp) ⟨hB1, ?_⟩
                clear hw1
                refine wpAnyH_all (rs := [6]) (by kernel_rfl) (by simp) ?_
                intro i0 hi0
                simp only [List.mem_cons, List.mem_nil_iff, or_false] at hi0
                subst hi0
                refine wpOp_enter 39 #[.agg (vCells kx ix sx ax nx cx bx mx ex), .string ⟨p.toArray⟩] rfl (by rfl) (by go_simp) ?_
                refine (cF1.out _ hB1).mono ?_
                rintro e w2 ⟨⟨kf, jf, sf, af, nf, cf, bf, mf, ef⟩, rfl, hv, hb1⟩
                have hB2 := below_step hB1 hb1
                refine ⟨_, rfl, hB2, ?_⟩
                have KZ := KZ.chg (Chg.of_below (S := []) hb1) (by simp)
                have hg : wr.heap.size ≤ wr.heap.size := Nat.le_refl _
                obtain ⟨g, hgd⟩ : ∃ g, wr.heap.size = g := ⟨_, rfl⟩
                rw [hgd] at KZ hB2 hD
                have hg : wr.heap.size ≤ g := by omega
                rw [hgd]
                clear hb1 hB1
                have hNg : N ≤ g := by omega
                refine wpAnyH_take (i := 7) (v := .tuple #[.agg (vCells kf jf sf af nf cf bf mf ef), .int .i64 0]) rfl (by kernel_rfl) (by kernel_rfl) (by kernel_rfl) (fun _ _ _ h => h) (Or.inl ⟨by rfl, by intro W hW; go_simp⟩) hB2 ?_
                refine wpAnyH_take (i := 8) (v := .agg (vCells kf jf sf af nf cf bf mf ef)) rfl (by kernel_rfl) (by kernel_rfl) (by kernel_rfl) (fun _ _ _ h => h) (Or.inl ⟨by rfl, by intro W hW; go_simp⟩) hB2 ?_
                refine wpAnyH_take (i := 9) (v := .int .i64 0) rfl (by kernel_rfl) (by kernel_rfl) (by kernel_rfl) (fun _ _ _ h => h) (Or.inl ⟨by rfl, by intro W hW; go_simp⟩) hB2 ?_
                obtain ⟨W3, hW3⟩ : ∃ W3, set5 w2 g (.int .i64 kf) (.int .i64 jf) (.string sf) (.slice af nf cf) (.slice bf mf ef) = W3 := ⟨_, rfl⟩
                have C3 : Chg [g] w2 W3 := by rw [← hW3]; unfold set5; (repeat' (first | with_reducible exact Chg.refl _ _ | with_reducible refine Chg.alloc ?_ _ | with_reducible refine Chg.drew ?_ | with_reducible refine Chg.drewN ?_ _ | with_reducible refine Chg.set_ ?_ _ _ (by first | (simp; done) | (simp; omega) | omega)))
                have K10 : Blk W3 g 26 (vCells kf jf sf af nf cf bf mf ef) := by rw [← hW3]; exact set5_blk KZ _ _ _ _ _
                have hB3 : Below g wr W3 := by
                  rw [← hgd] at hB2 ⊢
                  exact (((Chg.of_below (S := []) hB2).mono (S' := [g]) (by simp)).trans C3 (by simp)).to_below (Nat.le_refl _) (by intro x hx; simp at hx; omega)
                refine wpAnyH_all (rs := [11]) (by kernel_rfl) (by simp) ?_
                intro i0 hi0
                simp only [List.mem_cons, List.mem_nil_iff, or_false] at hi0
                subst hi0
                refine wpOp_skips (w' := W3) rfl (by rfl) (by
                  rw [← hW3]
                  clear hW3 K10 C3 hB3
                  have q0 := KZ.cell 0; have q1 := KZ.cell 1; have q2 := KZ.cell 2; have q3 := KZ.cell 3; have q4 := KZ.cell 4; simp at q0 q1 q2 q3 q4
                  have y0 := KZ.frozen 0; have y1 := KZ.frozen 1; have y2 := KZ.frozen 2; have y3 := KZ.frozen 3; have y4 := KZ.frozen 4
                  have lz := KZ.lt
                  clear KZ
                  go_simp) ⟨hB3, ?_⟩
                refine wpAnyH_take (i := 12) (v := .int .i64 0) rfl (by kernel_rfl) (by kernel_rfl) (by kernel_rfl) (fun _ _ _ h => h) (Or.inl ⟨by rfl, by intro W hW; go_simp⟩) hB3 ?_
                refine wpAnyH_done (by kernel_rfl) ?_ _
                have hv3 := isV_chg hv C3 (by intro x hx; simp at hx; subst hx; exact hNg)
                clear hv
                clear hW3 C3 KZ hB2 hD
                rw [← hgd] at hB3
                clear hgd
                have hB := hide hB3
                have hI3 : Hid (PathI N n w W3 2 nm (some ⟨b, off, none⟩) path.length cp i s ⟨kx, ix, sx, ax, nx, cx, bx, mx, ex⟩ x) := hide ⟨hI.out.chg.below hB3, hI.out.arg.chg (Chg.of_below (S := []) hB3) (by simp), hI.out.res.chg (Chg.of_below (S := []) hB3) (by simp), hI.out.val.chg (Chg.of_below (S := []) hB3) (by simp), isV_bel hI.out.is hB3, hI.out.good⟩
                clear hB3 hI k0 k1 k2 k3 k4 v0 v1 v2 v3 v4 lA lV
                have hne : w.heap.size + 3 ≠ g := by have := hsw; have := hI0; omega
                have KV3 := hI3.out.val
                have HK10 := hide K10
                have lV := KV3.lt
                have lG := K10.lt
                have q0 := K10.cell 0; have q1 := K10.cell 1; have q2 := K10.cell 2; have q3 := K10.cell 3; have q4 := K10.cell 4; simp at q0 q1 q2 q3 q4
                have v0 := KV3.cell 0; have v1 := KV3.cell 1; have v2 := KV3.cell 2; have v3 := KV3.cell 3; have v4 := KV3.cell 4; simp at v0 v1 v2 v3 v4
                have y0 := KV3.frozen 0; have y1 := KV3.frozen 1; have y2 := KV3.frozen 2; have y3 := KV3.frozen 3; have y4 := KV3.frozen 4
                clear KV3 K10
                go_wp2_with fail
                have hlt := HLT.out
                go_roundw
                case rel =>
                  refine ⟨j + 1, ⟨kf, jf, sf, af, nf, cf, bf, mf, ef⟩, y, by go_num, by omega, hide (by rw [hq.out, HDR.out]; exact pathR_cons hy), ?_⟩
                  refine name_it (C := fun W4 => Hid (PathI N n w W4 2 nm (some ⟨b, off, none⟩) path.length cp i s ⟨kf, jf, sf, af, nf, cf, bf, mf, ef⟩ y)) fun W4 hW4 => ?_
                  have C4 : Chg [w.heap.size + 3] W3 W4 := by subst hW4; (repeat' (first | with_reducible exact Chg.refl _ _ | with_reducible refine Chg.alloc ?_ _ | with_reducible refine Chg.drew ?_ | with_reducible refine Chg.drewN ?_ _ | with_reducible refine Chg.set_ ?_ _ _ (by first | (simp; done) | (simp; omega) | omega)))
                  have KV4 : Blk W4 (w.heap.size + 3) 26 (vCells kf jf sf af nf cf bf mf ef) := by subst hW4; (repeat' (first | with_reducible exact hI3.out.val | with_reducible exact Blk.new_ (by first | rfl | (simp; done) | (simp; omega)) | with_reducible refine Blk.alloc_ ?_ | with_reducible refine Blk.drew ?_ | with_reducible refine Blk.drewN ?_ _ | with_reducible refine Blk.far_ ?_ (by first | (simp; done) | (simp; omega) | omega) | with_reducible apply Blk.set_eq | rfl))
                  clear hW4
                  refine hide ⟨?_, hI3.out.arg.chg C4 (by simp), hI3.out.res.chg C4 (by simp), KV4, isV_chg hv3 C4 (by intro x hx; simp at hx; have := HN.out; omega), gy⟩
                  exact ((hI3.out.chg.mono (S' := [w.heap.size + 3]) (by simp)).trans C4 (by simp)).mono (by intro x hx; simp at hx; subst hx; exact .inr (by omega))
                case measure => simp [intOf]; omega
            · have cF1 : Hid (∀ W, Below wr.heap.size wr W → Calls Tryz.prog 39 #[.agg (vCells kx ix sx ax nx cx bx mx ex), .string ⟨p.toArray⟩] W fun e w' => e = .returned (.tuple #[.agg (vCells 0 0 ⟨#[]⟩ none 0 0 none 0 0), .int .i64 E]) ∧ Below W.heap.size W w') := hide (by
                intro W hW
                refine (cF.out W hW).mono ?_
                rintro e w' ⟨v', rfl, ht, hb⟩
                have ht2 := tells_up ht
                rw [hy] at ht2
                have h2 : (fieldR x p).2 = E := congrArg Prod.snd hy
                have ht3 : v' = zeroV := ht2
                subst ht3
                exact ⟨by rw [h2]; rfl, hb⟩)
              have eE : (E == 0) = false := by simpa using hE
              clear cF hp hu hdr hlt hjl hE
              go_wp2_with fail
              refine wp_region_held (S := fun W => Below wr.heap.size wr W) (by kernel_rfl) ?_
              change wpAnyH _ _ _ _ _ _ _ _ (World.drew _)
              have hD : Below wr.heap.size wr wr.drew := (Below.refl _ _).drew
              refine wpAnyH_take (i := 0) (v := .agg (vCells kx ix sx ax nx cx bx mx ex)) rfl (by kernel_rfl) (by kernel_rfl) (by kernel_rfl) (fun _ _ _ h => h) (Or.inl ⟨by rfl, by
                intro W hW
                have KV := hI.out.val.chg (Chg.of_below (S := []) hW) (by simp)
                have q0 := KV.cell 0; have q1 := KV.cell 1; have q2 := KV.cell 2; have q3 := KV.cell 3; have q4 := KV.cell 4; simp at q0 q1 q2 q3 q4
                clear KV
                go_simp⟩) hD ?_
              refine wpAnyH_take (i := 1) (v := .pointer (some ⟨w.heap.size + 1, 2, none⟩)) rfl (by kernel_rfl) (by kernel_rfl) (by kernel_rfl) (fun _ _ _ h => h) (Or.inl ⟨by rfl, by intro W hW; go_simp⟩) hD ?_
              refine wpAnyH_take (i := 2) (v := .slice (some ⟨b, off, none⟩) path.length cp) rfl (by kernel_rfl) (by kernel_rfl) (by kernel_rfl) (fun _ _ _ h => h) (Or.inl ⟨by rfl, by
                intro W hW
                have KA := hI.out.arg.chg (Chg.of_below (S := []) hW) (by simp)
                have q0 := KA.cell 0; have q1 := KA.cell 1; have q2 := KA.cell 2; have q3 := KA.cell 3; have q4 := KA.cell 4; simp at q0 q1 q2 q3 q4
                clear KA
                go_simp⟩) hD ?_
              refine wpAnyH_take (i := 3) (v := .int .i64 (j : Int)) rfl (by kernel_rfl) (by kernel_rfl) (by kernel_rfl) (fun _ _ _ h => h) (Or.inl ⟨by rfl, by intro W hW; go_simp⟩) hD ?_
              refine wpAnyH_take (i := 4) (v := .pointer (some ⟨b, off + j, none⟩)) rfl (by kernel_rfl) (by kernel_rfl) (by kernel_rfl) (fun _ _ _ h => h) (Or.inl ⟨by rfl, by intro W hW; go_simp⟩) hD ?_
              refine wpAnyH_take (i := 5) (v := .string ⟨p.toArray⟩) rfl (by kernel_rfl) (by kernel_rfl) (by kernel_rfl) (fun _ _ _ h => h) (Or.inl ⟨by rfl, by
                intro W hW
                have q0 := (cellB (hW.block b hbr) _).trans hc
                go_simp⟩) hD ?_
              refine wpAnyH_all (rs := [6, 10]) (by kernel_rfl) (by simp) ?_
              intro i0 hi0
              simp only [List.mem_cons, List.mem_nil_iff, or_false] at hi0
              rcases hi0 with rfl | rfl
              · refine wpOp_enter 39 #[.agg (vCells kx ix sx ax nx cx bx mx ex), .string ⟨p.toArray⟩] rfl (by rfl) (by go_simp) ?_
                refine (cF1.out _ hD).mono ?_
                rintro e w1 ⟨rfl, hb1⟩
                have hB1 := below_step hD hb1
                refine ⟨_, rfl, hB1, ?_⟩
                refine wpAnyH_take (i := 7) (v := .tuple #[.agg (vCells 0 0 ⟨#[]⟩ none 0 0 none 0 0), .int .i64 E]) rfl (by kernel_rfl) (by kernel_rfl) (by kernel_rfl) (fun _ _ _ h => h) (Or.inl ⟨by rfl, by intro W hW; go_simp⟩) hB1 ?_
                refine wpAnyH_take (i := 8) (v := .agg (vCells 0 0 ⟨#[]⟩ none 0 0 none 0 0)) rfl (by kernel_rfl) (by kernel_rfl) (by kernel_rfl) (fun _ _ _ h => h) (Or.inl ⟨by rfl, by intro W hW; go_simp⟩) hB1 ?_
                refine wpAnyH_take (i := 9) (v := .int .i64 E) rfl (by kernel_rfl) (by kernel_rfl) (by kernel_rfl) (fun _ _ _ h => h) (Or.inl ⟨by rfl, by intro W hW; go_simp⟩) hB1 ?_
                refine wpAnyH_all (rs := [10]) (by kernel_rfl) (by simp) ?_
                intro i0 hi0
                simp only [List.mem_cons, List.mem_nil_iff, or_false] at hi0
                subst hi0
                obtain ⟨w2, hw2⟩ : ∃ w2, w1.alloc (.cells (vCells 0 0 ⟨#[]⟩ none 0 0 none 0 0) 26) = w2 := ⟨_, rfl⟩
                have hb2 : Below w1.heap.size w1 w2 := by rw [← hw2]; exact (Below.refl _ _).alloc (Nat.le_refl _) _
                have hB2 := below_step hB1 hb2
                have KZ : Blk w2 w1.heap.size 26 (vCells 0 0 ⟨#[]⟩ none 0 0 none 0 0) := by rw [← hw2]; exact Blk.new w1 _ _
                refine wpOp_does (v := .pointer (some ⟨w1.heap.size, 0, none⟩)) (w' := w2) rfl (by rfl) (by rw [← hw2]; go_simp) ⟨hB2, ?_⟩
                clear hw2
                have hg : wr.heap.size ≤ w1.heap.size := hB1.size
                obtain ⟨g, hgd⟩ : ∃ g, w1.heap.size = g := ⟨_, rfl⟩
                rw [hgd] at KZ hg
                rw [hgd]
                clear hgd hb1 hb2 hB1
                have hNg : N ≤ g := by omega
                obtain ⟨W3, hW3⟩ : ∃ W3, set5 w2 g (.int .i64 0) (.int .i64 0) (.string ⟨#[]⟩) (.slice none 0 0) (.slice none 0 0) = W3 := ⟨_, rfl⟩
                have C3 : Chg [g] w2 W3 := by rw [← hW3]; unfold set5; (repeat' (first | with_reducible exact Chg.refl _ _ | with_reducible refine Chg.alloc ?_ _ | with_reducible refine Chg.drew ?_ | with_reducible refine Chg.drewN ?_ _ | with_reducible refine Chg.set_ ?_ _ _ (by first | (simp; done) | (simp; omega) | omega)))
                have K10 : Blk W3 g 26 (vCells 0 0 ⟨#[]⟩ none 0 0 none 0 0) := by rw [← hW3]; exact set5_blk KZ _ _ _ _ _
                have hB3 : Below wr.heap.size wr W3 := by
                  skip
                  exact (((Chg.of_below (S := []) hB2).mono (S' := [g]) (by simp)).trans C3 (by simp)).to_below (Nat.le_refl _) (by intro x hx; simp at hx; omega)
                refine wpAnyH_all (rs := [11]) (by kernel_rfl) (by simp) ?_
                intro i0 hi0
                simp only [List.mem_cons, List.mem_nil_iff, or_false] at hi0
                subst hi0
                refine wpOp_skips (w' := W3) rfl (by rfl) (by
                  rw [← hW3]
                  clear hW3 K10 C3 hB3
                  have q0 := KZ.cell 0; have q1 := KZ.cell 1; have q2 := KZ.cell 2; have q3 := KZ.cell 3; have q4 := KZ.cell 4; simp at q0 q1 q2 q3 q4
                  have y0 := KZ.frozen 0; have y1 := KZ.frozen 1; have y2 := KZ.frozen 2; have y3 := KZ.frozen 3; have y4 := KZ.frozen 4
                  have lz := KZ.lt
                  clear KZ
                  go_simp) ⟨hB3, ?_⟩
                refine wpAnyH_take (i := 12) (v := .int .i64 E) rfl (by kernel_rfl) (by kernel_rfl) (by kernel_rfl) (fun _ _ _ h => h) (Or.inl ⟨by rfl, by intro W hW; go_simp⟩) hB3 ?_
                refine wpAnyH_done (by kernel_rfl) ?_ _
                clear hW3 C3 KZ hB2 hD
                have KR3 := hI.out.res.chg (Chg.of_below (S := []) hB3) (by simp)
                have HC3 := hide (hI.out.chg.below hB3)
                have hne : w.heap.size + 2 ≠ g := by have := hsw; have := hI0; omega
                have HR3 := hide KR3
                have lR := KR3.lt
                have lG := K10.lt
                have q0 := KR3.cell 0; have q1 := KR3.cell 1; have q2 := KR3.cell 2; have q3 := KR3.cell 3; have q4 := KR3.cell 4; simp at q0 q1 q2 q3 q4
                have y0 := KR3.frozen 0; have y1 := KR3.frozen 1; have y2 := KR3.frozen 2; have y3 := KR3.frozen 3; have y4 := KR3.frozen 4
                clear KR3 K10 k0 k1 k2 k3 k4 v0 v1 v2 v3 v4 lA lV
                go_wp2_with fail
                refine name_postO fun W4 hW4 => ?_
                have C4 : Chg [w.heap.size + 2] W3 W4 := by subst hW4; (repeat' (first | with_reducible exact Chg.refl _ _ | with_reducible refine Chg.alloc ?_ _ | with_reducible refine Chg.drew ?_ | with_reducible refine Chg.drewN ?_ _ | with_reducible refine Chg.set_ ?_ _ _ (by first | (simp; done) | (simp; omega) | omega)))
                have KR4 : Blk W4 (w.heap.size + 2) 26 (vCells 0 0 ⟨#[]⟩ none 0 0 none 0 0) := by subst hW4; (repeat' (first | with_reducible exact HR3.out | with_reducible exact Blk.new_ (by first | rfl | (simp; done) | (simp; omega)) | with_reducible refine Blk.alloc_ ?_ | with_reducible refine Blk.drew ?_ | with_reducible refine Blk.drewN ?_ _ | with_reducible refine Blk.far_ ?_ (by first | (simp; done) | (simp; omega) | omega) | with_reducible apply Blk.set_eq | rfl))
                clear hW4 q0 q1 q2 q3 q4 y0 y1 y2 y3 y4
                have k0 := KR4.cell 0; have k1 := KR4.cell 1; have k2 := KR4.cell 2; have k3 := KR4.cell 3; have k4 := KR4.cell 4; simp at k0 k1 k2 k3 k4
                clear KR4
                simp [bodyPost, results, Tryz.results24, go_sem, k0, k1, k2, k3, k4]
                rw [hq.out, HDR.out, pathR_err hy]
                refine ⟨_, rfl, rfl, (((HC3.out.mono (S' := [w.heap.size + 2]) (by simp)).trans C4 (by simp)).mono (S' := []) (by intro x hx; simp at hx; subst hx; exact .inr (by omega))).bel⟩
              · obtain ⟨w1, hw1⟩ : ∃ w1, wr.drew.alloc (.cells (vCells 0 0 ⟨#[]⟩ none 0 0 none 0 0) 26) = w1 := ⟨_, rfl⟩
                have hB1 : Below wr.heap.size wr w1 := by rw [← hw1]; exact hD.alloc (Nat.le_refl _) _
                have KZ : Blk w1 wr.heap.size 26 (vCells 0 0 ⟨#[]⟩ none 0 0 none 0 0) := by rw [← hw1]; exact Blk.new wr.drew _ _
                refine wpOp_does (v := .pointer (some ⟨wr.heap.size, 0, none⟩)) (w' := w1) rfl (by rfl) (by rw [← hw1]; go_simp) ⟨hB1, ?_⟩
                clear hw1
                refine wpAnyH_all (rs := [6]) (by kernel_rfl) (by simp) ?_
                intro i0 hi0
                simp only [List.mem_cons, List.mem_nil_iff, or_false] at hi0
                subst hi0
                refine wpOp_enter 39 #[.agg (vCells kx ix sx ax nx cx bx mx ex), .string ⟨p.toArray⟩] rfl (by rfl) (by go_simp) ?_
                refine (cF1.out _ hB1).mono ?_
                rintro e w2 ⟨rfl, hb1⟩
                have hB2 := below_step hB1 hb1
                refine ⟨_, rfl, hB2, ?_⟩
                have KZ := KZ.chg (Chg.of_below (S := []) hb1) (by simp)
                have hg : wr.heap.size ≤ wr.heap.size := Nat.le_refl _
                obtain ⟨g, hgd⟩ : ∃ g, wr.heap.size = g := ⟨_, rfl⟩
                rw [hgd] at KZ hB2 hD
                have hg : wr.heap.size ≤ g := by omega
                rw [hgd]
                clear hb1 hB1
                have hNg : N ≤ g := by omega
                refine wpAnyH_take (i := 7) (v := .tuple #[.agg (vCells 0 0 ⟨#[]⟩ none 0 0 none 0 0), .int .i64 E]) rfl (by kernel_rfl) (by kernel_rfl) (by kernel_rfl) (fun _ _ _ h => h) (Or.inl ⟨by rfl, by intro W hW; go_simp⟩) hB2 ?_
                refine wpAnyH_take (i := 8) (v := .agg (vCells 0 0 ⟨#[]⟩ none 0 0 none 0 0)) rfl (by kernel_rfl) (by kernel_rfl) (by kernel_rfl) (fun _ _ _ h => h) (Or.inl ⟨by rfl, by intro W hW; go_simp⟩) hB2 ?_
                refine wpAnyH_take (i := 9) (v := .int .i64 E) rfl (by kernel_rfl) (by kernel_rfl) (by kernel_rfl) (fun _ _ _ h => h) (Or.inl ⟨by rfl, by intro W hW; go_simp⟩) hB2 ?_
                obtain ⟨W3, hW3⟩ : ∃ W3, set5 w2 g (.int .i64 0) (.int .i64 0) (.string ⟨#[]⟩) (.slice none 0 0) (.slice none 0 0) = W3 := ⟨_, rfl⟩
                have C3 : Chg [g] w2 W3 := by rw [← hW3]; unfold set5; (repeat' (first | with_reducible exact Chg.refl _ _ | with_reducible refine Chg.alloc ?_ _ | with_reducible refine Chg.drew ?_ | with_reducible refine Chg.drewN ?_ _ | with_reducible refine Chg.set_ ?_ _ _ (by first | (simp; done) | (simp; omega) | omega)))
                have K10 : Blk W3 g 26 (vCells 0 0 ⟨#[]⟩ none 0 0 none 0 0) := by rw [← hW3]; exact set5_blk KZ _ _ _ _ _
                have hB3 : Below g wr W3 := by
                  rw [← hgd] at hB2 ⊢
                  exact (((Chg.of_below (S := []) hB2).mono (S' := [g]) (by simp)).trans C3 (by simp)).to_below (Nat.le_refl _) (by intro x hx; simp at hx; omega)
                refine wpAnyH_all (rs := [11]) (by kernel_rfl) (by simp) ?_
                intro i0 hi0
                simp only [List.mem_cons, List.mem_nil_iff, or_false] at hi0
                subst hi0
                refine wpOp_skips (w' := W3) rfl (by rfl) (by
                  rw [← hW3]
                  clear hW3 K10 C3 hB3
                  have q0 := KZ.cell 0; have q1 := KZ.cell 1; have q2 := KZ.cell 2; have q3 := KZ.cell 3; have q4 := KZ.cell 4; simp at q0 q1 q2 q3 q4
                  have y0 := KZ.frozen 0; have y1 := KZ.frozen 1; have y2 := KZ.frozen 2; have y3 := KZ.frozen 3; have y4 := KZ.frozen 4
                  have lz := KZ.lt
                  clear KZ
                  go_simp) ⟨hB3, ?_⟩
                refine wpAnyH_take (i := 12) (v := .int .i64 E) rfl (by kernel_rfl) (by kernel_rfl) (by kernel_rfl) (fun _ _ _ h => h) (Or.inl ⟨by rfl, by intro W hW; go_simp⟩) hB3 ?_
                refine wpAnyH_done (by kernel_rfl) ?_ _
                clear hW3 C3 KZ hB2 hD
                rw [← hgd] at hB3
                clear hgd
                have KR3 := hI.out.res.chg (Chg.of_below (S := []) hB3) (by simp)
                have HC3 := hide (hI.out.chg.below hB3)
                have hne : w.heap.size + 2 ≠ g := by have := hsw; have := hI0; omega
                have HR3 := hide KR3
                have lR := KR3.lt
                have lG := K10.lt
                have q0 := KR3.cell 0; have q1 := KR3.cell 1; have q2 := KR3.cell 2; have q3 := KR3.cell 3; have q4 := KR3.cell 4; simp at q0 q1 q2 q3 q4
                have y0 := KR3.frozen 0; have y1 := KR3.frozen 1; have y2 := KR3.frozen 2; have y3 := KR3.frozen 3; have y4 := KR3.frozen 4
                clear KR3 K10 k0 k1 k2 k3 k4 v0 v1 v2 v3 v4 lA lV
                go_wp2_with fail
                refine name_postO fun W4 hW4 => ?_
                have C4 : Chg [w.heap.size + 2] W3 W4 := by subst hW4; (repeat' (first | with_reducible exact Chg.refl _ _ | with_reducible refine Chg.alloc ?_ _ | with_reducible refine Chg.drew ?_ | with_reducible refine Chg.drewN ?_ _ | with_reducible refine Chg.set_ ?_ _ _ (by first | (simp; done) | (simp; omega) | omega)))
                have KR4 : Blk W4 (w.heap.size + 2) 26 (vCells 0 0 ⟨#[]⟩ none 0 0 none 0 0) := by subst hW4; (repeat' (first | with_reducible exact HR3.out | with_reducible exact Blk.new_ (by first | rfl | (simp; done) | (simp; omega)) | with_reducible refine Blk.alloc_ ?_ | with_reducible refine Blk.drew ?_ | with_reducible refine Blk.drewN ?_ _ | with_reducible refine Blk.far_ ?_ (by first | (simp; done) | (simp; omega) | omega) | with_reducible apply Blk.set_eq | rfl))
                clear hW4 q0 q1 q2 q3 q4 y0 y1 y2 y3 y4
                have k0 := KR4.cell 0; have k1 := KR4.cell 1; have k2 := KR4.cell 2; have k3 := KR4.cell 3; have k4 := KR4.cell 4; simp at k0 k1 k2 k3 k4
                clear KR4
                simp [bodyPost, results, Tryz.results24, go_sem, k0, k1, k2, k3, k4]
                rw [hq.out, HDR.out, pathR_err hy]
                refine ⟨_, rfl, rfl, (((HC3.out.mono (S' := [w.heap.size + 2]) (by simp)).trans C4 (by simp)).mono (S' := []) (by intro x hx; simp at hx; subst hx; exact .inr (by omega))).bel⟩
          · obtain rfl : j = path.length := by omega
            have hte := hide (show pathR path dv = (some x, 0) by rw [hq.out, List.drop_length]; rfl)
            clear hlt hjl
            have hif : decide ((path.length : Int) < (path.length : Int)) = false := by simp
            have KR3 := hI.out.res
            have HR3 := hide KR3
            have lR := KR3.lt
            have q0 := KR3.cell 0; have q1 := KR3.cell 1; have q2 := KR3.cell 2; have q3 := KR3.cell 3; have q4 := KR3.cell 4; simp at q0 q1 q2 q3 q4
            have y0 := KR3.frozen 0; have y1 := KR3.frozen 1; have y2 := KR3.frozen 2; have y3 := KR3.frozen 3; have y4 := KR3.frozen 4
            clear KR3
            go_wp2_with fail
            refine name_postO fun W4 hW4 => ?_
            have C4 : Chg [w.heap.size + 2] wr W4 := by subst hW4; (repeat' (first | with_reducible exact Chg.refl _ _ | with_reducible refine Chg.alloc ?_ _ | with_reducible refine Chg.drew ?_ | with_reducible refine Chg.drewN ?_ _ | with_reducible refine Chg.set_ ?_ _ _ (by first | (simp; done) | (simp; omega) | omega)))
            have KR4 : Blk W4 (w.heap.size + 2) 26 (vCells kx ix sx ax nx cx bx mx ex) := by subst hW4; (repeat' (first | with_reducible exact HR3.out | with_reducible exact Blk.new_ (by first | rfl | (simp; done) | (simp; omega)) | with_reducible refine Blk.alloc_ ?_ | with_reducible refine Blk.drew ?_ | with_reducible refine Blk.drewN ?_ _ | with_reducible refine Blk.far_ ?_ (by first | (simp; done) | (simp; omega) | omega) | with_reducible apply Blk.set_eq | rfl))
            clear hW4 q0 q1 q2 q3 q4 y0 y1 y2 y3 y4 k0 k1 k2 k3 k4 v0 v1 v2 v3 v4
            have k0 := KR4.cell 0; have k1 := KR4.cell 1; have k2 := KR4.cell 2; have k3 := KR4.cell 3; have k4 := KR4.cell 4; simp at k0 k1 k2 k3 k4
            clear KR4
            simp [bodyPost, results, Tryz.results24, go_sem, k0, k1, k2, k3, k4]
            rw [hte.out]
            refine ⟨_, rfl, isV_chg hI.out.is C4 (by intro x hx; simp at hx; have := HN.out; omega), (((hI.out.chg.mono (S' := [w.heap.size + 2]) (by simp)).trans C4 (by simp)).mono (S' := []) (by intro x hx; simp at hx; subst hx; exact .inr (by omega))).bel⟩
end Go.Proofs.YtnepogddjinpoaaGreatDoor

namespace Go.Proofs.YtnepogddjinpoaaGreatDoor
open Go.RowKit
set_option linter.unusedVariables false
set_option linter.unusedSimpArgs false

theorem cArg_any (n N : Nat) (e : EnvD n) (r d : VF) (av : Option Addr) (cv : Nat) (x : ArgD) (ap : Option Addr) (cp : Nat) (w : World) (hN : N ≤ w.heap.size) (hE : EnvP n (lowN N) w r d av e) (hP : AtR StrR 1 (lowN N) w ap x.path) (ge : GoodE e) (hvl : e.vars.length ≤ 1048576) (hpl : x.path.length ≤ 1048576) :
    Calls Tryz.prog 24 #[.agg (envCells r d av e.vars.length cv), .agg #[.int .i64 x.k, .string ⟨x.nm.toArray⟩, .slice ap x.path.length cp, .int .i64 x.i, .string ⟨x.s.toArray⟩]] w fun f w' => TellsR N n w (argR e x) f w' := by
  by_cases h1 : x.k = 1
  · rw [h1, show argR e x = pathR x.path e.dot by simp [argR, h1]]
    exact cArg_dot n N r d av _ cv _ ap x.path cp x.i _ w e.dot hN hE.dot ge.dot hP.strs hpl
  by_cases h2 : x.k = 2
  · rw [h2]
    by_cases hn : x.nm = []
    · rw [hn, show argR e x = pathR x.path e.root by simp [argR, h2, hn]]
      exact cArg_root n N r d av _ cv ap x.path cp x.i _ w e.root hN hE.root ge.root hP.strs hpl
    · rw [show argR e x = (match lastOf x.nm e.vars none with | some v => pathR x.path v | none => (none, 31)) by unfold argR; rw [if_neg h1, if_pos h2, if_neg hn]; cases lastOf x.nm e.vars none <;> rfl]
      exact cArg_var n N r d av e.vars cv x.nm ap x.path cp x.i _ w e.root hn hN hE.root hE.vars ge.vars hvl hP.strs hpl
  by_cases h3 : x.k = 3
  · rw [h3, show argR e x = (some (intD x.i), 0) by simp [argR, h3]]
    exact (cArg_int r d av _ cv _ ap _ cp x.i _ w).mono fun f w' h => tells_flat (s := []) h
  by_cases h4 : x.k = 4
  · rw [h4, show argR e x = (some (textD x.s), 0) by simp [argR, h4]]
    exact (cArg_text r d av _ cv _ ap _ cp x.i _ w).mono fun f w' h => tells_flat h
  by_cases h5 : x.k = 5
  · rw [h5, show argR e x = (some (truthD true), 0) by simp [argR, h5]]
    exact (cArg_yes r d av _ cv _ ap _ cp x.i _ w).mono fun f w' h => tells_flat (s := []) h
  by_cases h6 : x.k = 6
  · rw [h6, show argR e x = (some (truthD false), 0) by simp [argR, h6]]
    exact (cArg_no r d av _ cv _ ap _ cp x.i _ w).mono fun f w' h => tells_flat (s := []) h
  by_cases h7 : x.k = 7
  · rw [h7, show argR e x = (some nullD, 0) by simp [argR, h7]]
    exact (cArg_nil r d av _ cv _ ap _ cp x.i _ w).mono fun f w' h => tells_flat (s := []) h
  · rw [show argR e x = (none, 9) by unfold argR; rw [if_neg h1, if_neg h2, if_neg h3, if_neg h4, if_neg h5, if_neg h6, if_neg h7]]
    exact (cArg_odd r d av _ cv x.k _ ap _ cp x.i _ w h1 h2 h3 h4 h5 h6 h7).mono fun f w' h => tells_err h
end Go.Proofs.YtnepogddjinpoaaGreatDoor
