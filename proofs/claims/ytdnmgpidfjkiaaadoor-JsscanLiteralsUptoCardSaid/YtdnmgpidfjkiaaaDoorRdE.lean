/-
  literal: a list's and a record's parts.
-/
import Derived.Test.YtdnmgpidfjkiaaaDoorM3
import Derived.Test.YtdnmgpidfjkiaaaDoorM2
import Derived.Deep.RegionLaw
import Derived.RegionDies
import Derived.Deep.AppendLies
import Derived.Deep.OwnRows
namespace Go.Proofs.YtdnmgpidfjkiaaaDoor
open Go.RowKit
set_option linter.unusedVariables false
set_option linter.unusedSimpArgs false

def addO {α : Type} (ks : List (List UInt8)) (xs : List α) : Out (List (List UInt8) × List α) → Out (List (List UInt8) × List α)
  | .bad e => .bad e
  | .ok y t => .ok (ks ++ y.1, xs ++ y.2) t
def ItTo {α : Type} (rv : List UInt8 → Out α) (rec_ : Bool) (close : UInt8) (f : Nat) (r : List UInt8) (f' : Nat) (r' : List UInt8) (ks : List (List UInt8)) (xs : List α) : Prop :=
  itemsR rv rec_ close f r = addO ks xs (itemsR rv rec_ close f' r')
section
variable {α : Type} {rv : List UInt8 → Out α} {rec_ : Bool} {close : UInt8} {f : Nat} {r : List UInt8} {g : Nat} {r' : List UInt8} {ks : List (List UInt8)} {xs : List α}
theorem ItTo.start : ItTo rv rec_ close f r f r [] [] := by
  unfold ItTo
  cases itemsR rv rec_ close f r <;> rfl
theorem ItTo.nokey (h : ItTo rv rec_ close f r (g + 1) r' ks xs) (hk : keyR rec_ r' = none) : itemsR rv rec_ close f r = .bad 33 := by
  rw [h, itemsR, hk]; rfl
theorem ItTo.noval {k1 : List (List UInt8)} {r1 : List UInt8} {e : Int} (h : ItTo rv rec_ close f r (g + 1) r' ks xs) (hk : keyR rec_ r' = some (k1, r1)) (hv : rv r1 = .bad e) : itemsR rv rec_ close f r = .bad e := by
  rw [h, itemsR, hk]; simp only [hv]; rfl
theorem ItTo.done {k1 : List (List UInt8)} {r1 r2 : List UInt8} {x : α} (h : ItTo rv rec_ close f r (g + 1) r' ks xs) (hk : keyR rec_ r' = some (k1, r1)) (hv : rv r1 = .ok x r2) (hc : [close].isPrefixOf r2 = true) : itemsR rv rec_ close f r = .ok (ks ++ k1, xs ++ [x]) (r2.drop 1) := by
  rw [h, itemsR, hk]; simp only [hv, hc, if_true]; rfl
theorem ItTo.odd {k1 : List (List UInt8)} {r1 r2 : List UInt8} {x : α} (h : ItTo rv rec_ close f r (g + 1) r' ks xs) (hk : keyR rec_ r' = some (k1, r1)) (hv : rv r1 = .ok x r2) (hc : [close].isPrefixOf r2 = false) (hm : [44].isPrefixOf r2 = false) : itemsR rv rec_ close f r = .bad 33 := by
  rw [h, itemsR, hk]; simp only [hv, hc, hm, Bool.false_eq_true, if_false]; rfl
theorem ItTo.next {k1 : List (List UInt8)} {r1 r2 : List UInt8} {x : α} (h : ItTo rv rec_ close f r (g + 1) r' ks xs) (hk : keyR rec_ r' = some (k1, r1)) (hv : rv r1 = .ok x r2) (hc : [close].isPrefixOf r2 = false) (hm : [44].isPrefixOf r2 = true) : ItTo rv rec_ close f r g (r2.drop 1) (ks ++ k1) (xs ++ [x]) := by
  unfold ItTo at h ⊢
  rw [h, itemsR, hk]
  simp only [hv, hc, hm, Bool.false_eq_true, if_false, if_true]
  cases itemsR rv rec_ close g (List.drop 1 r2) with
  | bad e => rfl
  | ok y t => simp [addO]
end
theorem readV_len {up : List (List UInt8) → Bool} {l : Nat} {r t : List UInt8} {d : VN (VT l)} (h : readV up l r = .ok d t) : t.length ≤ r.length := by
  rw [(readV_back up l r t d h).1]; simp
/-- What value tells. -/
def ValOut (l : Nat) (r : List UInt8) (b : Nat) (s : List UInt8) (w : World) (e : Ending) (w' : World) : Prop :=
  (∃ (d : VN (VT l)) (t : List UInt8) (v : Value), readV risingK l r = .ok d t ∧ e = .returned v ∧ IsV (freshB w.heap.size) w' (l + 1) v d ∧ Moved b w w' ∧ Rd w' b s t) ∨ (∃ y, readV risingK l r = .bad y ∧ e = panE y ∧ Moved b w w')
/-- What items tells. -/
def ItOut (l : Nat) (k : Int) (rec_ : Bool) (close : UInt8) (r : List UInt8) (b : Nat) (s : List UInt8) (w : World) (e : Ending) (w' : World) : Prop :=
  (∃ (ks : List (List UInt8)) (xs : List (VT (l + 1))) (t : List UInt8) (v : Value), manyR (α := VT (l + 1)) (readV risingK l) rec_ close r = .ok (ks, xs) t ∧ e = .returned v ∧ IsV (freshB w.heap.size) w' (l + 2) v (⟨k, 0, [], xs, ks⟩ : VN (VT (l + 1))) ∧ Moved b w w' ∧ Rd w' b s t) ∨
  (∃ y, manyR (α := VT (l + 1)) (readV risingK l) rec_ close r = .bad y ∧ e = panE y ∧ Moved b w w')
def ValOK (l b : Nat) (s : List UInt8) : Prop := ∀ (w : World) (r : List UInt8), Rd w b s r → Calls Tryd.prog 36 #[.pointer (some ⟨b, 0, none⟩), .int .i64 (l : Int)] w (ValOut l r b s w)
theorem ValOK.split {l b : Nat} {s : List UInt8} (h : ValOK l b s) (w : World) (r : List UInt8) (hR : Rd w b s r) :
    (∃ (d : VT (l + 1)) (t : List UInt8), readV risingK l r = .ok d t ∧ Calls Tryd.prog 36 #[.pointer (some ⟨b, 0, none⟩), .int .i64 (l : Int)] w fun e w' => ∃ v, e = .returned v ∧ IsV (freshB w.heap.size) w' (l + 1) v d ∧ Moved b w w' ∧ Rd w' b s t) ∨
    (∃ y, readV risingK l r = .bad y ∧ Calls Tryd.prog 36 #[.pointer (some ⟨b, 0, none⟩), .int .i64 (l : Int)] w fun e w' => e = panE y ∧ Moved b w w') := by
  have hc := h w r hR
  rcases hs : readV risingK l r with ⟨d, t⟩ | y
  · refine .inl ⟨d, t, rfl, hc.mono ?_⟩
    rintro e w' (⟨d', t', v, h1, h2⟩ | ⟨y, h1, _⟩)
    · rw [hs] at h1; injection h1 with h3 h4; subst h3; subst h4; exact ⟨v, h2⟩
    · rw [hs] at h1; cases h1
  · refine .inr ⟨y, rfl, hc.mono ?_⟩
    rintro e w' (⟨d', t', v, h1, h2⟩ | ⟨y', h1, h2⟩)
    · rw [hs] at h1; cases h1
    · rw [hs] at h1; injection h1 with h3; subst h3; exact h2
theorem ValOK.ok {l b : Nat} {s : List UInt8} (h : ValOK l b s) (w : World) (r : List UInt8) (hR : Rd w b s r) {d : VT (l + 1)} {t : List UInt8} (hd : readV risingK l r = .ok d t) :
    Calls Tryd.prog 36 #[.pointer (some ⟨b, 0, none⟩), .int .i64 (l : Int)] w fun e w' => ∃ v, e = .returned v ∧ IsV (freshB w.heap.size) w' (l + 1) v d ∧ Moved b w w' ∧ Rd w' b s t := by
  rcases h.split w r hR with ⟨d', t', h1, h2⟩ | ⟨y, h1, _⟩
  · have := hd.symm.trans h1
    injection this with h3 h4; subst h3; subst h4; exact h2
  · have := hd.symm.trans h1; cases this
theorem ValOK.bad {l b : Nat} {s : List UInt8} (h : ValOK l b s) (w : World) (r : List UInt8) (hR : Rd w b s r) {y : Int} (hd : readV risingK l r = .bad y) :
    Calls Tryd.prog 36 #[.pointer (some ⟨b, 0, none⟩), .int .i64 (l : Int)] w fun e w' => e = panE y ∧ Moved b w w' := by
  rcases h.split w r hR with ⟨d', t', h1, _⟩ | ⟨y', h1, h2⟩
  · have := hd.symm.trans h1; cases this
  · have := hd.symm.trans h1
    injection this with h3; subst h3; exact h2
set_option maxHeartbeats 2000000 in
set_option maxRecDepth 100000 in
theorem items_list (l b : Nat) (s r : List UInt8) (hl : l < 16) (hV : ValOK l b s) (w : World) (hR : Rd w b s r) (hz : s.length ≤ 1000000000) :
    Calls Tryd.prog 67 #[.pointer (some ⟨b, 0, none⟩), valV 5 0 ⟨#[]⟩ none 0 0 none 0 0, .string ⟨#[93]⟩, .int .i64 ((l : Int) + 1)] w (ItOut l 5 false 93 r b s w) := by
  have hb := hR.lt
  have hlr := hR.len
  obtain ⟨W, hW⟩ : ∃ W, (w.alloc (.cells #[.int .i64 5, .int .i64 0, .string ⟨#[]⟩, .slice none 0 0, .slice none 0 0] 26)).alloc (.cells #[.int .i64 0, .int .i64 0, .string ⟨#[]⟩, .slice none 0 0, .slice none 0 0] 26) = W := ⟨_, rfl⟩
  have hBW : Below w.heap.size w W := by rw [← hW]; exact ((Below.refl _ _).alloc (Nat.le_refl _) _).alloc (by simp) _
  have hI0 : ItI w W b s r (l + 1) 5 none 0 none 0 [] [] [] := by
    refine ⟨Moved.of_below hBW, hR.below hBW, ?_, ?_, World.ownsRow_nil _ _ _ _, ⟨World.ownsRow_nil _ _ _ _, rfl, fun k h => (by cases h), fun r e x h => by simp at h⟩⟩
    · rw [← hW]; exact (Blk.new w _ _).alloc _
    · rw [← hW]
      have := Blk.new (w.alloc (.cells #[.int .i64 5, .int .i64 0, .string ⟨#[]⟩, .slice none 0 0, .slice none 0 0] 26)) 26 #[.int .i64 0, .int .i64 0, .string ⟨#[]⟩, .slice none 0 0, .slice none 0 0]
      simpa using this
  have hI0 := hide hI0
  have cC := hide (took_any b s r [93] W hI0.out.rd hz (by simp))
  obtain ⟨i0, hi, hy0, hy1, hy2⟩ := info_parts info_strV
  obtain ⟨j0, hj, hv0, hv1, hv2⟩ := info_parts info_val
  have HV := hide hV
  have HW := hide hW
  have hl0 : (0 : Int) < (l : Int) + 1 := by omega
  clear hR hV hBW hW
  skip
  rcases Bool.eq_false_or_eq_true ([93].isPrefixOf r) with hc | hc
  · rw [hc] at cC
    have hM := hide (show manyR (α := VT (l + 1)) (readV risingK l) false 93 r = .ok ([], []) (r.drop 1) by unfold manyR; rw [hc, if_pos rfl])
    go_enter Tryd.func67, Tryd.ntmps67
    go_wp2_with (go_at_call 37; refine (litNeed_yes _ _).mono ?_; rintro e wn ⟨rfl, rfl⟩)
    rw [HW.out]
    go_wp2_with fail
    refine cC.out.mono ?_
    rintro e w1 ⟨rfl, hM1, hR1⟩
    have hR1 : Rd w1 b s (r.drop 1) := by simpa using hR1
    have HI1 := hide (hI0.out.on hb hM1 hR1)
    clear hM1 hR1 hI0 cC
    have r0 := HI1.out.b0.cell 0; have r1 := HI1.out.b0.cell 1; have r2 := HI1.out.b0.cell 2; have r3 := HI1.out.b0.cell 3; have r4 := HI1.out.b0.cell 4
    have o0 := HI1.out.b1.cell 0; have o1 := HI1.out.b1.cell 1; have o2 := HI1.out.b1.cell 2; have o3 := HI1.out.b1.cell 3; have o4 := HI1.out.b1.cell 4
    have y0 := HI1.out.b1.frozen 0; have y1 := HI1.out.b1.frozen 1; have y2 := HI1.out.b1.frozen 2; have y3 := HI1.out.b1.frozen 3; have y4 := HI1.out.b1.frozen 4
    simp at r0 r1 r2 r3 r4 o0 o1 o2 o3 o4
    go_wp2_with fail
    obtain ⟨hV5, hM5, hR5, hK5⟩ := (HI1.out.done hb (.int .i64 5) (.int .i64 0) (.string ⟨#[]⟩) (.slice none 0 0) (.slice none 0 0))
    unfold put5 at hV5 hM5 hR5 hK5
    clear r0 r1 r2 r3 r4 o0 o1 o2 o3 o4 y0 y1 y2 y3 y4
    (try simp only [List.length_append, List.length_cons, List.length_nil, Nat.zero_add] at hV5 hM5 hR5 hK5)
    generalize ((((w1.setCell ⟨w.heap.size + 1, 0, none⟩ (.int .i64 5)).setCell ⟨w.heap.size + 1, 1, none⟩ (.int .i64 0)).setCell ⟨w.heap.size + 1, 2, none⟩ (.string ⟨#[]⟩)).setCell ⟨w.heap.size + 1, 3, none⟩ (.slice none 0 0)).setCell ⟨w.heap.size + 1, 4, none⟩ (.slice none 0 0) = w5 at hV5 hM5 hR5 hK5 ⊢
    have r0 := hK5.cell 0; have r1 := hK5.cell 1; have r2 := hK5.cell 2; have r3 := hK5.cell 3; have r4 := hK5.cell 4
    simp at r0 r1 r2 r3 r4
    have HV5 := hide hV5; have HM5 := hide hM5; have HR5 := hide hR5
    clear hV5 hM5 hR5
    (try simp only [Exit.inBlock, Exit.then])
    refine bodyPost_ret (v := valV 5 0 ⟨#[]⟩ none 0 0 none 0 0) ?_ rfl (show ItOut l 5 false 93 r b s w _ _ from .inl ⟨[], [], _, _, hM.out, rfl, HV5.out, HM5.out, HR5.out⟩)
    simp [results, Tryd.results67, go_sem, r0, r1, r2, r3, r4]
  · rw [hc] at cC
    have hM := hide (show manyR (α := VT (l + 1)) (readV risingK l) false 93 r = itemsR (readV risingK l) false 93 (r.length + 1) r by unfold manyR; rw [hc]; rfl)
    have hto := hide (ItTo.start (rv := (readV risingK l : List UInt8 → Out (VT (l + 1)))) (rec_ := false) (close := 93) (f := r.length + 1) (r := r))
    go_enter Tryd.func67, Tryd.ntmps67
    go_wp2_with (go_at_call 37; refine (litNeed_yes _ _).mono ?_; rintro e wn ⟨rfl, rfl⟩)
    rw [HW.out]
    go_wp2_with fail
    refine cC.out.mono ?_
    rintro e w1 ⟨rfl, hM1, hR1⟩
    have hR1 : Rd w1 b s r := by simpa using hR1
    have HI1 := hide (hI0.out.on hb hM1 hR1)
    clear hM1 hR1 hI0 cC
    go_wp2_with fail
    go_loopg [] r.length (fun gl wr => ∃ (g : Nat) (r' : List UInt8) (A0 : Option Addr) (cp : Nat) (A5 : Option Addr) (c5 : Nat) (ks : List (List UInt8)) (es : List VF) (xs : List (VT (l + 1))), r'.length = gl ∧ r'.length < g ∧ xs.length + r'.length ≤ r.length ∧ ks.length + r'.length ≤ r.length ∧ Hid (ItI w wr b s r' (l + 1) 5 A0 cp A5 c5 ks es xs) ∧ Hid (ItTo (readV risingK l : List UInt8 → Out (VT (l + 1))) false 93 (r.length + 1) r g r' ks xs))
    case atStart => exact ⟨r.length + 1, r, none, 0, none, 0, [], [], [], rfl, by omega, by simp, by simp, HI1, hto⟩
    case round =>
      obtain ⟨g, r', A0, cp, A5, c5, ks, es, xs, hgl, hg, hxl, hkl, HI, hto⟩ := hrel
      obtain ⟨g, rfl⟩ : ∃ g', g = g' + 1 := ⟨g - 1, by omega⟩
      clear HI1
      have k0 := HI.out.b0.cell 0
      simp at k0
      go_wp2_with fail
      have hrl : r'.length ≤ s.length := by omega
      have hel := hide HI.out.row.len
      have hxe : es.length + r'.length ≤ r.length := by rw [hel.out]; exact hxl
      have hwl : IntKind.i64.wrap (l : Int) = (l : Int) := by rw [IntKind.wrap_i64]; omega
      have hws := HI.out.mv.size
      have hb1l := HI.out.b1.lt
      have l0 := HI.out.b0.lt
      have hne : some w.heap.size ≠ (Value.slice A0 xs.length cp).ownBlock := fun e => by have := (HI.out.row.own.lt _ e.symm).1; omega
      have hMl := hide (fun q (hq : (Value.slice A0 xs.length cp).ownBlock = some q) => (HI.out.row.own.lt q hq).2)
      have hM2l := hide (fun q (hq : (Value.slice A5 ks.length c5).ownBlock = some q) => (HI.out.keys.lt q hq).2)
      rcases ValOK.split HV.out wr r' HI.out.rd with ⟨x, r2, hx, _⟩ | ⟨y, hy, _⟩
      · have cV := hide (fun W' (hW' : Below wr.heap.size wr W') => (ValOK.ok HV.out W' r' (HI.out.rd.below hW') hx))
        have q3 := HI.out.b0.cell 3
        simp at q3
        go_region_law (first
          | (refine step_append_lies _ rfl (.tmp 33) (.tmp 38) 23 rfl (w.heap.size + 2) 26 j0 (.agg #[.int .i64 0, .int .i64 0, .string ⟨#[]⟩, .slice none 0 0, .slice none 0 0]) 5 80 Tryd.underlying23 hj hv0 hv1 hv2 rfl (by decide) (.slice A0 xs.length cp) es.length _ (by simp [Act.eval, Act.put]) (hownP.alloc _) ⟨wP.heap.size, 0, none⟩ 1 1 ev.cells (by simp [Act.eval, Act.put]) rfl (by intro t u ht; match t, ht with | 0, ht => (simp [VF.cells] at ht; subst ht; simp [Addr.add]) | 1, ht => (simp [VF.cells] at ht; subst ht; simp [Addr.add]) | 2, ht => (simp [VF.cells] at ht; subst ht; simp [Addr.add]) | 3, ht => (simp [VF.cells] at ht; subst ht; simp [Addr.add]) | 4, ht => (simp [VF.cells] at ht; subst ht; simp [Addr.add])) (by intro u hu; simp [VF.cells] at hu; rcases hu with rfl | rfl | rfl | rfl | rfl <;> rfl) (by omega) (by unfold maxLen; omega) (by omega) (by simp; omega) _ rfl ?_; intro g4 cp4 w4 hown4 hgrow4 hat4 hlt4; have hb3 := (HB0.out.alloc _).grown hgrow4 hne; have zz3 := hb3.frozen 3; have qq3 := hb3.cell 3; have l4 := hb3.lt; simp at qq3)
          | (go_simp; go_at_call 36; refine (cV.out _ (Below.refl _ _).drew).mono ?_; rintro e wP ⟨v', rfl, hVP, hMP, hRP⟩; obtain ⟨ev, rfl⟩ := hVP.shape; have HP := hide ((HI.out.below hb (Below.refl wr.heap.size wr).drew).on hb hMP hRP); have hVP2 := hide hVP; have hownP := HP.out.row.own; have HB0 := hide HP.out.b0; have lP := HP.out.b0.lt; have hsP := hMP.size; have q3P := HP.out.b0.cell 3; have zq3P := HP.out.b0.frozen 3; simp at q3P; clear hVP hMP hRP))
        all_goals
          have HN : ItI w (w4.setCell ⟨w.heap.size, 3, none⟩ (.slice (some ⟨g4, 0, none⟩) (es.length + 1) cp4)) b s r2 (l + 1) 5 (some ⟨g4, 0, none⟩) cp4 A5 c5 ks (es ++ [ev]) (xs ++ [x]) := by
            first
              | exact HP.out.item (M := wr.heap.size) hb hVP2.out hMl.out hM2l.out (by omega) ((Below.refl wP.heap.size wP).alloc (Nat.le_refl _) _) hgrow4 hown4 hat4
              | exact HP.out.item (M := wr.heap.size) hb hVP2.out hMl.out hM2l.out (by omega) (((Below.refl wP.heap.size wP).alloc (Nat.le_refl _) _).drew) hgrow4 hown4 hat4
          have hlx : (xs ++ [x]).length = es.length + 1 := by rw [List.length_append, hel.out]; rfl
          have HLX := hide hlx
          have hr2 : r2.length ≤ r'.length := readV_len hx
          have HN := hide HN
          clear hown4 hgrow4 hat4 hownP hb3 qq3 zz3 HB0 q3P zq3P HP hVP2 l4 hlt4 lP hsP hlx
          generalize w4.setCell ⟨w.heap.size, 3, none⟩ (.slice (some ⟨g4, 0, none⟩) (es.length + 1) cp4) = w5 at HN ⊢
          have cE := hide (took_any b s r2 [93] w5 HN.out.rd hz (by simp))
          go_wp2_with fail
          rcases Bool.eq_false_or_eq_true ([93].isPrefixOf r2) with hc2 | hc2
          · have HM2 := hide (hM.out.trans (hto.out.done (k1 := []) (r1 := r') rfl hx hc2))
            rw [hc2] at cE
            refine cE.out.mono ?_
            rintro e w6 ⟨rfl, hM6, hR6⟩
            have hR6 : Rd w6 b s (r2.drop 1) := by simpa using hR6
            have HI6 := hide (HN.out.on hb hM6 hR6)
            rw [List.append_nil] at HM2
            clear hM6 hR6 cE HN q3 k0
            have r0 := HI6.out.b0.cell 0; have r1 := HI6.out.b0.cell 1; have r2 := HI6.out.b0.cell 2; have r3 := HI6.out.b0.cell 3; have r4 := HI6.out.b0.cell 4
            have o0 := HI6.out.b1.cell 0; have o1 := HI6.out.b1.cell 1; have o2 := HI6.out.b1.cell 2; have o3 := HI6.out.b1.cell 3; have o4 := HI6.out.b1.cell 4
            have y0 := HI6.out.b1.frozen 0; have y1 := HI6.out.b1.frozen 1; have y2 := HI6.out.b1.frozen 2; have y3 := HI6.out.b1.frozen 3; have y4 := HI6.out.b1.frozen 4
            simp at r0 r1 r2 r3 r4 o0 o1 o2 o3 o4
            go_wp2_with fail
            obtain ⟨hV5, hM5, hR5, hK5⟩ := (HI6.out.done hb (.int .i64 5) (.int .i64 0) (.string ⟨#[]⟩) (.slice (some ⟨g4, 0, none⟩) (xs.length + 1) cp4) (.slice A5 ks.length c5))
            unfold put5 at hV5 hM5 hR5 hK5
            clear r0 r1 r2 r3 r4 o0 o1 o2 o3 o4 y0 y1 y2 y3 y4
            (try simp only [List.length_append, List.length_cons, List.length_nil, Nat.zero_add] at hV5 hM5 hR5 hK5)
            generalize ((((w6.setCell ⟨w.heap.size + 1, 0, none⟩ (.int .i64 5)).setCell ⟨w.heap.size + 1, 1, none⟩ (.int .i64 0)).setCell ⟨w.heap.size + 1, 2, none⟩ (.string ⟨#[]⟩)).setCell ⟨w.heap.size + 1, 3, none⟩ (.slice (some ⟨g4, 0, none⟩) (xs.length + 1) cp4)).setCell ⟨w.heap.size + 1, 4, none⟩ (.slice A5 ks.length c5) = w5 at hV5 hM5 hR5 hK5 ⊢
            have r0 := hK5.cell 0; have r1 := hK5.cell 1; have r2 := hK5.cell 2; have r3 := hK5.cell 3; have r4 := hK5.cell 4
            simp at r0 r1 r2 r3 r4
            have HV5 := hide hV5; have HM5 := hide hM5; have HR5 := hide hR5
            clear hV5 hM5 hR5
            (try simp only [Exit.inBlock, Exit.then])
            refine bodyPost_ret (v := valV 5 0 ⟨#[]⟩ (some ⟨g4, 0, none⟩) (xs.length + 1) cp4 A5 ks.length c5) ?_ rfl (show ItOut l 5 false 93 r b s w _ _ from .inl ⟨ks, (xs ++ [x]), _, _, HM2.out, rfl, HV5.out, HM5.out, HR5.out⟩)
            simp [results, Tryd.results67, go_sem, r0, r1, r2, r3, r4]
          · rw [hc2] at cE
            refine cE.out.mono ?_
            rintro e w6 ⟨rfl, hM6, hR6⟩
            have hR6 : Rd w6 b s r2 := by simpa using hR6
            have HI6 := hide (HN.out.on hb hM6 hR6)
            clear hM6 hR6 cE HN q3 k0
            have cK := hide (took_any b s r2 [44] w6 HI6.out.rd hz (by simp))
            rcases Bool.eq_false_or_eq_true ([44].isPrefixOf r2) with hm | hm
            · have hnx := hide (hto.out.next (k1 := []) (r1 := r') rfl hx hc2 hm)
              rw [List.append_nil] at hnx
              have hr3 : (r2.drop 1).length + 1 ≤ r2.length := by
                have : 1 ≤ r2.length := (List.isPrefixOf_iff_prefix.1 hm).length_le
                simp; omega
              rw [hm] at cK
              go_wp2_with fail
              refine cK.out.mono ?_
              rintro e w7 ⟨rfl, hM7, hR7⟩
              have hR7 : Rd w7 b s (r2.drop 1) := by simpa using hR7
              have HI7 := hide (HI6.out.on hb hM7 hR7)
              clear hM7 hR7 cK HI6
              go_wp2_with (go_at_call 37; refine (litNeed_yes _ _).mono ?_; rintro e wn ⟨rfl, rfl⟩)
              go_roundg (r2.drop 1).length
              case measure => omega
              case rel => exact ⟨g, r2.drop 1, _, _, _, _, _, _, _, rfl, by omega, by rw [HLX.out]; omega, by omega, HI7, hnx⟩
            · have HB := hide (hM.out.trans (hto.out.odd (k1 := []) (r1 := r') rfl hx hc2 hm))
              rw [hm] at cK
              go_wp2_with fail
              refine cK.out.mono ?_
              rintro e w7 ⟨rfl, hM7, _⟩
              go_wp2_with (go_at_call 37; refine (litNeed_no _ _).mono ?_; rintro e wn ⟨rfl, rfl⟩)
              exact ⟨rfl, (show ItOut l 5 false 93 r b s w _ _ from .inr ⟨33, HB.out, rfl, HI6.out.mv.trans hM7⟩)⟩
      · have cV := hide (fun W' (hW' : Below wr.heap.size wr W') => (ValOK.bad HV.out W' r' (HI.out.rd.below hW') hy))
        have HB := hto.out.noval (k1 := []) (r1 := r') rfl hy
        have HPn : Hid (∀ wP, Moved b wr.drew wP → ItOut l 5 false 93 r b s w (panE y) wP) := hide (fun wP hMP => .inr ⟨y, hM.out.trans HB, rfl, (HI.out.mv.step (Below.refl wr.heap.size wr).drew).trans hMP⟩)
        have q3 := HI.out.b0.cell 3
        simp at q3
        go_region_dies
        all_goals
          refine (cV.out _ (Below.refl _ _).drew).mono ?_
          rintro e wP ⟨rfl, hMP⟩
          exact ⟨rfl, HPn.out _ hMP⟩
set_option maxHeartbeats 2000000 in
set_option maxRecDepth 100000 in
theorem items_rec (hPl : PlainOK) (hEn : EncOK) (l b : Nat) (s r : List UInt8) (hl : l < 16) (hV : ValOK l b s) (w : World) (hR : Rd w b s r) (hz : s.length ≤ 1000000000) :
    Calls Tryd.prog 67 #[.pointer (some ⟨b, 0, none⟩), valV 6 0 ⟨#[]⟩ none 0 0 none 0 0, .string ⟨#[125]⟩, .int .i64 ((l : Int) + 1)] w (ItOut l 6 true 125 r b s w) := by
  have hb := hR.lt
  have hlr := hR.len
  obtain ⟨W, hW⟩ : ∃ W, (w.alloc (.cells #[.int .i64 6, .int .i64 0, .string ⟨#[]⟩, .slice none 0 0, .slice none 0 0] 26)).alloc (.cells #[.int .i64 0, .int .i64 0, .string ⟨#[]⟩, .slice none 0 0, .slice none 0 0] 26) = W := ⟨_, rfl⟩
  have hBW : Below w.heap.size w W := by rw [← hW]; exact ((Below.refl _ _).alloc (Nat.le_refl _) _).alloc (by simp) _
  have hI0 : ItI w W b s r (l + 1) 6 none 0 none 0 [] [] [] := by
    refine ⟨Moved.of_below hBW, hR.below hBW, ?_, ?_, World.ownsRow_nil _ _ _ _, ⟨World.ownsRow_nil _ _ _ _, rfl, fun k h => (by cases h), fun r e x h => by simp at h⟩⟩
    · rw [← hW]; exact (Blk.new w _ _).alloc _
    · rw [← hW]
      have := Blk.new (w.alloc (.cells #[.int .i64 6, .int .i64 0, .string ⟨#[]⟩, .slice none 0 0, .slice none 0 0] 26)) 26 #[.int .i64 0, .int .i64 0, .string ⟨#[]⟩, .slice none 0 0, .slice none 0 0]
      simpa using this
  have hI0 := hide hI0
  have cC := hide (took_any b s r [125] W hI0.out.rd hz (by simp))
  obtain ⟨i0, hi, hy0, hy1, hy2⟩ := info_parts info_strV
  obtain ⟨j0, hj, hv0, hv1, hv2⟩ := info_parts info_val
  have HV := hide hV
  have HW := hide hW
  have hl0 : (0 : Int) < (l : Int) + 1 := by omega
  clear hR hV hBW hW
  have HPL := hide hPl; have HEN := hide hEn
  rcases Bool.eq_false_or_eq_true ([125].isPrefixOf r) with hc | hc
  · rw [hc] at cC
    have hM := hide (show manyR (α := VT (l + 1)) (readV risingK l) true 125 r = .ok ([], []) (r.drop 1) by unfold manyR; rw [hc, if_pos rfl])
    go_enter Tryd.func67, Tryd.ntmps67
    go_wp2_with (go_at_call 37; refine (litNeed_yes _ _).mono ?_; rintro e wn ⟨rfl, rfl⟩)
    rw [HW.out]
    go_wp2_with fail
    refine cC.out.mono ?_
    rintro e w1 ⟨rfl, hM1, hR1⟩
    have hR1 : Rd w1 b s (r.drop 1) := by simpa using hR1
    have HI1 := hide (hI0.out.on hb hM1 hR1)
    clear hM1 hR1 hI0 cC
    have r0 := HI1.out.b0.cell 0; have r1 := HI1.out.b0.cell 1; have r2 := HI1.out.b0.cell 2; have r3 := HI1.out.b0.cell 3; have r4 := HI1.out.b0.cell 4
    have o0 := HI1.out.b1.cell 0; have o1 := HI1.out.b1.cell 1; have o2 := HI1.out.b1.cell 2; have o3 := HI1.out.b1.cell 3; have o4 := HI1.out.b1.cell 4
    have y0 := HI1.out.b1.frozen 0; have y1 := HI1.out.b1.frozen 1; have y2 := HI1.out.b1.frozen 2; have y3 := HI1.out.b1.frozen 3; have y4 := HI1.out.b1.frozen 4
    simp at r0 r1 r2 r3 r4 o0 o1 o2 o3 o4
    go_wp2_with fail
    obtain ⟨hV5, hM5, hR5, hK5⟩ := (HI1.out.done hb (.int .i64 6) (.int .i64 0) (.string ⟨#[]⟩) (.slice none 0 0) (.slice none 0 0))
    unfold put5 at hV5 hM5 hR5 hK5
    clear r0 r1 r2 r3 r4 o0 o1 o2 o3 o4 y0 y1 y2 y3 y4
    (try simp only [List.length_append, List.length_cons, List.length_nil, Nat.zero_add] at hV5 hM5 hR5 hK5)
    generalize ((((w1.setCell ⟨w.heap.size + 1, 0, none⟩ (.int .i64 6)).setCell ⟨w.heap.size + 1, 1, none⟩ (.int .i64 0)).setCell ⟨w.heap.size + 1, 2, none⟩ (.string ⟨#[]⟩)).setCell ⟨w.heap.size + 1, 3, none⟩ (.slice none 0 0)).setCell ⟨w.heap.size + 1, 4, none⟩ (.slice none 0 0) = w5 at hV5 hM5 hR5 hK5 ⊢
    have r0 := hK5.cell 0; have r1 := hK5.cell 1; have r2 := hK5.cell 2; have r3 := hK5.cell 3; have r4 := hK5.cell 4
    simp at r0 r1 r2 r3 r4
    have HV5 := hide hV5; have HM5 := hide hM5; have HR5 := hide hR5
    clear hV5 hM5 hR5
    (try simp only [Exit.inBlock, Exit.then])
    refine bodyPost_ret (v := valV 6 0 ⟨#[]⟩ none 0 0 none 0 0) ?_ rfl (show ItOut l 6 true 125 r b s w _ _ from .inl ⟨[], [], _, _, hM.out, rfl, HV5.out, HM5.out, HR5.out⟩)
    simp [results, Tryd.results67, go_sem, r0, r1, r2, r3, r4]
  · rw [hc] at cC
    have hM := hide (show manyR (α := VT (l + 1)) (readV risingK l) true 125 r = itemsR (readV risingK l) true 125 (r.length + 1) r by unfold manyR; rw [hc]; rfl)
    have hto := hide (ItTo.start (rv := (readV risingK l : List UInt8 → Out (VT (l + 1)))) (rec_ := true) (close := 125) (f := r.length + 1) (r := r))
    go_enter Tryd.func67, Tryd.ntmps67
    go_wp2_with (go_at_call 37; refine (litNeed_yes _ _).mono ?_; rintro e wn ⟨rfl, rfl⟩)
    rw [HW.out]
    go_wp2_with fail
    refine cC.out.mono ?_
    rintro e w1 ⟨rfl, hM1, hR1⟩
    have hR1 : Rd w1 b s r := by simpa using hR1
    have HI1 := hide (hI0.out.on hb hM1 hR1)
    clear hM1 hR1 hI0 cC
    go_wp2_with fail
    go_loopg [] r.length (fun gl wr => ∃ (g : Nat) (r' : List UInt8) (A0 : Option Addr) (cp : Nat) (A5 : Option Addr) (c5 : Nat) (ks : List (List UInt8)) (es : List VF) (xs : List (VT (l + 1))), r'.length = gl ∧ r'.length < g ∧ xs.length + r'.length ≤ r.length ∧ ks.length + r'.length ≤ r.length ∧ Hid (ItI w wr b s r' (l + 1) 6 A0 cp A5 c5 ks es xs) ∧ Hid (ItTo (readV risingK l : List UInt8 → Out (VT (l + 1))) true 125 (r.length + 1) r g r' ks xs))
    case atStart => exact ⟨r.length + 1, r, none, 0, none, 0, [], [], [], rfl, by omega, by simp, by simp, HI1, hto⟩
    case round =>
      obtain ⟨g, r', A0, cp, A5, c5, ks, es, xs, hgl, hg, hxl, hkl, HI, hto⟩ := hrel
      obtain ⟨g, rfl⟩ : ∃ g', g = g' + 1 := ⟨g - 1, by omega⟩
      clear HI1
      have k0 := HI.out.b0.cell 0
      simp at k0
      go_wp2_with fail
      have cQ := hide (took_any b s r' [34] wr HI.out.rd hz (by simp))
      rcases Bool.eq_false_or_eq_true ([34].isPrefixOf r') with hq | hq
      rotate_left
      · have HB := hide (hM.out.trans (hto.out.nokey (show keyR true r' = none by unfold keyR; simp [hq])))
        rw [hq] at cQ
        refine cQ.out.mono ?_
        rintro e w1 ⟨rfl, hM1, _⟩
        go_wp2_with (go_at_call 37; refine (litNeed_no _ _).mono ?_; rintro e wn ⟨rfl, rfl⟩)
        exact ⟨rfl, (show ItOut l 6 true 125 r b s w _ _ from .inr ⟨33, HB.out, rfl, HI.out.mv.trans hM1⟩)⟩
      rw [hq] at cQ
      refine cQ.out.mono ?_
      rintro e w1 ⟨rfl, hM1, hR1⟩
      have hR1 : Rd w1 b s (r'.drop 1) := by simpa using hR1
      have HI1 := hide (HI.out.on hb hM1 hR1)
      have hlt1 : (r'.drop 1).length + 1 ≤ r'.length := by
        have : 1 ≤ r'.length := (List.isPrefixOf_iff_prefix.1 hq).length_le
        simp; omega
      have hws1 := HI1.out.mv.size
      have hb1l1 := HI1.out.b1.lt
      clear hM1 hR1 cQ HI k0
      go_wp2_with (go_at_call 37; refine (litNeed_yes _ _).mono ?_; rintro e wn ⟨rfl, rfl⟩)
      rcases str_any HPL.out HEN.out b r'.length s (r'.drop 1) w1 HI1.out.rd hz (by omega) with ⟨x1, t1, hs, _⟩ | ⟨hs, _⟩
      rotate_left
      · have HB := hM.out.trans (hto.out.nokey (show keyR true r' = none by unfold keyR; simp only [hq, if_true, hs]))
        have cS := hide (fun W' (hW' : Below w1.heap.size w1 W') => str_bad HPL.out HEN.out b r'.length s (r'.drop 1) W' (HI1.out.rd.below hW') hz (by omega) hs)
        have HPn : Hid (∀ wP, Moved b w1.drew wP → ItOut l 6 true 125 r b s w (panE 33) wP) := hide (fun wP hMP => .inr ⟨33, HB, rfl, (HI1.out.mv.step (Below.refl w1.heap.size w1).drew).trans hMP⟩)
        have q4 := HI1.out.b0.cell 4
        simp at q4
        go_region_dies
        all_goals
          refine (cS.out _ (Below.refl _ _).drew).mono ?_
          rintro e wP ⟨rfl, hMP⟩
          exact ⟨rfl, HPn.out _ hMP⟩
      have cS := hide (fun W' (hW' : Below w1.heap.size w1 W') => str_ok HPL.out HEN.out b r'.length s (r'.drop 1) W' (HI1.out.rd.below hW') hz (by omega) hs)
      have q4 := HI1.out.b0.cell 4
      simp at q4
      have l01 := HI1.out.b0.lt
      have hne5 : some w.heap.size ≠ (Value.slice A5 ks.length c5).ownBlock := fun e => by have := (HI1.out.keys.lt _ e.symm).1; omega
      have htl : t1.length + 1 ≤ (r'.drop 1).length := by
        have := congrArg List.length (str_back _ _ _ _ hs)
        rw [List.length_append, List.length_cons] at this; omega
      go_region_law (first
        | (refine step_append_lies _ rfl (.tmp 23) (.tmp 26) 24 rfl (w.heap.size + 2) 9 i0 (.string ⟨#[]⟩) 1 16 Tryd.underlying24 hi hy0 hy1 hy2 rfl (by decide) (.slice A5 ks.length c5) ks.length _ (by simp [Act.eval, Act.put]) (hownP.alloc _) ⟨wP.heap.size, 0, none⟩ 1 1 [strV x1] (by simp [Act.eval, Act.put]) rfl (by intro t u ht; match t, ht with | 0, ht => (simp at ht; subst ht; simp [Addr.add])) (by intro u hu; simp at hu; subst hu; rfl) (by omega) (by unfold maxLen; omega) (by omega) (by simp; omega) _ rfl ?_; intro g8 cp8 w8 hown8 hgrow8 hat8 hlt8; have hb3 := (HB0.out.alloc _).grown hgrow8 hne5; have zz4 := hb3.frozen 4; have qq4 := hb3.cell 4; have l8 := hb3.lt; simp at qq4)
        | (go_simp; go_at_call 66; refine (cS.out _ (Below.refl _ _).drew).mono ?_; rintro e wP ⟨rfl, hMP, hRP⟩; have HP := hide ((HI1.out.below hb (Below.refl w1.heap.size w1).drew).on hb hMP hRP); have hownP := HP.out.keys; have HB0 := hide HP.out.b0; have lP := HP.out.b0.lt; have hsP := hMP.size; have q4P := HP.out.b0.cell 4; have zq4P := HP.out.b0.frozen 4; simp at q4P; clear hMP hRP))
      all_goals
        have HN1 : ItI w (w8.setCell ⟨w.heap.size, 4, none⟩ (.slice (some ⟨g8, 0, none⟩) (ks.length + 1) cp8)) b s t1 (l + 1) 6 A0 cp (some ⟨g8, 0, none⟩) cp8 (ks ++ [x1]) es xs := by
          first
            | exact HP.out.key hb ((Below.refl wP.heap.size wP).alloc (Nat.le_refl _) _) hgrow8 hown8 hat8
            | exact HP.out.key hb (((Below.refl wP.heap.size wP).alloc (Nat.le_refl _) _).drew) hgrow8 hown8 hat8
        have HN1 := hide HN1
        clear hown8 hgrow8 hat8 hownP hb3 qq4 zz4 HB0 q4P zq4P HP l8 hlt8 lP hsP q4 cS HI1 hne5
        generalize w8.setCell ⟨w.heap.size, 4, none⟩ (.slice (some ⟨g8, 0, none⟩) (ks.length + 1) cp8) = w2 at HN1 ⊢
        have cD := hide (took_any b s t1 [58] w2 HN1.out.rd hz (by simp))
        go_wp2_with fail
        rcases Bool.eq_false_or_eq_true ([58].isPrefixOf t1) with hd | hd
        rotate_left
        · have HB := hide (hM.out.trans (hto.out.nokey (show keyR true r' = none by unfold keyR; simp only [hq, hs, hd, if_true, if_false, Bool.false_eq_true])))
          rw [hd] at cD
          refine cD.out.mono ?_
          rintro e w3 ⟨rfl, hM3, _⟩
          go_wp2_with (go_at_call 37; refine (litNeed_no _ _).mono ?_; rintro e wn ⟨rfl, rfl⟩)
          exact ⟨rfl, (show ItOut l 6 true 125 r b s w _ _ from .inr ⟨33, HB.out, rfl, HN1.out.mv.trans hM3⟩)⟩
        rw [hd] at cD
        refine cD.out.mono ?_
        rintro e w3 ⟨rfl, hM3, hR3⟩
        have hR3 : Rd w3 b s (t1.drop 1) := by simpa using hR3
        have HI3 := HN1.out.on hb hM3 hR3
        have HKEY := hide (show keyR true r' = some ([x1], t1.drop 1) by unfold keyR; simp only [hq, hs, hd, if_true, if_false, Bool.false_eq_true])
        clear hM3 hR3 cD HN1
        obtain ⟨r1, hr1⟩ : ∃ q, t1.drop 1 = q := ⟨_, rfl⟩
        obtain ⟨ks2, hks2⟩ : ∃ q, ks ++ [x1] = q := ⟨_, rfl⟩
        obtain ⟨A6, hA6⟩ : ∃ q : Option Addr, (some ⟨g8, 0, none⟩ : Option Addr) = q := ⟨_, rfl⟩
        obtain ⟨c6, hc6⟩ : ∃ q : Nat, cp8 = q := ⟨_, rfl⟩
        rw [hr1] at HKEY HI3
        rw [hks2, hA6, hc6] at HI3
        have hr1l : r1.length + 1 ≤ t1.length := by
          rw [← hr1]
          have : 1 ≤ t1.length := (List.isPrefixOf_iff_prefix.1 hd).length_le
          simp; omega
        have hk2l : ks2.length = ks.length + 1 := by rw [← hks2]; simp
        have hkl3 : ks2.length + r1.length ≤ r.length := by omega
        have hxl3 : xs.length + r1.length ≤ r.length := by omega
        have HKS := hide hks2
        have HI3 := hide HI3
        clear hr1 hks2 hA6 hc6 hk2l
        go_wp2_with (go_at_call 37; refine (litNeed_yes _ _).mono ?_; rintro e wn ⟨rfl, rfl⟩)
        have hrl : r1.length ≤ s.length := by omega
        have hel := hide HI3.out.row.len
        have hxe : es.length + r1.length ≤ r.length := by rw [hel.out]; exact hxl3
        have hwl : IntKind.i64.wrap (l : Int) = (l : Int) := by rw [IntKind.wrap_i64]; omega
        have hws := HI3.out.mv.size
        have hb1l := HI3.out.b1.lt
        have l0 := HI3.out.b0.lt
        have hne : some w.heap.size ≠ (Value.slice A0 xs.length cp).ownBlock := fun e => by have := (HI3.out.row.own.lt _ e.symm).1; omega
        have hMl := hide (fun q (hq : (Value.slice A0 xs.length cp).ownBlock = some q) => (HI3.out.row.own.lt q hq).2)
        have hM2l := hide (fun q (hq : (Value.slice A6 ks2.length c6).ownBlock = some q) => (HI3.out.keys.lt q hq).2)
        rcases ValOK.split HV.out w3 r1 HI3.out.rd with ⟨x, r2, hx, _⟩ | ⟨y, hy, _⟩
        · have cV := hide (fun W' (hW' : Below w3.heap.size w3 W') => (ValOK.ok HV.out W' r1 (HI3.out.rd.below hW') hx))
          have q3 := HI3.out.b0.cell 3
          simp at q3
          go_region_law (first
            | (refine step_append_lies _ rfl (.tmp 33) (.tmp 38) 23 rfl (w.heap.size + 2) 26 j0 (.agg #[.int .i64 0, .int .i64 0, .string ⟨#[]⟩, .slice none 0 0, .slice none 0 0]) 5 80 Tryd.underlying23 hj hv0 hv1 hv2 rfl (by decide) (.slice A0 xs.length cp) es.length _ (by simp [Act.eval, Act.put]) (hownP.alloc _) ⟨wP.heap.size, 0, none⟩ 1 1 ev.cells (by simp [Act.eval, Act.put]) rfl (by intro t u ht; match t, ht with | 0, ht => (simp [VF.cells] at ht; subst ht; simp [Addr.add]) | 1, ht => (simp [VF.cells] at ht; subst ht; simp [Addr.add]) | 2, ht => (simp [VF.cells] at ht; subst ht; simp [Addr.add]) | 3, ht => (simp [VF.cells] at ht; subst ht; simp [Addr.add]) | 4, ht => (simp [VF.cells] at ht; subst ht; simp [Addr.add])) (by intro u hu; simp [VF.cells] at hu; rcases hu with rfl | rfl | rfl | rfl | rfl <;> rfl) (by omega) (by unfold maxLen; omega) (by omega) (by simp; omega) _ rfl ?_; intro g4 cp4 w4 hown4 hgrow4 hat4 hlt4; have hb3 := (HB0.out.alloc _).grown hgrow4 hne; have zz3 := hb3.frozen 3; have qq3 := hb3.cell 3; have l4 := hb3.lt; simp at qq3)
            | (go_simp; go_at_call 36; refine (cV.out _ (Below.refl _ _).drew).mono ?_; rintro e wP ⟨v', rfl, hVP, hMP, hRP⟩; obtain ⟨ev, rfl⟩ := hVP.shape; have HP := hide ((HI3.out.below hb (Below.refl w3.heap.size w3).drew).on hb hMP hRP); have hVP2 := hide hVP; have hownP := HP.out.row.own; have HB0 := hide HP.out.b0; have lP := HP.out.b0.lt; have hsP := hMP.size; have q3P := HP.out.b0.cell 3; have zq3P := HP.out.b0.frozen 3; simp at q3P; clear hVP hMP hRP))
          all_goals
            have HN : ItI w (w4.setCell ⟨w.heap.size, 3, none⟩ (.slice (some ⟨g4, 0, none⟩) (es.length + 1) cp4)) b s r2 (l + 1) 6 (some ⟨g4, 0, none⟩) cp4 A6 c6 ks2 (es ++ [ev]) (xs ++ [x]) := by
              first
                | exact HP.out.item (M := w3.heap.size) hb hVP2.out hMl.out hM2l.out (by omega) ((Below.refl wP.heap.size wP).alloc (Nat.le_refl _) _) hgrow4 hown4 hat4
                | exact HP.out.item (M := w3.heap.size) hb hVP2.out hMl.out hM2l.out (by omega) (((Below.refl wP.heap.size wP).alloc (Nat.le_refl _) _).drew) hgrow4 hown4 hat4
            have hlx : (xs ++ [x]).length = es.length + 1 := by rw [List.length_append, hel.out]; rfl
            have HLX := hide hlx
            have hr2 : r2.length ≤ r1.length := readV_len hx
            have HN := hide HN
            clear hown4 hgrow4 hat4 hownP hb3 qq3 zz3 HB0 q3P zq3P HP hVP2 l4 hlt4 lP hsP hlx
            generalize w4.setCell ⟨w.heap.size, 3, none⟩ (.slice (some ⟨g4, 0, none⟩) (es.length + 1) cp4) = w5 at HN ⊢
            have cE := hide (took_any b s r2 [125] w5 HN.out.rd hz (by simp))
            go_wp2_with fail
            rcases Bool.eq_false_or_eq_true ([125].isPrefixOf r2) with hc2 | hc2
            · have HM2 := hide (hM.out.trans (hto.out.done (k1 := [x1]) (r1 := r1) HKEY.out hx hc2))
              rw [hc2] at cE
              refine cE.out.mono ?_
              rintro e w6 ⟨rfl, hM6, hR6⟩
              have hR6 : Rd w6 b s (r2.drop 1) := by simpa using hR6
              have HI6 := hide (HN.out.on hb hM6 hR6)
              rw [HKS.out] at HM2
              clear hM6 hR6 cE HN q3
              have r0 := HI6.out.b0.cell 0; have r1 := HI6.out.b0.cell 1; have r2 := HI6.out.b0.cell 2; have r3 := HI6.out.b0.cell 3; have r4 := HI6.out.b0.cell 4
              have o0 := HI6.out.b1.cell 0; have o1 := HI6.out.b1.cell 1; have o2 := HI6.out.b1.cell 2; have o3 := HI6.out.b1.cell 3; have o4 := HI6.out.b1.cell 4
              have y0 := HI6.out.b1.frozen 0; have y1 := HI6.out.b1.frozen 1; have y2 := HI6.out.b1.frozen 2; have y3 := HI6.out.b1.frozen 3; have y4 := HI6.out.b1.frozen 4
              simp at r0 r1 r2 r3 r4 o0 o1 o2 o3 o4
              go_wp2_with fail
              obtain ⟨hV5, hM5, hR5, hK5⟩ := (HI6.out.done hb (.int .i64 6) (.int .i64 0) (.string ⟨#[]⟩) (.slice (some ⟨g4, 0, none⟩) (xs.length + 1) cp4) (.slice A6 ks2.length c6))
              unfold put5 at hV5 hM5 hR5 hK5
              clear r0 r1 r2 r3 r4 o0 o1 o2 o3 o4 y0 y1 y2 y3 y4
              (try simp only [List.length_append, List.length_cons, List.length_nil, Nat.zero_add] at hV5 hM5 hR5 hK5)
              generalize ((((w6.setCell ⟨w.heap.size + 1, 0, none⟩ (.int .i64 6)).setCell ⟨w.heap.size + 1, 1, none⟩ (.int .i64 0)).setCell ⟨w.heap.size + 1, 2, none⟩ (.string ⟨#[]⟩)).setCell ⟨w.heap.size + 1, 3, none⟩ (.slice (some ⟨g4, 0, none⟩) (xs.length + 1) cp4)).setCell ⟨w.heap.size + 1, 4, none⟩ (.slice A6 ks2.length c6) = w5 at hV5 hM5 hR5 hK5 ⊢
              have r0 := hK5.cell 0; have r1 := hK5.cell 1; have r2 := hK5.cell 2; have r3 := hK5.cell 3; have r4 := hK5.cell 4
              simp at r0 r1 r2 r3 r4
              have HV5 := hide hV5; have HM5 := hide hM5; have HR5 := hide hR5
              clear hV5 hM5 hR5
              (try simp only [Exit.inBlock, Exit.then])
              refine bodyPost_ret (v := valV 6 0 ⟨#[]⟩ (some ⟨g4, 0, none⟩) (xs.length + 1) cp4 A6 ks2.length c6) ?_ rfl (show ItOut l 6 true 125 r b s w _ _ from .inl ⟨ks2, (xs ++ [x]), _, _, HM2.out, rfl, HV5.out, HM5.out, HR5.out⟩)
              simp [results, Tryd.results67, go_sem, r0, r1, r2, r3, r4]
            · rw [hc2] at cE
              refine cE.out.mono ?_
              rintro e w6 ⟨rfl, hM6, hR6⟩
              have hR6 : Rd w6 b s r2 := by simpa using hR6
              have HI6 := hide (HN.out.on hb hM6 hR6)
              clear hM6 hR6 cE HN q3
              have cK := hide (took_any b s r2 [44] w6 HI6.out.rd hz (by simp))
              rcases Bool.eq_false_or_eq_true ([44].isPrefixOf r2) with hm | hm
              · have hnx := hide (hto.out.next (k1 := [x1]) (r1 := r1) HKEY.out hx hc2 hm)
                rw [HKS.out] at hnx
                have hr3 : (r2.drop 1).length + 1 ≤ r2.length := by
                  have : 1 ≤ r2.length := (List.isPrefixOf_iff_prefix.1 hm).length_le
                  simp; omega
                rw [hm] at cK
                go_wp2_with fail
                refine cK.out.mono ?_
                rintro e w7 ⟨rfl, hM7, hR7⟩
                have hR7 : Rd w7 b s (r2.drop 1) := by simpa using hR7
                have HI7 := hide (HI6.out.on hb hM7 hR7)
                clear hM7 hR7 cK HI6
                go_wp2_with (go_at_call 37; refine (litNeed_yes _ _).mono ?_; rintro e wn ⟨rfl, rfl⟩)
                go_roundg (r2.drop 1).length
                case measure => omega
                case rel => exact ⟨g, r2.drop 1, _, _, _, _, _, _, _, rfl, by omega, by rw [HLX.out]; omega, by omega, HI7, hnx⟩
              · have HB := hide (hM.out.trans (hto.out.odd (k1 := [x1]) (r1 := r1) HKEY.out hx hc2 hm))
                rw [hm] at cK
                go_wp2_with fail
                refine cK.out.mono ?_
                rintro e w7 ⟨rfl, hM7, _⟩
                go_wp2_with (go_at_call 37; refine (litNeed_no _ _).mono ?_; rintro e wn ⟨rfl, rfl⟩)
                exact ⟨rfl, (show ItOut l 6 true 125 r b s w _ _ from .inr ⟨33, HB.out, rfl, HI6.out.mv.trans hM7⟩)⟩
        · have cV := hide (fun W' (hW' : Below w3.heap.size w3 W') => (ValOK.bad HV.out W' r1 (HI3.out.rd.below hW') hy))
          have HB := hto.out.noval (k1 := [x1]) (r1 := r1) HKEY.out hy
          have HPn : Hid (∀ wP, Moved b w3.drew wP → ItOut l 6 true 125 r b s w (panE y) wP) := hide (fun wP hMP => .inr ⟨y, hM.out.trans HB, rfl, (HI3.out.mv.step (Below.refl w3.heap.size w3).drew).trans hMP⟩)
          have q3 := HI3.out.b0.cell 3
          simp at q3
          go_region_dies
          all_goals
            refine (cV.out _ (Below.refl _ _).drew).mono ?_
            rintro e wP ⟨rfl, hMP⟩
            exact ⟨rfl, HPn.out _ hMP⟩
end Go.Proofs.YtdnmgpidfjkiaaaDoor
