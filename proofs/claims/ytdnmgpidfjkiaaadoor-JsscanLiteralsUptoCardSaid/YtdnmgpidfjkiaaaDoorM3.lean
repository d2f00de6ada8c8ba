/-
  PLAIN LAWS of many texts, in one.
-/
import Derived.Test.YtdnmgpidfjkiaaaDoorAttr
import Derived.Test.YtdnmgpidfjkiaaaDoorM1
import Derived.Test.YtdnmgpidfjkiaaaDoorUnhexP
import Derived.Test.YtdnmgpidfjkiaaaDoorOct
import Derived.Test.YtdnmgpidfjkiaaaDoorM2
import Derived.Test.YtdnmgpidfjkiaaaDoorM6
import Derived.Deep.QuietTactic
import Derived.Defers
import Derived.Recover
import Derived.Test.YtdnmgpidfjkiaaaDoorBuildT
import Derived.Deep.LoopGhost
import Derived.Test.YtdnmgpidfjkiaaaDoorParse
import Derived.Test.YtdnmgpidfjkiaaaDoorPctEnc
import Derived.Test.YtdnmgpidfjkiaaaDoorVRow
namespace Go.Proofs.YtdnmgpidfjkiaaaDoor
open Go.RowKit
set_option linter.unusedVariables false
set_option linter.unusedSimpArgs false

/-- All blocks but one stay. -/
abbrev Moved (b : Nat) (w w' : World) : Prop := w.grownBy w' (some b)
theorem Moved.refl (b : Nat) (w : World) : Moved b w w := ⟨rfl, rfl, rfl, Nat.le_refl _, fun _ _ _ => rfl⟩
theorem Moved.trans {b : Nat} {w w1 w2 : World} (h : Moved b w w1) (k : Moved b w1 w2) : Moved b w w2 :=
  ⟨k.os.trans h.os, k.tape.trans h.tape, k.output.trans h.output, Nat.le_trans h.size k.size, fun j hj hne => (k.block j (Nat.lt_of_lt_of_le hj h.size) hne).trans (h.block j hj hne)⟩
theorem Moved.of_below {b : Nat} {w w' : World} (h : Below w.heap.size w w') : Moved b w w' := ⟨h.os, h.tape, h.output, h.size, fun j hj _ => h.block j hj⟩
theorem Moved.step {b : Nat} {w w1 w2 : World} (h : Moved b w w1) (k : Below w1.heap.size w1 w2) : Moved b w w2 := h.trans (.of_below k)
theorem Moved.set_ {b : Nat} (w : World) (i : Nat) (v : Value) : Moved b w (w.setCell ⟨b, i, none⟩ v) :=
  ⟨rfl, rfl, rfl, by simp, fun j hj hne => Below.heap_setCell w ⟨b, i, none⟩ v j (fun e => hne (by rw [e]))⟩
theorem Moved.blk {b g : Nat} {w w' : World} {t : TypeId} {cs : Array Value} (h : Moved b w w') (hk : Blk w g t cs) (hg : g ≠ b) : Blk w' g t cs :=
  (h.block g hk.lt (fun e => hg (by injection e))).trans hk
theorem Moved.below {b B : Nat} {w w' : World} (h : Moved b w w') (h1 : B ≤ b) (h2 : B ≤ w.heap.size) : Below B w w' :=
  ⟨h.os, h.tape, h.output, h.size, fun j hj => h.block j (by omega) (fun e => by injection e with e; omega)⟩
/-- The reader's block, and what is left to be read. -/
def Rd (w : World) (b : Nat) (s r : List UInt8) : Prop := ∃ a, a + r.length = s.length ∧ s.drop a = r ∧ Blk w b 60 #[.string ⟨s.toArray⟩, .int .i64 (a : Int)]
theorem Rd.lt {w : World} {b : Nat} {s r : List UInt8} (h : Rd w b s r) : b < w.heap.size := by obtain ⟨_, _, _, h⟩ := h; exact h.lt
theorem Rd.below {w w' : World} {b : Nat} {s r : List UInt8} (h : Rd w b s r) (hb : Below w.heap.size w w') : Rd w' b s r := by
  obtain ⟨a, h1, h2, h3⟩ := h
  exact ⟨a, h1, h2, h3.below hb h3.lt⟩
theorem Rd.far {w : World} {b : Nat} {s r : List UInt8} (h : Rd w b s r) {p : Addr} (hp : b ≠ p.block) (u : Value) : Rd (w.setCell p u) b s r := by
  obtain ⟨a, h1, h2, h3⟩ := h
  exact ⟨a, h1, h2, h3.far hp u⟩
theorem Rd.len {w : World} {b : Nat} {s r : List UInt8} (h : Rd w b s r) : r.length ≤ s.length := by obtain ⟨a, h1, _⟩ := h; omega
theorem Rd.go {w' : World} {b : Nat} {s r : List UInt8} {a d : Nat} (h1 : a + r.length = s.length) (h2 : s.drop a = r) (hd : d ≤ r.length)
    (h3 : Blk w' b 60 #[.string ⟨s.toArray⟩, .int .i64 ((a + d : Nat) : Int)]) : Rd w' b s (r.drop d) :=
  ⟨a + d, by simp; omega, by rw [← h2, List.drop_drop], h3⟩
abbrev errV (y : Int) : Value := .iface 27 (.int .i64 y)
abbrev panE (y : Int) : Ending := .panicked [{ v := errV y, recovered := false }]
set_option maxHeartbeats 400000 in
theorem litNeed_yes (e : Int) (w : World) : Calls Tryd.prog 37 #[.bool true, .int .i64 e] w fun r w' => r = .returned (.tuple #[]) ∧ w = w' := by
  go_enter Tryd.func37, Tryd.ntmps37
  go_wp2_with fail
  go_end0
  exact ⟨rfl, rfl⟩
set_option maxHeartbeats 400000 in
theorem litNeed_no (y : Int) (w : World) : Calls Tryd.prog 37 #[.bool false, .int .i64 y] w fun r w' => r = panE y ∧ w = w' := by
  go_enter Tryd.func37, Tryd.ntmps37
  go_wp2_with fail
  simp [bodyPost]
theorem ext_dropR (s : List UInt8) (a n : Nat) (hn : a + (s.drop a).length = s.length) (h : n = s.length) : (⟨s.toArray⟩ : ByteArray).extract a n = ⟨(s.drop a).toArray⟩ := by
  subst h
  apply ByteArray.ext
  apply Array.toList_inj.1
  rw [← Lib.toList_data, Lib.extract_toList]
  simp [List.take_of_length_le]
set_option maxHeartbeats 1000000 in
set_option maxRecDepth 100000 in
theorem took_any (b : Nat) (s r p : List UInt8) (w : World) (hR : Rd w b s r) (hz : s.length ≤ 1000000000) (hpz : p.length ≤ 1000) :
    Calls Tryd.prog 65 #[.pointer (some ⟨b, 0, none⟩), .string ⟨p.toArray⟩] w fun e w' => e = .returned (.bool (p.isPrefixOf r)) ∧ Moved b w w' ∧ Rd w' b s (if p.isPrefixOf r then r.drop p.length else r) := by
  obtain ⟨a, h1, h2, hk⟩ := hR
  have hx : (⟨s.toArray⟩ : ByteArray).extract a s.length = ⟨r.toArray⟩ := by rw [← h2]; exact ext_dropR s a _ (by rw [h2]; exact h1) rfl
  have cP := fun w => hasPrefix_any ⟨r.toArray⟩ ⟨p.toArray⟩ w
  rw [show Lib.hasPrefix (⟨r.toArray⟩ : ByteArray).data.toList (⟨p.toArray⟩ : ByteArray).data.toList = p.isPrefixOf r from rfl] at cP
  have hle : p.isPrefixOf r = true → p.length ≤ r.length := fun h => (List.isPrefixOf_iff_prefix.1 h).length_le
  have HG := hide (fun (w' : World) (d : Nat) (hd : d ≤ r.length) (h3 : Blk w' b 60 #[.string ⟨s.toArray⟩, .int .i64 ((a + d : Nat) : Int)]) => Rd.go h1 h2 hd h3)
  have hai : (a : Int) ≤ (s.length : Int) := by omega
  have has : s.length ≤ 1000000000 := hz
  have c0 := hk.cell 0; have c1 := hk.cell 1; have f1 := hk.frozen 1
  simp at c0 c1
  have hbl := hk.lt
  have HK := hide hk
  rcases Bool.eq_false_or_eq_true (p.isPrefixOf r) with hp | hp
  · have hpl := hle hp
    rw [hp] at cP
    rw [hp]
    have cP := hide cP
    have hmk : (⟨p.toArray⟩ : ByteArray).size = p.length := mk_size p
    have hms : (⟨s.toArray⟩ : ByteArray).size = s.length := mk_size s
    clear hp hle hk h2
    go_enter Tryd.func65, Tryd.ntmps65
    go_wp2_with fail
    go_quiet (first | (go_at_call 59; exact Calls.quiet_of ((cP.out _).mono fun e w' h => ⟨h.1, 0, h.2.symm⟩)))
    have c0 := (HK.out.drewN nq).cell 0; have c1 := (HK.out.drewN nq).cell 1; have f1 := (HK.out.drewN nq).frozen 1
    simp at c0 c1
    go_wp2_with fail
    go_ret
    refine ⟨rfl, (Moved.of_below (below_drewN (Below.refl _ _) nq)).trans (Moved.set_ _ _ _), ?_⟩
    have h3 := (HK.out.drewN nq).set_ 1 (.int .i64 ((a : Int) + (p.length : Int)))
    simp at h3
    exact HG.out _ p.length hpl (by simpa using h3)
  · rw [hp] at cP
    rw [hp]
    have cP := hide cP
    have hms : (⟨s.toArray⟩ : ByteArray).size = s.length := mk_size s
    clear hp hle hk h2
    go_enter Tryd.func65, Tryd.ntmps65
    go_wp2_with fail
    go_quiet (first | (go_at_call 59; exact Calls.quiet_of ((cP.out _).mono fun e w' h => ⟨h.1, 0, h.2.symm⟩)))
    go_wp2_with fail
    go_ret
    exact ⟨rfl, Moved.of_below (below_drewN (Below.refl _ _) nq), by simpa using HG.out _ 0 (Nat.zero_le _) (by simpa using HK.out.drewN nq)⟩
set_option maxHeartbeats 1000000 in
set_option maxRecDepth 100000 in
theorem octLowerH_any (s : List UInt8) (w : World) (hs : s.length ≤ 1000000000) :
    Calls Tryd.prog 126 #[.string ⟨s.toArray⟩] w fun e w' => e = .returned (.string ⟨(s.map smallB).toArray⟩) ∧ Below w.heap.size w w' := by
  have hc := hide (lower_any ⟨s.toArray⟩ w (by rw [mk_size]; omega))
  go_enter Tryd.func126, Tryd.ntmps126
  go_wp2_with (go_at_call 148; refine (Hid.out hc).mono ?_; rintro e w1 ⟨rfl, hb⟩)
  go_ret
  exact ⟨by simp, hb⟩
theorem ext_four (s : List UInt8) (a : Nat) : (⟨s.toArray⟩ : ByteArray).extract a (a + 4) = ⟨((s.drop a).take 4).toArray⟩ := by
  apply ByteArray.ext
  apply Array.toList_inj.1
  rw [← Lib.toList_data, Lib.extract_toList]
  simp
set_option maxHeartbeats 2000000 in
set_option maxRecDepth 100000 in
theorem half_short (b : Nat) (s r : List UInt8) (w : World) (hR : Rd w b s r) (hz : s.length ≤ 1000000000) (h4 : r.length < 4) :
    Calls Tryd.prog 98 #[.pointer (some ⟨b, 0, none⟩)] w fun e w' => e = panE 33 ∧ Moved b w w' := by
  obtain ⟨a, h1, h2, hk⟩ := hR
  have hms : (⟨s.toArray⟩ : ByteArray).size = s.length := mk_size s
  have hge : decide ((4 : Int) ≤ (s.length : Int) - (a : Int)) = false := by simp; omega
  have hwr : IntKind.i64.wrap ((s.length : Int) - (a : Int)) = (s.length : Int) - (a : Int) := by rw [IntKind.wrap_i64]; omega
  have c0 := hk.cell 0; have c1 := hk.cell 1
  simp at c0 c1
  have hai : (a : Int) ≤ (s.length : Int) := by omega
  clear h1 h2 h4
  go_enter Tryd.func98, Tryd.ntmps98
  go_wp2_with fail
  have zb := hk.lt
  refine wp_region_tail_below (W := w) 11 (by kernel_rfl) (by kernel_rfl) (Below.refl _ _) ?_
  simp only [List.take, List.drop]
  repeat (first
    | go_big_quiet_skip
    | (apply wpQuiet_one (by rfl)
       · intro w' hw'
         have hc := (bcell hw').1
         go_simp
         first
           | done
           | rfl
       · go_simp
         rfl))
  refine wpQuiet_nil ?_
  intro w5 hw5

  clear c0 c1 hwr hge
  go_wp2_with (go_at_call 37; refine (litNeed_no _ _).mono ?_; rintro e wn ⟨rfl, rfl⟩)
  simp [bodyPost]
  exact Moved.of_below hw5
-- HALF
set_option maxHeartbeats 2000000 in
set_option maxRecDepth 100000 in
theorem half_odd (b : Nat) (s r : List UInt8) (w : World) (hR : Rd w b s r) (hz : s.length ≤ 1000000000) (h4 : 4 ≤ r.length) (he : (pUnhex (r.take 4)).2 ≠ 0) :
    Calls Tryd.prog 98 #[.pointer (some ⟨b, 0, none⟩)] w fun e w' => e = panE 33 ∧ Moved b w w' := by
  obtain ⟨a, h1, h2, hk⟩ := hR
  have hms : (⟨s.toArray⟩ : ByteArray).size = s.length := mk_size s
  have hge : decide ((4 : Int) ≤ (s.length : Int) - (a : Int)) = true := by simp; omega
  have HG := hide (fun (w' : World) (h3 : Blk w' b 60 #[.string ⟨s.toArray⟩, .int .i64 ((a + 4 : Nat) : Int)]) => Rd.go h1 h2 h4 h3)
  have hx : (⟨s.toArray⟩ : ByteArray).extract a (a + 4) = ⟨(r.take 4).toArray⟩ := by rw [ext_four, h2]
  have htl : (r.take 4).length = 4 := by simp; omega
  have cU := fun w => unhex_any ⟨(r.take 4).toArray⟩ w (by rw [mk_size]; omega)
  have cL := fun w => octLowerH_any (r.take 4) w (by omega)
  rw [show (⟨(r.take 4).toArray⟩ : ByteArray).data.toList = r.take 4 from rfl] at cU
  generalize r.take 4 = t at cU cL hx htl he ⊢
  generalize pUnhex t = N at cU he
  obtain ⟨n, e⟩ := N
  simp only at cU he
  have hef : (e == 0) = false := by simpa using he
  clear he
  have cU := hide cU
  have cL := hide cL
  have c0 := hk.cell 0; have c1 := hk.cell 1
  simp at c0 c1
  have hai : (a : Int) + 4 ≤ (s.length : Int) := by omega
  have hzi : (s.length : Int) ≤ 1000000000 := by omega
  have HK := hide hk
  clear h1 h2 h4 hk
  go_enter Tryd.func98, Tryd.ntmps98
  go_wp2_with fail
  go_quiet (first | (go_at_call 37; exact Calls.quiet_of ((litNeed_yes 33 _).mono fun e w' h => ⟨h.1, 0, h.2.symm⟩)))
  have hBw := below_drewN (Below.refl w.heap.size w) nq
  have HK1 := hide (HK.out.drewN nq)
  generalize w.drewN nq = w1 at hBw HK1 ⊢
  clear c0 c1
  have c0 := HK1.out.cell 0; have c1 := HK1.out.cell 1
  simp at c0 c1
  go_wp2_with fail
  go_quiet (first | fail)
  have hBw2 := below_drewN hBw nq
  have HK12 := hide (HK1.out.drewN nq)
  generalize w1.drewN nq = w12 at hBw2 HK12 ⊢
  clear c0 c1
  go_wp2_with fail
  refine (cU.out _).mono ?_
  rintro e2 w2 ⟨rfl, hb2⟩
  have hB2 := below_step hBw2 hb2
  have K2 := HK12.out.below hb2 HK12.out.lt
  have HB2 := hide hB2
  have HK2 := hide K2
  have c0 := K2.cell 0; have c1 := K2.cell 1; have f1 := K2.frozen 1
  simp at c0 c1
  clear hb2 hB2 K2 cU
  go_wp2_with (go_at_call 37; refine (litNeed_no _ _).mono ?_; rintro e wn ⟨rfl, rfl⟩)
  simp [bodyPost]
  exact Moved.of_below HB2.out
set_option maxHeartbeats 2000000 in
set_option maxRecDepth 100000 in
theorem half_great (b : Nat) (s r : List UInt8) (w : World) (hR : Rd w b s r) (hz : s.length ≤ 1000000000) (h4 : 4 ≤ r.length) (he : (pUnhex (r.take 4)).2 = 0) (hm : (r.take 4).map smallB ≠ r.take 4) :
    Calls Tryd.prog 98 #[.pointer (some ⟨b, 0, none⟩)] w fun e w' => e = panE 33 ∧ Moved b w w' := by
  obtain ⟨a, h1, h2, hk⟩ := hR
  have hms : (⟨s.toArray⟩ : ByteArray).size = s.length := mk_size s
  have hge : decide ((4 : Int) ≤ (s.length : Int) - (a : Int)) = true := by simp; omega
  have HG := hide (fun (w' : World) (h3 : Blk w' b 60 #[.string ⟨s.toArray⟩, .int .i64 ((a + 4 : Nat) : Int)]) => Rd.go h1 h2 h4 h3)
  have hx : (⟨s.toArray⟩ : ByteArray).extract a (a + 4) = ⟨(r.take 4).toArray⟩ := by rw [ext_four, h2]
  have htl : (r.take 4).length = 4 := by simp; omega
  have cU := fun w => unhex_any ⟨(r.take 4).toArray⟩ w (by rw [mk_size]; omega)
  have cL := fun w => octLowerH_any (r.take 4) w (by omega)
  rw [show (⟨(r.take 4).toArray⟩ : ByteArray).data.toList = r.take 4 from rfl] at cU
  generalize r.take 4 = t at cU cL hx htl he hm ⊢
  generalize pUnhex t = N at cU he
  obtain ⟨n, e⟩ := N
  simp only at cU he
  subst he
  have hme : (t.map smallB == t) = false := by simpa using hm
  generalize t.map smallB = t' at cL hme
  clear hm
  have cU := hide cU
  have cL := hide cL
  have c0 := hk.cell 0; have c1 := hk.cell 1
  simp at c0 c1
  have hai : (a : Int) + 4 ≤ (s.length : Int) := by omega
  have hzi : (s.length : Int) ≤ 1000000000 := by omega
  have HK := hide hk
  clear h1 h2 h4 hk
  go_enter Tryd.func98, Tryd.ntmps98
  go_wp2_with fail
  go_quiet (first | (go_at_call 37; exact Calls.quiet_of ((litNeed_yes 33 _).mono fun e w' h => ⟨h.1, 0, h.2.symm⟩)))
  have hBw := below_drewN (Below.refl w.heap.size w) nq
  have HK1 := hide (HK.out.drewN nq)
  generalize w.drewN nq = w1 at hBw HK1 ⊢
  clear c0 c1
  have c0 := HK1.out.cell 0; have c1 := HK1.out.cell 1
  simp at c0 c1
  go_wp2_with fail
  go_quiet (first | fail)
  have hBw2 := below_drewN hBw nq
  have HK12 := hide (HK1.out.drewN nq)
  generalize w1.drewN nq = w12 at hBw2 HK12 ⊢
  clear c0 c1
  go_wp2_with fail
  refine (cU.out _).mono ?_
  rintro e2 w2 ⟨rfl, hb2⟩
  have hB2 := below_step hBw2 hb2
  have K2 := HK12.out.below hb2 HK12.out.lt
  have HB2 := hide hB2
  have HK2 := hide K2
  have c0 := K2.cell 0; have c1 := K2.cell 1; have f1 := K2.frozen 1
  simp at c0 c1
  clear hb2 hB2 K2 cU
  go_wp2_with (first | (go_at_call 126; refine (cL.out _).mono ?_; rintro e3 w3 ⟨rfl, hb3⟩))
  have HB3 := hide (below_step HB2.out hb3)
  clear hb3 c0 c1 f1
  go_wp2_with (go_at_call 37; refine (litNeed_no _ _).mono ?_; rintro e wn ⟨rfl, rfl⟩)
  simp [bodyPost]
  exact Moved.of_below HB3.out
set_option maxHeartbeats 2000000 in
set_option maxRecDepth 100000 in
theorem half_ok (b : Nat) (s r : List UInt8) (w : World) (hR : Rd w b s r) (hz : s.length ≤ 1000000000) (h4 : 4 ≤ r.length) (he : (pUnhex (r.take 4)).2 = 0) (hm : (r.take 4).map smallB = r.take 4) :
    Calls Tryd.prog 98 #[.pointer (some ⟨b, 0, none⟩)] w fun e w' => e = .returned (.int .i64 (pUnhex (r.take 4)).1) ∧ Moved b w w' ∧ Rd w' b s (r.drop 4) := by
  obtain ⟨a, h1, h2, hk⟩ := hR
  have hms : (⟨s.toArray⟩ : ByteArray).size = s.length := mk_size s
  have hge : decide ((4 : Int) ≤ (s.length : Int) - (a : Int)) = true := by simp; omega
  have HG := hide (fun (w' : World) (h3 : Blk w' b 60 #[.string ⟨s.toArray⟩, .int .i64 ((a + 4 : Nat) : Int)]) => Rd.go h1 h2 h4 h3)
  have hx : (⟨s.toArray⟩ : ByteArray).extract a (a + 4) = ⟨(r.take 4).toArray⟩ := by rw [ext_four, h2]
  have htl : (r.take 4).length = 4 := by simp; omega
  have cU := fun w => unhex_any ⟨(r.take 4).toArray⟩ w (by rw [mk_size]; omega)
  have cL := fun w => octLowerH_any (r.take 4) w (by omega)
  rw [show (⟨(r.take 4).toArray⟩ : ByteArray).data.toList = r.take 4 from rfl] at cU
  generalize r.take 4 = t at cU cL hx htl he hm ⊢
  generalize pUnhex t = N at cU he ⊢
  obtain ⟨n, e⟩ := N
  simp only at cU he ⊢
  subst he
  rw [hm] at cL
  clear hm
  have hme : (t == t) = true := by simp
  have cU := hide cU
  have cL := hide cL
  have c0 := hk.cell 0; have c1 := hk.cell 1
  simp at c0 c1
  have hai : (a : Int) + 4 ≤ (s.length : Int) := by omega
  have hzi : (s.length : Int) ≤ 1000000000 := by omega
  have HK := hide hk
  clear h1 h2 h4 hk
  go_enter Tryd.func98, Tryd.ntmps98
  go_wp2_with fail
  go_quiet (first | (go_at_call 37; exact Calls.quiet_of ((litNeed_yes 33 _).mono fun e w' h => ⟨h.1, 0, h.2.symm⟩)))
  have hBw := below_drewN (Below.refl w.heap.size w) nq
  have HK1 := hide (HK.out.drewN nq)
  generalize w.drewN nq = w1 at hBw HK1 ⊢
  clear c0 c1
  have c0 := HK1.out.cell 0; have c1 := HK1.out.cell 1
  simp at c0 c1
  go_wp2_with fail
  go_quiet (first | fail)
  have hBw2 := below_drewN hBw nq
  have HK12 := hide (HK1.out.drewN nq)
  generalize w1.drewN nq = w12 at hBw2 HK12 ⊢
  clear c0 c1
  go_wp2_with fail
  refine (cU.out _).mono ?_
  rintro e2 w2 ⟨rfl, hb2⟩
  have hB2 := below_step hBw2 hb2
  have K2 := HK12.out.below hb2 HK12.out.lt
  have HB2 := hide hB2
  have HK2 := hide K2
  have c0 := K2.cell 0; have c1 := K2.cell 1; have f1 := K2.frozen 1
  simp at c0 c1
  clear hb2 hB2 K2 cU
  go_wp2_with (first | (go_at_call 126; refine (cL.out _).mono ?_; rintro e3 w3 ⟨rfl, hb3⟩))
  have HB3 := hide (below_step HB2.out hb3)
  have K3 := HK2.out.below hb3 HK2.out.lt
  clear hb3 c0 c1 f1
  have c0 := K3.cell 0; have c1 := K3.cell 1; have f1 := K3.frozen 1
  simp at c0 c1
  have HK3 := hide K3
  clear K3
  go_wp2_with (go_at_call 37; refine (litNeed_yes _ _).mono ?_; rintro e wn ⟨rfl, rfl⟩)
  go_ret
  have h3 := HK3.out.set_ 1 (.int .i64 ((a : Int) + 4))
  simp at h3
  exact ⟨rfl, (Moved.of_below HB3.out).trans (Moved.set_ _ _ _), HG.out _ (by simpa using h3)⟩
/-- What stands behind a \u . -/
theorem half_any (b : Nat) (s r : List UInt8) (w : World) (hR : Rd w b s r) (hz : s.length ≤ 1000000000) :
    (∃ n t, halfR r = some (n, t) ∧ Calls Tryd.prog 98 #[.pointer (some ⟨b, 0, none⟩)] w fun e w' => e = .returned (.int .i64 n) ∧ Moved b w w' ∧ Rd w' b s t) ∨
    (halfR r = none ∧ Calls Tryd.prog 98 #[.pointer (some ⟨b, 0, none⟩)] w fun e w' => e = panE 33 ∧ Moved b w w') := by
  unfold halfR
  by_cases h4 : r.length < 4
  · rw [if_pos h4]; exact .inr ⟨rfl, half_short b s r w hR hz h4⟩
  rw [if_neg h4]
  by_cases he : (pUnhex (r.take 4)).2 = 0
  · by_cases hm : (r.take 4).map smallB = r.take 4
    · rw [if_pos ⟨he, hm⟩]; exact .inl ⟨_, _, rfl, half_ok b s r w hR hz (by omega) he hm⟩
    · rw [if_neg (fun h => hm h.2)]; exact .inr ⟨rfl, half_great b s r w hR hz (by omega) he hm⟩
  · rw [if_neg (fun h => he h.1)]; exact .inr ⟨rfl, half_odd b s r w hR hz (by omega) he⟩
end Go.Proofs.YtdnmgpidfjkiaaaDoor

namespace Go.Proofs.YtdnmgpidfjkiaaaDoor
open Go.RowKit
set_option linter.unusedVariables false
set_option linter.unusedSimpArgs false

theorem isBT_moved {T : TypeId} {B b0 b : Nat} {bs : List Value} {w w' : World} (h : Lib.IsBuilder T 5 B b0 bs w) (hm : Moved b w w') (hb : b < B) : Lib.IsBuilder T 5 B b0 bs w' := by
  have at_ : ∀ p, Lib.BuilderAt T 5 B b0 p bs w → Lib.BuilderAt T 5 B b0 p bs w' := by
    rintro p ⟨hB, v, hbk, hown, hne⟩
    refine ⟨hB, v, (hm.block b0 (lt_of_heap hbk) (fun e => by injection e with e; omega)).trans hbk, hown.kept (row := some b) hm (.inr ?_), hne⟩
    intro e
    have := (hown.lt _ e).1
    omega
  rcases h with h | h
  · exact .inl (at_ _ h)
  · exact .inr (at_ _ h)
theorem Rd.belowB {w w' : World} {b B : Nat} {s r : List UInt8} (h : Rd w b s r) (hb : Below B w w') (hB : b < B) : Rd w' b s r := by
  obtain ⟨a, h1, h2, h3⟩ := h
  exact ⟨a, h1, h2, h3.below hb hB⟩
theorem Moved.stepB {b : Nat} {w w1 w2 : World} (h : Moved b w w1) (k : Below w.heap.size w1 w2) : Moved b w w2 :=
  ⟨k.os.trans h.os, k.tape.trans h.tape, k.output.trans h.output, Nat.le_trans h.size k.size, fun j hj hne => (k.block j hj).trans (h.block j hj hne)⟩
/-- What the small functions tell (XQuote, XJsOne). -/
def PlainOK : Prop := ∀ (m : Nat) (w : World), m ≤ 1114111 → Calls Tryd.prog 62 #[.int .i64 (m : Int)] w fun e w' => e = .returned (.bool (plainC m)) ∧ w = w'
def EncOK : Prop := ∀ (c : Int) (w : World), badC c = false → Calls Tryd.prog 99 #[.int .i64 c] w fun e w' => e = .returned (.tuple #[.string ⟨(encL c).toArray⟩, .int .i64 0]) ∧ Below w.heap.size w w'
/-- What str tells. -/
def StrOut (f : Nat) (r : List UInt8) (b : Nat) (s : List UInt8) (w : World) (e : Ending) (w' : World) : Prop :=
  (∃ x t, strR f r = some (x, t) ∧ e = .returned (.string ⟨x.toArray⟩) ∧ Moved b w w' ∧ Rd w' b s t) ∨ (strR f r = none ∧ e = panE 33 ∧ Moved b w w')
def StrTo (f : Nat) (r : List UInt8) (g : Nat) (r' ys : List UInt8) : Prop := strR f r = (strR g r').map fun x => (ys ++ x.1, x.2)
theorem StrTo.next {f g g' : Nat} {r r' r2 ys en : List UInt8} (h : StrTo f r g r' ys) (h2 : strR g r' = (strR g' r2).map fun x => (en ++ x.1, x.2)) : StrTo f r g' r2 (ys ++ en) := by
  unfold StrTo at h ⊢
  rw [h, h2, Option.map_map]
  congr 1
  funext x
  simp
theorem StrTo.bad {f g : Nat} {r r' ys : List UInt8} (h : StrTo f r g r' ys) (h2 : strR g r' = none) : strR f r = none := by
  unfold StrTo at h
  rw [h, h2]; rfl
theorem StrTo.good {f g : Nat} {r r' ys t : List UInt8} (h : StrTo f r g r' ys) (h2 : strR g r' = some ([], t)) : strR f r = some (ys, t) := by
  unfold StrTo at h
  rw [h, h2]; simp
/-- The round's state: the builder, the reader, what stays. -/
structure StI (w wr : World) (b : Nat) (s r' ys : List UInt8) : Prop where
  bt : IsBT 87 w.heap.size w.heap.size ys wr
  rd : Rd wr b s r'
  mv : Moved b w wr
theorem StI.below {w wr w' : World} {b : Nat} {s r' ys : List UInt8} (h : StI w wr b s r' ys) (hb : Below wr.heap.size wr w') : StI w w' b s r' ys := ⟨isBT_keep h.bt hb, h.rd.below hb, h.mv.step hb⟩
theorem StI.moved {w wr w' : World} {b : Nat} {s r' r2 ys : List UInt8} (h : StI w wr b s r' ys) (hw : b < w.heap.size) (hm : Moved b wr w') (hr : Rd w' b s r2) : StI w w' b s r2 ys := ⟨isBT_moved h.bt hm hw, hr, h.mv.trans hm⟩
theorem StI.wrote {w wr w' : World} {b : Nat} {s r' ys ys2 : List UInt8} (h : StI w wr b s r' ys) (hw : b < w.heap.size) (hI : IsBT 87 w.heap.size w.heap.size ys2 w') (hb : Below w.heap.size wr w') : StI w w' b s r' ys2 :=
  ⟨hI, h.rd.belowB hb hw, h.mv.stepB hb⟩
theorem pre_noR {a c : UInt8} {p r : List UInt8} (h : ¬ c = a) : (a :: p).isPrefixOf (c :: r) = false := by simp [List.isPrefixOf]; intro e; exact absurd e.symm h
theorem strR_quote (g : Nat) (t : List UInt8) : strR (g + 1) (34 :: t) = some ([], t) := by simp [strR]
theorem strR_plain {g : Nat} {c : UInt8} {t : List UInt8} (h1 : c ≠ 34) (h2 : [92, 117].isPrefixOf (c :: t) = false) (h3 : plainC c.toNat = true) : strR (g + 1) (c :: t) = (strR g t).map fun x => ([c] ++ x.1, x.2) := by
  simp only [strR, if_neg h1, h2, h3, if_true, Bool.false_eq_true, if_false]; rfl
theorem strR_odd {g : Nat} {c : UInt8} {t : List UInt8} (h1 : c ≠ 34) (h2 : [92, 117].isPrefixOf (c :: t) = false) (h3 : plainC c.toNat = false) : strR (g + 1) (c :: t) = none := by
  simp only [strR, if_neg h1, h2, h3, Bool.false_eq_true, if_false]
theorem strR_half0 {g : Nat} {c : UInt8} {t : List UInt8} (h1 : c ≠ 34) (h2 : [92, 117].isPrefixOf (c :: t) = true) (h3 : halfR ((c :: t).drop 2) = none) : strR (g + 1) (c :: t) = none := by
  simp only [strR, if_neg h1, h2, h3, if_true]
theorem strR_half1 {g : Nat} {c : UInt8} {t t1 : List UInt8} {n : Int} (h1 : c ≠ 34) (h2 : [92, 117].isPrefixOf (c :: t) = true) (h3 : halfR ((c :: t).drop 2) = some (n, t1)) (h4 : ¬ (plainC n.toNat = false ∧ 0 < n ∧ (n < 56320 ∨ 57343 < n))) : strR (g + 1) (c :: t) = none := by
  simp only [strR, if_neg h1, h2, h3, if_true, if_neg h4]
theorem strR_one {g : Nat} {c : UInt8} {t t1 : List UInt8} {n : Int} (h1 : c ≠ 34) (h2 : [92, 117].isPrefixOf (c :: t) = true) (h3 : halfR ((c :: t).drop 2) = some (n, t1)) (h4 : plainC n.toNat = false ∧ 0 < n ∧ (n < 56320 ∨ 57343 < n)) (h5 : ¬ (55296 ≤ n ∧ n < 56320)) :
    strR (g + 1) (c :: t) = (strR g t1).map fun x => (encL n ++ x.1, x.2) := by
  simp only [strR, if_neg h1, h2, h3, if_true, if_pos h4, if_neg h5]
theorem strR_two0 {g : Nat} {c : UInt8} {t t1 : List UInt8} {n : Int} (h1 : c ≠ 34) (h2 : [92, 117].isPrefixOf (c :: t) = true) (h3 : halfR ((c :: t).drop 2) = some (n, t1)) (h4 : plainC n.toNat = false ∧ 0 < n ∧ (n < 56320 ∨ 57343 < n)) (h5 : 55296 ≤ n ∧ n < 56320) (h6 : [92, 117].isPrefixOf t1 = false) :
    strR (g + 1) (c :: t) = none := by
  simp only [strR, if_neg h1, h2, h3, if_true, if_pos h4, if_pos h5, h6, Bool.false_eq_true, if_false]
theorem strR_two1 {g : Nat} {c : UInt8} {t t1 : List UInt8} {n : Int} (h1 : c ≠ 34) (h2 : [92, 117].isPrefixOf (c :: t) = true) (h3 : halfR ((c :: t).drop 2) = some (n, t1)) (h4 : plainC n.toNat = false ∧ 0 < n ∧ (n < 56320 ∨ 57343 < n)) (h5 : 55296 ≤ n ∧ n < 56320) (h6 : [92, 117].isPrefixOf t1 = true) (h7 : halfR (t1.drop 2) = none) :
    strR (g + 1) (c :: t) = none := by
  simp only [strR, if_neg h1, h2, h3, if_true, if_pos h4, if_pos h5, h6, h7]
theorem strR_two2 {g : Nat} {c : UInt8} {t t1 t2 : List UInt8} {n m : Int} (h1 : c ≠ 34) (h2 : [92, 117].isPrefixOf (c :: t) = true) (h3 : halfR ((c :: t).drop 2) = some (n, t1)) (h4 : plainC n.toNat = false ∧ 0 < n ∧ (n < 56320 ∨ 57343 < n)) (h5 : 55296 ≤ n ∧ n < 56320) (h6 : [92, 117].isPrefixOf t1 = true) (h7 : halfR (t1.drop 2) = some (m, t2)) (h8 : ¬ (56320 ≤ m ∧ m ≤ 57343)) :
    strR (g + 1) (c :: t) = none := by
  simp only [strR, if_neg h1, h2, h3, if_true, if_pos h4, if_pos h5, h6, h7, if_neg h8]
theorem strR_two {g : Nat} {c : UInt8} {t t1 t2 : List UInt8} {n m : Int} (h1 : c ≠ 34) (h2 : [92, 117].isPrefixOf (c :: t) = true) (h3 : halfR ((c :: t).drop 2) = some (n, t1)) (h4 : plainC n.toNat = false ∧ 0 < n ∧ (n < 56320 ∨ 57343 < n)) (h5 : 55296 ≤ n ∧ n < 56320) (h6 : [92, 117].isPrefixOf t1 = true) (h7 : halfR (t1.drop 2) = some (m, t2)) (h8 : 56320 ≤ m ∧ m ≤ 57343) :
    strR (g + 1) (c :: t) = (strR g t2).map fun x => (encL (65536 + (n - 55296) * 1024 + m - 56320) ++ x.1, x.2) := by
  simp only [strR, if_neg h1, h2, h3, if_true, if_pos h4, if_pos h5, h6, h7, if_pos h8]
theorem half_range {r t : List UInt8} {n : Int} (h : halfR r = some (n, t)) : 0 ≤ n ∧ n < 65536 ∧ t.length + 4 ≤ r.length := by
  obtain ⟨h1, h2, h3⟩ := half_back h
  refine ⟨h1, h2, ?_⟩
  rw [h3, List.length_append, pHex4_len]; omega
theorem get_of_dropR {l : List UInt8} {k : Nat} {x : UInt8} {r : List UInt8} (h : l.drop k = x :: r) : ∃ hlz : k < (⟨l.toArray⟩ : ByteArray).size, (⟨l.toArray⟩ : ByteArray)[k]'hlz = x := by
  have hlt : k < l.length := by
    have := congrArg List.length h
    rw [List.length_drop] at this
    simp at this; omega
  refine ⟨by rw [mk_size]; exact hlt, ?_⟩
  show l[k] = x
  have := List.drop_eq_getElem_cons hlt
  rw [h] at this
  exact (List.cons.inj this).1.symm
theorem rd_at {w : World} {b : Nat} {s r : List UInt8} {c : UInt8} {t : List UInt8} (h : Rd w b s r) (hr : r = c :: t) :
    ∃ a, a < s.length ∧ Blk w b 60 #[.string ⟨s.toArray⟩, .int .i64 (a : Int)] ∧ (∀ w', Blk w' b 60 #[.string ⟨s.toArray⟩, .int .i64 ((a : Int) + 1)] → Rd w' b s t) ∧
      ∃ hlz : a < (⟨s.toArray⟩ : ByteArray).size, (⟨s.toArray⟩ : ByteArray)[a]'hlz = c := by
  obtain ⟨a, h1, h2, h3⟩ := h
  subst hr
  refine ⟨a, by simp at h1; omega, h3, fun w' h => ?_, get_of_dropR h2⟩
  have := Rd.go (d := 1) (w' := w') (b := b) h1 h2 (by simp) (by simpa using h)
  simpa using this
set_option maxHeartbeats 800000 in
set_option maxRecDepth 100000 in
theorem str_out (hPl : PlainOK) (hEn : EncOK) (b f : Nat) (s r : List UInt8) (w : World) (hR : Rd w b s r) (hz : s.length ≤ 1000000000) (hf : r.length < f) :
    Calls Tryd.prog 66 #[.pointer (some ⟨b, 0, none⟩)] w (StrOut f r b s w) := by
  have hb := hR.lt
  have hS0 : StI w (w.alloc (.cells #[.pointer none, .slice none 0 0] 87)) b s r [] :=
    ⟨isBT_new 87 w w.heap.size (Nat.le_refl _), hR.below ((Below.refl w.heap.size w).alloc (Nat.le_refl _) _), Moved.of_below ((Below.refl w.heap.size w).alloc (Nat.le_refl _) _)⟩
  have hto : StrTo f r f r [] := by unfold StrTo; simp
  have HTO := hide hto
  have hlr := hR.len
  have HPL := hide hPl; have HEN := hide hEn
  clear hR hto hPl hEn
  go_enter Tryd.func66, Tryd.ntmps66
  go_wp2_with fail
  generalize w.alloc (.cells #[.pointer none, .slice none 0 0] 87) = W at hS0 ⊢
  go_loopg [] r.length (fun gl wr => ∃ (g : Nat) (r' ys : List UInt8), r'.length = gl ∧ r'.length < g ∧ r'.length ≤ r.length ∧ ys.length + 4 * r'.length ≤ 4 * r.length ∧ Hid (StI w wr b s r' ys) ∧ Hid (StrTo f r g r' ys))
  case atStart => exact ⟨f, r, [], rfl, hf, Nat.le_refl _, by simp, hide hS0, HTO⟩
  case round =>
    obtain ⟨g, r', ys, hgl, hg, hrl, hyl, HS, hto⟩ := hrel
    clear HTO hS0
    have hMz := HS.out.mv.size
    cases r' with
    | nil =>
      have hbad := hide (hto.out.bad (show strR g [] = none by cases g <;> simp [strR]))
      have cQ := hide (took_any b s [] [34] wr HS.out.rd hz (by simp))
      go_wp2_with fail
      refine (cQ.out).mono ?_
      rintro e w2 ⟨rfl, hM2, hR2⟩
      have HS2 := hide (HS.out.moved hb hM2 hR2)
      obtain ⟨a, h1, h2, hk⟩ := hR2
      have hal : decide (a < s.length) = false := by simp at h1; simp; omega
      have c0 := hk.cell 0; have c1 := hk.cell 1
      simp at c0 c1
      have zb := hk.lt
      clear h1 h2 hk hM2 cQ
      simp only [List.isPrefixOf]
      go_wp2_with fail
      refine wp_region_tail_below (W := w2) 10 (by kernel_rfl) (by kernel_rfl) (Below.refl _ _) ?_
      simp only [List.take, List.drop]
      repeat (first
        | go_big_quiet_skip
        | (apply wpQuiet_one (by rfl)
           · intro w' hw'
             have hc := (bcell hw').1
             go_simp
             first
               | done
               | (go_at_call 62; exact Calls.below_same hw' (cP.out _))
               | rfl
           · go_simp
             rfl))
      refine wpQuiet_nil ?_
      intro w5 hw5
      go_wp2_with (go_at_call 37; refine (litNeed_no _ _).mono ?_; rintro e wn ⟨rfl, rfl⟩)
      exact ⟨rfl, (show StrOut f r b s w (panE 33) _ from .inr ⟨hbad.out, rfl, HS2.out.mv.step hw5⟩)⟩
    | cons c t =>
      obtain ⟨g, rfl⟩ : ∃ g', g = g' + 1 := ⟨g - 1, by omega⟩
      by_cases hc34 : c = 34
      · subst hc34
        have hgood := hide (hto.out.good (strR_quote g t))
        have cQ := hide (took_any b s (34 :: t) [34] wr HS.out.rd hz (by simp))
        rw [show [34].isPrefixOf (34 :: t) = true by simp [List.isPrefixOf]] at cQ
        go_wp2_with fail
        refine (cQ.out).mono ?_
        rintro e w2 ⟨rfl, hM2, hR2⟩
        simp only [List.length_singleton, List.drop_succ_cons, List.drop_zero, if_true] at hR2
        have HS2 := hide (HS.out.moved hb hM2 hR2)
        clear hM2 hR2 cQ
        go_wp2_with fail
        refine (btString w.heap.size w.heap.size ys _ HS2.out.bt HS2.out.mv.size).mono ?_
        rintro e w3 ⟨rfl, hb3⟩
        go_wp2_with fail
        go_ret
        exact .inl ⟨_, _, hgood.out, rfl, HS2.out.mv.stepB hb3, HS2.out.rd.belowB hb3 hb⟩
      · have cQ := hide (took_any b s (c :: t) [34] wr HS.out.rd hz (by simp))
        rw [show [34].isPrefixOf (c :: t) = false from pre_noR hc34] at cQ
        go_wp2_with fail
        refine (cQ.out).mono ?_
        rintro e w2 ⟨rfl, hM2, hR2⟩
        simp only [Bool.false_eq_true, if_false] at hR2
        have HS2 := hide (HS.out.moved hb hM2 hR2)
        obtain ⟨a, ha, hk, _, _⟩ := rd_at hR2 rfl
        have hal : decide (a < s.length) = true := by simpa using ha
        have c0 := hk.cell 0; have c1 := hk.cell 1
        simp at c0 c1
        clear hM2 hR2 cQ hk HS
        go_wp2_with fail
        go_quiet (first | (go_at_call 37; exact Calls.quiet_of ((litNeed_yes 33 _).mono fun e w' h => ⟨h.1, 0, h.2.symm⟩)))
        have HS3 := hide (HS2.out.below (below_drewN (Below.refl w2.heap.size w2) nq))
        generalize w2.drewN nq = w3 at HS3 ⊢
        clear c0 c1 hal ha HS2
        have cU := hide (took_any b s (c :: t) [92, 117] w3 HS3.out.rd hz (by simp))
        rcases Bool.eq_false_or_eq_true ([92, 117].isPrefixOf (c :: t)) with hu | hu
        · rw [hu] at cU
          go_wp2_with fail
          refine (cU.out).mono ?_
          rintro e w4 ⟨rfl, hM4, hR4⟩
          simp only [if_true] at hR4
          have HS4 := hide (HS3.out.moved hb hM4 hR4)
          clear hM4 hR4 cU HS3
          rcases half_any b s _ w4 HS4.out.rd hz with ⟨n, t1, hh, cH⟩ | ⟨hh, cH⟩
          rotate_left
          · have hbad := hide (hto.out.bad (strR_half0 (g := g) hc34 hu hh))
            have cH := hide cH
            go_wp2_with fail
            refine (cH.out).mono ?_
            rintro e w5 ⟨rfl, hM5⟩
            exact ⟨rfl, (show StrOut f r b s w (panE 33) _ from .inr ⟨hbad.out, rfl, HS4.out.mv.trans hM5⟩)⟩
          · obtain ⟨hn0, hn1, htl⟩ := half_range hh
            have ht1 : t1.length + 5 ≤ t.length := by
              have : 2 ≤ (c :: t).length := (List.isPrefixOf_iff_prefix.1 hu).length_le
              simp at htl this; omega
            have cP : ∀ w, Calls Tryd.prog 62 #[.int .i64 n] w fun e w' => e = .returned (.bool (plainC n.toNat)) ∧ w = w' := fun w => by
              have := HPL.out n.toNat w (by omega)
              rwa [Int.toNat_of_nonneg hn0] at this
            have cH := hide cH
            go_wp2_with fail
            refine (cH.out).mono ?_
            rintro e w5 ⟨rfl, hM5, hR5⟩
            have HS5 := hide (HS4.out.moved hb hM5 hR5)
            clear hM5 hR5 cH HS4
            rcases Bool.eq_false_or_eq_true (plainC n.toNat) with hp | hp
            · have hbad := hide (hto.out.bad (strR_half1 (g := g) hc34 hu hh (fun h => by rw [hp] at h; exact absurd h.1 (by simp))))
              rw [hp] at cP
              have cP := hide cP
              go_wp2_with (first | (go_at_call 62; refine (cP.out _).mono ?_; rintro e wn ⟨rfl, rfl⟩) | (go_at_call 37; refine (litNeed_no _ _).mono ?_; rintro e wn ⟨rfl, rfl⟩))
              exact ⟨rfl, (show StrOut f r b s w (panE 33) _ from .inr ⟨hbad.out, rfl, HS5.out.mv⟩)⟩
            rw [hp] at cP
            have cP := hide cP
            by_cases h0 : 0 < n
            rotate_left
            · have hbad := hide (hto.out.bad (strR_half1 (g := g) hc34 hu hh (fun h => h0 h.2.1)))
              have h0d : decide (0 < n) = false := decide_eq_false h0
              go_wp2_with (first | (go_at_call 62; refine (cP.out _).mono ?_; rintro e wn ⟨rfl, rfl⟩) | (go_at_call 37; refine (litNeed_no _ _).mono ?_; rintro e wn ⟨rfl, rfl⟩))
              exact ⟨rfl, (show StrOut f r b s w (panE 33) _ from .inr ⟨hbad.out, rfl, HS5.out.mv⟩)⟩
            have h0d : decide (0 < n) = true := decide_eq_true h0
            by_cases h1 : n < 56320
            · have h1d : decide (n < 56320) = true := decide_eq_true h1
              by_cases h2 : 55296 ≤ n
              · have h2d : decide (55296 ≤ n) = true := decide_eq_true h2
                have cU2 := hide (took_any b s t1 [92, 117] w5 HS5.out.rd hz (by simp))
                rcases Bool.eq_false_or_eq_true ([92, 117].isPrefixOf t1) with hu2 | hu2
                rotate_left
                · have hbad := hide (hto.out.bad (strR_two0 (g := g) hc34 hu hh ⟨hp, h0, .inl h1⟩ ⟨h2, h1⟩ hu2))
                  rw [hu2] at cU2
                  go_wp2_with (first | (go_at_call 62; refine (cP.out _).mono ?_; rintro e wn ⟨rfl, rfl⟩) | (go_at_call 37; refine (litNeed_yes _ _).mono ?_; rintro e wn ⟨rfl, rfl⟩))
                  refine (cU2.out).mono ?_
                  rintro e w6 ⟨rfl, hM6, hR6⟩
                  go_wp2_with (go_at_call 37; refine (litNeed_no _ _).mono ?_; rintro e wn ⟨rfl, rfl⟩)
                  exact ⟨rfl, (show StrOut f r b s w (panE 33) _ from .inr ⟨hbad.out, rfl, HS5.out.mv.trans hM6⟩)⟩
                rw [hu2] at cU2
                go_wp2_with (first | (go_at_call 62; refine (cP.out _).mono ?_; rintro e wn ⟨rfl, rfl⟩) | (go_at_call 37; refine (litNeed_yes _ _).mono ?_; rintro e wn ⟨rfl, rfl⟩))
                refine (cU2.out).mono ?_
                rintro e w6 ⟨rfl, hM6, hR6⟩
                simp only [if_true] at hR6
                have HS6 := hide (HS5.out.moved hb hM6 hR6)
                clear hM6 hR6 HS5 cU2
                rcases half_any b s _ w6 HS6.out.rd hz with ⟨m, t2, hh2, cH2⟩ | ⟨hh2, cH2⟩
                rotate_left
                · have hbad := hide (hto.out.bad (strR_two1 (g := g) hc34 hu hh ⟨hp, h0, .inl h1⟩ ⟨h2, h1⟩ hu2 hh2))
                  have cH2 := hide cH2
                  go_wp2_with (go_at_call 37; refine (litNeed_yes _ _).mono ?_; rintro e wn ⟨rfl, rfl⟩)
                  refine (cH2.out).mono ?_
                  rintro e w7 ⟨rfl, hM7⟩
                  exact ⟨rfl, (show StrOut f r b s w (panE 33) _ from .inr ⟨hbad.out, rfl, HS6.out.mv.trans hM7⟩)⟩
                obtain ⟨hm0, hm1, htl2⟩ := half_range hh2
                have ht2 : t2.length + 6 ≤ t1.length := by
                  have : 2 ≤ t1.length := (List.isPrefixOf_iff_prefix.1 hu2).length_le
                  simp at htl2; omega
                have cH2 := hide cH2
                go_wp2_with (go_at_call 37; refine (litNeed_yes _ _).mono ?_; rintro e wn ⟨rfl, rfl⟩)
                refine (cH2.out).mono ?_
                rintro e w7 ⟨rfl, hM7, hR7⟩
                have HS7 := hide (HS6.out.moved hb hM7 hR7)
                clear hM7 hR7 HS6 cH2
                by_cases h3 : 56320 ≤ m
                rotate_left
                · have hbad := hide (hto.out.bad (strR_two2 (g := g) hc34 hu hh ⟨hp, h0, .inl h1⟩ ⟨h2, h1⟩ hu2 hh2 (fun h => h3 h.1)))
                  have h3d : decide (56320 ≤ m) = false := decide_eq_false h3
                  go_wp2_with (go_at_call 37; refine (litNeed_no _ _).mono ?_; rintro e wn ⟨rfl, rfl⟩)
                  exact ⟨rfl, (show StrOut f r b s w (panE 33) _ from .inr ⟨hbad.out, rfl, HS7.out.mv⟩)⟩
                have h3d : decide (56320 ≤ m) = true := decide_eq_true h3
                by_cases h4 : m ≤ 57343
                rotate_left
                · have hbad := hide (hto.out.bad (strR_two2 (g := g) hc34 hu hh ⟨hp, h0, .inl h1⟩ ⟨h2, h1⟩ hu2 hh2 (fun h => h4 h.2)))
                  have h4d : decide (m ≤ 57343) = false := decide_eq_false h4
                  go_wp2_with (go_at_call 37; refine (litNeed_no _ _).mono ?_; rintro e wn ⟨rfl, rfl⟩)
                  exact ⟨rfl, (show StrOut f r b s w (panE 33) _ from .inr ⟨hbad.out, rfl, HS7.out.mv⟩)⟩
                have h4d : decide (m ≤ 57343) = true := decide_eq_true h4
                have hnx := hide (hto.out.next (strR_two (g := g) hc34 hu hh ⟨hp, h0, .inl h1⟩ ⟨h2, h1⟩ hu2 hh2 ⟨h3, h4⟩))
                obtain ⟨x, hx⟩ : ∃ x, 65536 + (n - 55296) * 1024 + m - 56320 = x := ⟨_, rfl⟩
                rw [hx] at hnx
                have cE := hide (fun w => HEN.out x w (by rw [← hx]; unfold badC; simp; omega))
                have hel := encL_len x
                have HX := hide hx
                clear hx
                go_wp2_with (go_at_call 37; refine (litNeed_yes _ _).mono ?_; rintro e wn ⟨rfl, rfl⟩)
                rw [HX.out]
                refine (cE.out _).mono ?_
                rintro e w8 ⟨rfl, hb8⟩
                have HS8 := hide (HS7.out.below hb8)
                clear hb8 HS7 cE
                go_wp2_with fail
                refine (btStr btBuilder w.heap.size w.heap.size ys (encL x) _ HS8.out.bt (by simp at hyl; omega) HS8.out.mv.size).mono ?_
                rintro e w9 ⟨⟨v, rfl⟩, hI9, hb9, _⟩
                have HS9 := hide (HS8.out.wrote hb hI9 hb9)
                clear hI9 hb9 HS8
                go_wp2_with fail
                go_roundg t2.length
                case measure => simp at hgl; omega
                case rel => exact ⟨g, t2, ys ++ encL x, rfl, by simp at hg; omega, by simp at hrl; omega, by simp at hyl ⊢; omega, HS9, hnx⟩
              · have h2d : decide (55296 ≤ n) = false := decide_eq_false h2
                have hnx := hide (hto.out.next (strR_one (g := g) hc34 hu hh ⟨hp, h0, .inl h1⟩ (fun h => h2 h.1)))
                have cE := hide (fun w => HEN.out n w (by unfold badC; simp; omega))
                have hel := encL_len n
                go_wp2_with (first | (go_at_call 62; refine (cP.out _).mono ?_; rintro e wn ⟨rfl, rfl⟩) | (go_at_call 37; refine (litNeed_yes _ _).mono ?_; rintro e wn ⟨rfl, rfl⟩))
                refine (cE.out _).mono ?_
                rintro e w6 ⟨rfl, hb6⟩
                have HS6 := hide (HS5.out.below hb6)
                clear hb6 HS5 cE
                go_wp2_with fail
                refine (btStr btBuilder w.heap.size w.heap.size ys (encL n) _ HS6.out.bt (by simp at hyl; omega) HS6.out.mv.size).mono ?_
                rintro e w7 ⟨⟨v, rfl⟩, hI7, hb7, _⟩
                have HS7 := hide (HS6.out.wrote hb hI7 hb7)
                clear hI7 hb7 HS6
                go_wp2_with fail
                go_roundg t1.length
                case measure => simp at hgl; omega
                case rel => exact ⟨g, t1, ys ++ encL n, rfl, by simp at hg; omega, by simp at hrl; omega, by simp at hyl ⊢; omega, HS7, hnx⟩
            · have h1d : decide (n < 56320) = false := decide_eq_false h1
              by_cases h2 : 57343 < n
              · have h2d : decide (57343 < n) = true := decide_eq_true h2
                have h3d : decide (55296 ≤ n) = true := decide_eq_true (by omega)
                have hnx := hide (hto.out.next (strR_one (g := g) hc34 hu hh ⟨hp, h0, .inr h2⟩ (fun h => h1 h.2)))
                have cE := hide (fun w => HEN.out n w (by unfold badC; simp; omega))
                have hel := encL_len n
                go_wp2_with (first | (go_at_call 62; refine (cP.out _).mono ?_; rintro e wn ⟨rfl, rfl⟩) | (go_at_call 37; refine (litNeed_yes _ _).mono ?_; rintro e wn ⟨rfl, rfl⟩))
                refine (cE.out _).mono ?_
                rintro e w6 ⟨rfl, hb6⟩
                have HS6 := hide (HS5.out.below hb6)
                clear hb6 HS5 cE
                go_wp2_with fail
                refine (btStr btBuilder w.heap.size w.heap.size ys (encL n) _ HS6.out.bt (by simp at hyl; omega) HS6.out.mv.size).mono ?_
                rintro e w7 ⟨⟨v, rfl⟩, hI7, hb7, _⟩
                have HS7 := hide (HS6.out.wrote hb hI7 hb7)
                clear hI7 hb7 HS6
                go_wp2_with fail
                go_roundg t1.length
                case measure => simp at hgl; omega
                case rel => exact ⟨g, t1, ys ++ encL n, rfl, by simp at hg; omega, by simp at hrl; omega, by simp at hyl ⊢; omega, HS7, hnx⟩
              · have h2d : decide (57343 < n) = false := decide_eq_false h2
                have hbad := hide (hto.out.bad (strR_half1 (g := g) hc34 hu hh (fun h => h.2.2.elim h1 h2)))
                go_wp2_with (first | (go_at_call 62; refine (cP.out _).mono ?_; rintro e wn ⟨rfl, rfl⟩) | (go_at_call 37; refine (litNeed_no _ _).mono ?_; rintro e wn ⟨rfl, rfl⟩))
                exact ⟨rfl, (show StrOut f r b s w (panE 33) _ from .inr ⟨hbad.out, rfl, HS5.out.mv⟩)⟩
        · rw [hu] at cU
          go_wp2_with fail
          refine (cU.out).mono ?_
          rintro e w4 ⟨rfl, hM4, hR4⟩
          simp only [Bool.false_eq_true, if_false] at hR4
          have HS4 := hide (HS3.out.moved hb hM4 hR4)
          obtain ⟨a, ha, hk, hgo, hlz, hx⟩ := rd_at hR4 rfl
          have c0 := hk.cell 0; have c1 := hk.cell 1
          simp at c0 c1
          have zb := hk.lt
          have cP := fun w => HPL.out c.toNat w (by have := c.toNat_lt; omega)
          have hai : (a : Int) < (s.length : Int) := by omega
          have hms : (⟨s.toArray⟩ : ByteArray).size = s.length := mk_size s
          have hwr : IntKind.i64.wrap (c.toNat : Int) = (c.toNat : Int) := by have := c.toNat_lt; rw [IntKind.wrap_i64]; omega
          have hk4 := hide hk
          clear hM4 hR4 cU hk HS3
          rcases Bool.eq_false_or_eq_true (plainC c.toNat) with hp | hp
          · have hnx := hide (hto.out.next (strR_plain (g := g) hc34 hu hp))
            rw [hp] at cP
            have cP := hide cP
            go_wp2_with fail
            go_quiet (first | (go_at_call 62; exact Calls.quiet_of ((cP.out _).mono fun e w' h => ⟨h.1, 0, h.2.symm⟩)) | (go_at_call 37; exact Calls.quiet_of ((litNeed_yes 33 _).mono fun e w' h => ⟨h.1, 0, h.2.symm⟩)))
            have HS5 := hide (HS4.out.below (below_drewN (Below.refl w4.heap.size w4) nq))
            have hk5 := hk4.out.drewN nq
            generalize w4.drewN nq = w5 at HS5 hk5 ⊢
            clear c0 c1 cP HS4
            have c0 := hk5.cell 0; have c1 := hk5.cell 1
            simp at c0 c1
            have zb := hk5.lt
            have HK5 := hide hk5
            clear hk5
            go_wp2_with fail
            refine wp_region_tail_below (W := w5) 9 (by kernel_rfl) (by kernel_rfl) (Below.refl _ _) ?_
            simp only [List.take, List.drop]
            repeat (first
              | go_big_quiet_skip
              | (apply wpQuiet_one (by rfl)
                 · intro w' hw'
                   have hc := (bcell hw').1
                   go_simp
                   first
                     | done
                     | (go_at_call 62; exact Calls.below_same hw' (cP.out _))
                     | rfl
                 · go_simp
                   rfl))
            refine wpQuiet_nil ?_
            intro w6 hw6
            have HS6 := hide (HS5.out.below hw6)
            have HK6 := hide (HK5.out.below hw6 zb)
            have cB := hide (btByte btBuilder w.heap.size w.heap.size ys c w6 HS6.out.bt (by simp at hyl; omega) HS6.out.mv.size)
            clear hw6 HS5 c0 c1 HK5
            go_wp2_with (go_at_call 60; refine (cB.out).mono ?_; rintro e w7 ⟨rfl, hI7, hb7, hs7⟩; have HS7 := hide (HS6.out.wrote hb hI7 hb7); have hk7 := HK6.out.below hb7 hb; have c1 := hk7.cell 1; have z1 := hk7.frozen 1; simp at c1; have HK7 := hide hk7; clear hk7 hI7 hb7 hs7)
            have hk8 := HK7.out.set_ 1 (.int .i64 ((a : Int) + 1))
            simp at hk8
            have HS8 := hide (HS7.out.moved hb (Moved.set_ w7 1 (.int .i64 ((a : Int) + 1))) (hgo _ hk8))
            clear hk8 c1 z1
            go_roundg t.length
            case measure => simp at hgl; omega
            case rel => exact ⟨g, t, ys ++ [c], rfl, by simp at hg; omega, by simp at hrl; omega, by simp at hyl ⊢; omega, HS8, hnx⟩
          · have hbad := hide (hto.out.bad (strR_odd (g := g) hc34 hu hp))
            rw [hp] at cP
            have cP := hide cP
            go_wp2_with fail
            refine wp_region_tail_below (W := w4) 11 (by kernel_rfl) (by kernel_rfl) (Below.refl _ _) ?_
            simp only [List.take, List.drop]
            repeat (first
              | go_big_quiet_skip
              | (apply wpQuiet_one (by rfl)
                 · intro w' hw'
                   have hc := (bcell hw').1
                   go_simp
                   first
                     | done
                     | (go_at_call 62; exact Calls.below_same hw' (cP.out _))
                     | rfl
                 · go_simp
                   rfl))
            refine wpQuiet_nil ?_
            intro w5 hw5
            go_wp2_with (go_at_call 37; refine (litNeed_no _ _).mono ?_; rintro e wn ⟨rfl, rfl⟩)
            exact ⟨rfl, (show StrOut f r b s w (panE 33) _ from .inr ⟨hbad.out, rfl, HS4.out.mv.step hw5⟩)⟩
/-- A string's rest. -/
theorem str_any (hPl : PlainOK) (hEn : EncOK) (b f : Nat) (s r : List UInt8) (w : World) (hR : Rd w b s r) (hz : s.length ≤ 1000000000) (hf : r.length < f) :
    (∃ x t, strR f r = some (x, t) ∧ Calls Tryd.prog 66 #[.pointer (some ⟨b, 0, none⟩)] w fun e w' => e = .returned (.string ⟨x.toArray⟩) ∧ Moved b w w' ∧ Rd w' b s t) ∨
    (strR f r = none ∧ Calls Tryd.prog 66 #[.pointer (some ⟨b, 0, none⟩)] w fun e w' => e = panE 33 ∧ Moved b w w') := by
  have h := str_out hPl hEn b f s r w hR hz hf
  rcases hs : strR f r with _ | ⟨x, t⟩
  · refine .inr ⟨rfl, h.mono ?_⟩
    rintro e w' (⟨x, t, h1, _⟩ | ⟨_, h2⟩)
    · rw [hs] at h1; exact absurd h1 (by simp)
    · exact h2
  · refine .inl ⟨x, t, rfl, h.mono ?_⟩
    rintro e w' (⟨x', t', h1, h2⟩ | ⟨h1, _⟩)
    · rw [hs] at h1; simp at h1; rw [h1.1, h1.2]; exact h2
    · rw [hs] at h1; exact absurd h1 (by simp)
theorem str_ok (hPl : PlainOK) (hEn : EncOK) (b f : Nat) (s r : List UInt8) (w : World) (hR : Rd w b s r) (hz : s.length ≤ 1000000000) (hf : r.length < f) {x t : List UInt8} (hs : strR f r = some (x, t)) :
    Calls Tryd.prog 66 #[.pointer (some ⟨b, 0, none⟩)] w fun e w' => e = .returned (.string ⟨x.toArray⟩) ∧ Moved b w w' ∧ Rd w' b s t := by
  rcases str_any hPl hEn b f s r w hR hz hf with ⟨x', t', h1, h2⟩ | ⟨h1, _⟩
  · rw [hs] at h1; simp at h1; rw [h1.1, h1.2]; exact h2
  · rw [hs] at h1; exact absurd h1 (by simp)
theorem str_bad (hPl : PlainOK) (hEn : EncOK) (b f : Nat) (s r : List UInt8) (w : World) (hR : Rd w b s r) (hz : s.length ≤ 1000000000) (hf : r.length < f) (hs : strR f r = none) :
    Calls Tryd.prog 66 #[.pointer (some ⟨b, 0, none⟩)] w fun e w' => e = panE 33 ∧ Moved b w w' := by
  rcases str_any hPl hEn b f s r w hR hz hf with ⟨x', t', h1, _⟩ | ⟨_, h2⟩
  · rw [hs] at h1; exact absurd h1 (by simp)
  · exact h2
end Go.Proofs.YtdnmgpidfjkiaaaDoor

namespace Go.Proofs.YtdnmgpidfjkiaaaDoor
open Go.RowKit
set_option linter.unusedVariables false
set_option linter.unusedSimpArgs false

abbrev signT : List UInt8 := [45, 48, 49, 50, 51, 52, 53, 54, 55, 56, 57]
def signIx (c : UInt8) : Int := Lib.indexByte signT c
theorem signIx_has (c : UInt8) : decide (0 ≤ signIx c) = signD c := by
  unfold signIx signD
  rw [index_has]
theorem sign_index (c : UInt8) (w : World) : Calls Tryd.prog 96 #[.string ⟨#[45, 48, 49, 50, 51, 52, 53, 54, 55, 56, 57]⟩, .int .u8 (c.toNat : Int)] w fun e w' => e = .returned (.int .i64 (signIx c)) ∧ w = w' := by
  have h := strings_IndexByte ⟨#[45, 48, 49, 50, 51, 52, 53, 54, 55, 56, 57]⟩ (c.toNat : Int) w
  have : (c.toNat : Int).toNat.toUInt8 = c := by simp
  rw [this] at h
  exact h
theorem tw_next {r : List UInt8} {k : Nat} (hk : k ≤ (r.takeWhile signD).length) {c : UInt8} (hc : r[k]? = some c) (h : signD c = true) : k + 1 ≤ (r.takeWhile signD).length := by
  rcases Nat.lt_or_ge k (r.takeWhile signD).length with h1 | h1
  · exact h1
  · exfalso
    have he : k = (r.takeWhile signD).length := by omega
    have hcut : r = r.takeWhile signD ++ r.dropWhile signD := (List.takeWhile_append_dropWhile).symm
    rw [hcut, he, List.getElem?_append_right (by simp)] at hc
    simp at hc
    have h2 := List.head?_dropWhile_not signD r
    cases hd : r.dropWhile signD with
    | nil => rw [hd] at hc; simp at hc
    | cons d q =>
      rw [hd] at hc h2
      simp at hc h2
      subst hc
      rw [h] at h2; exact absurd h2 (by simp)
theorem tw_stop {r : List UInt8} {k : Nat} (hk : k ≤ (r.takeWhile signD).length) (h : ∀ c, r[k]? = some c → signD c = false) : k = (r.takeWhile signD).length := by
  rcases Nat.lt_or_ge k (r.takeWhile signD).length with h1 | h1
  · exfalso
    have hm : (r.takeWhile signD)[k] ∈ r.takeWhile signD := List.getElem_mem h1
    have h2 := List.all_takeWhile (p := signD) (l := r)
    rw [List.all_eq_true] at h2
    have h3 := h2 _ hm
    have h4 : r[k]? = some ((r.takeWhile signD)[k]) := by
      have := List.prefix_iff_getElem?.1 (List.takeWhile_prefix signD (l := r)) k h1
      exact this
    rw [h _ h4] at h3; exact absurd h3 (by simp)
  · omega
theorem tw_take (r : List UInt8) : r.take (r.takeWhile signD).length = r.takeWhile signD :=
  (List.prefix_iff_eq_take.1 (List.takeWhile_prefix signD)).symm
theorem tw_in {r : List UInt8} {k : Nat} (hk : k < (r.takeWhile signD).length) {c : UInt8} (hc : r[k]? = some c) : signD c = true := by
  have hm : (r.takeWhile signD)[k] ∈ r.takeWhile signD := List.getElem_mem hk
  have h2 := List.all_takeWhile (p := signD) (l := r)
  rw [List.all_eq_true] at h2
  have h3 := h2 _ hm
  have h4 : r[k]? = some ((r.takeWhile signD)[k]) := List.prefix_iff_getElem?.1 (List.takeWhile_prefix signD (l := r)) k hk
  rw [hc] at h4
  rw [Option.some.inj h4]; exact h3
theorem get_of_dropC {l r : List UInt8} {a k : Nat} {c : UInt8} (h : l.drop a = r) (hc : r[k]? = some c) : ∃ hlz : a + k < (⟨l.toArray⟩ : ByteArray).size, (⟨l.toArray⟩ : ByteArray)[a + k]'hlz = c := by
  rw [← h, List.getElem?_drop] at hc
  obtain ⟨h1, h2⟩ := List.getElem?_eq_some_iff.1 hc
  exact ⟨by rw [mk_size]; exact h1, h2⟩
theorem Moved.upon {b : Nat} {w w1 w2 : World} (h : Moved b w w1) (k : Below w.heap.size w1 w2) : Moved b w w2 :=
  ⟨k.os.trans h.os, k.tape.trans h.tape, k.output.trans h.output, Nat.le_trans h.size k.size, fun j hj hne => (k.block j hj).trans (h.block j hj hne)⟩
/-- Five stores into a box. -/
abbrev put5 (w : World) (g : Nat) (v0 v1 v2 v3 v4 : Value) : World := ((((w.setCell ⟨g, 0, none⟩ v0).setCell ⟨g, 1, none⟩ v1).setCell ⟨g, 2, none⟩ v2).setCell ⟨g, 3, none⟩ v3).setCell ⟨g, 4, none⟩ v4
theorem put5_blk {w : World} {g : Nat} {t : TypeId} {a0 a1 a2 a3 a4 : Value} (h : Blk w g t #[a0, a1, a2, a3, a4]) (v0 v1 v2 v3 v4 : Value) : Blk (put5 w g v0 v1 v2 v3 v4) g t #[v0, v1, v2, v3, v4] := by
  have := ((((h.set_ 0 v0).set_ 1 v1).set_ 2 v2).set_ 3 v3).set_ 4 v4
  simpa using this
theorem put5_far {w : World} {k g : Nat} {t : TypeId} {cs : Array Value} (h : Blk w k t cs) (hk : k ≠ g) (v0 v1 v2 v3 v4 : Value) : Blk (put5 w g v0 v1 v2 v3 v4) k t cs :=
  ((((h.far (p := ⟨g, 0, none⟩) hk v0).far (p := ⟨g, 1, none⟩) hk v1).far (p := ⟨g, 2, none⟩) hk v2).far (p := ⟨g, 3, none⟩) hk v3).far (p := ⟨g, 4, none⟩) hk v4
theorem put5_below {B : Nat} (w : World) {g : Nat} (h : B ≤ g) (v0 v1 v2 v3 v4 : Value) : Below B w (put5 w g v0 v1 v2 v3 v4) :=
  (((((Below.refl B w).setCell (p := ⟨g, 0, none⟩) h v0).setCell (p := ⟨g, 1, none⟩) h v1).setCell (p := ⟨g, 2, none⟩) h v2).setCell (p := ⟨g, 3, none⟩) h v3).setCell (p := ⟨g, 4, none⟩) h v4
theorem put5_size (w : World) (g : Nat) (v0 v1 v2 v3 v4 : Value) : (put5 w g v0 v1 v2 v3 v4).heap.size = w.heap.size := by simp [put5]
/-- What digits tells. -/
def DigOut (r : List UInt8) (b : Nat) (s : List UInt8) (w : World) (e : Ending) (w' : World) : Prop :=
  (∃ n t, digR r = some (n, t) ∧ e = .returned (valV 3 n ⟨#[]⟩ none 0 0 none 0 0) ∧ Moved b w w' ∧ Rd w' b s t) ∨ (digR r = none ∧ e = panE 33 ∧ Moved b w w')
/-- The number's round: where the reader stands, and the result's box. -/
structure DgI (w wr : World) (b : Nat) (s : List UInt8) (a : Nat) : Prop where
  rd : Blk wr b 60 #[.string ⟨s.toArray⟩, .int .i64 (a : Int)]
  bx : Blk wr w.heap.size 26 #[.int .i64 0, .int .i64 0, .string ⟨#[]⟩, .slice none 0 0, .slice none 0 0]
  mv : Moved b w wr
theorem DgI.below {w wr w' : World} {b : Nat} {s : List UInt8} {a : Nat} (h : DgI w wr b s a) (hb : Below wr.heap.size wr w') : DgI w w' b s a := ⟨h.rd.below hb h.rd.lt, h.bx.below hb h.bx.lt, h.mv.step hb⟩
theorem DgI.at_ {w wr : World} {b : Nat} {s : List UInt8} {a : Nat} (h : DgI w wr b s a) (hb : b < w.heap.size) : DgI w (wr.setCell ⟨b, 1, none⟩ (.int .i64 ((a : Int) + 1))) b s (a + 1) := by
  have h1 := h.rd.set_ 1 (.int .i64 ((a : Int) + 1))
  simp at h1
  exact ⟨by simpa using h1, h.bx.far (p := ⟨b, 1, none⟩) (by simp; omega) _, h.mv.trans (Moved.set_ wr 1 _)⟩
set_option maxHeartbeats 2000000 in
set_option maxRecDepth 100000 in
theorem dig_out (b : Nat) (s r : List UInt8) (w : World) (hR : Rd w b s r) (hz : s.length ≤ 1000000000) :
    Calls Tryd.prog 69 #[.pointer (some ⟨b, 0, none⟩)] w (DigOut r b s w) := by
  have hb := hR.lt
  have hlr := hR.len
  have hBx := Blk.new w 26 #[.int .i64 0, .int .i64 0, .string ⟨#[]⟩, .slice none 0 0, .slice none 0 0]
  have hR0 := hR.below ((Below.refl w.heap.size w).alloc (Nat.le_refl _) (.cells #[.int .i64 0, .int .i64 0, .string ⟨#[]⟩, .slice none 0 0, .slice none 0 0] 26))
  have hM0 := Moved.of_below (b := b) ((Below.refl w.heap.size w).alloc (Nat.le_refl _) (.cells #[.int .i64 0, .int .i64 0, .string ⟨#[]⟩, .slice none 0 0, .slice none 0 0] 26))
  have hne : w.heap.size ≠ b := by omega
  go_enter Tryd.func69, Tryd.ntmps69
  go_wp2_with fail
  generalize w.alloc (.cells #[.int .i64 0, .int .i64 0, .string ⟨#[]⟩, .slice none 0 0, .slice none 0 0] 26) = W at hBx hR0 hM0 ⊢
  refine (took_any b s r [32] W hR0 hz (by simp)).mono ?_
  rintro e w1 ⟨rfl, hM1, hR1⟩
  have hBx1 := hM1.blk hBx hne
  have hM1 := hM0.trans hM1
  have hdig : digR r = (if (pParse ((if [32].isPrefixOf r then r.drop 1 else r).takeWhile signD)).2 = 0 ∧ ([32].isPrefixOf r = decide ((pParse ((if [32].isPrefixOf r then r.drop 1 else r).takeWhile signD)).1 < 0)) then some ((pParse ((if [32].isPrefixOf r then r.drop 1 else r).takeWhile signD)).1, (if [32].isPrefixOf r then r.drop 1 else r).drop ((if [32].isPrefixOf r then r.drop 1 else r).takeWhile signD).length) else none) := rfl
  have hR1 : Rd w1 b s (if [32].isPrefixOf r then r.drop 1 else r) := hR1
  generalize (if [32].isPrefixOf r then r.drop 1 else r) = r1 at hR1 hdig
  generalize [32].isPrefixOf r = bl at hdig ⊢
  have hdig := hide hdig
  obtain ⟨a1, g1, g2, hk⟩ := hR1
  have hI1 := hide (DgI.mk (w := w) hk hBx1 hM1)
  have HD := hide g2
  have c1 := hk.cell 1
  simp at c1
  have hms : (⟨s.toArray⟩ : ByteArray).size = s.length := mk_size s
  clear hBx hR0 hM0 hM1 hBx1 hk g2 hR
  go_wp2_with fail
  clear c1
  have htwl : (r1.takeWhile signD).length ≤ r1.length := (List.takeWhile_prefix signD (l := r1)).length_le
  go_loopg [] (r1.takeWhile signD).length (fun gl wr => ∃ (k : Nat), k + gl = (r1.takeWhile signD).length ∧ Hid (DgI w wr b s (a1 + k)))
  case atStart => exact ⟨0, by omega, hI1⟩
  case round =>
    obtain ⟨k, hkl, hI⟩ := hrel
    clear hI1
    have c0 := hI.out.rd.cell 0; have c1 := hI.out.rd.cell 1; have f1 := hI.out.rd.frozen 1
    simp at c0 c1
    have hai : (a1 : Int) + (k : Int) ≤ (s.length : Int) := by omega
    have zb := hI.out.rd.lt
    have hcut := hide (fun c (h : r1[k]? = some c) => get_of_dropC HD.out h)
    cases gk with
    | succ g =>
      obtain ⟨c, hc⟩ : ∃ c, r1[k]? = some c := ⟨_, List.getElem?_eq_getElem (show k < r1.length by omega)⟩
      have hsg : signD c = true := tw_in (show k < (r1.takeWhile signD).length by omega) hc
      have cS := fun w => sign_index c w
      have hsx : decide (0 ≤ signIx c) = true := by rw [signIx_has, hsg]
      generalize signIx c = ix at cS hsx
      obtain ⟨hlz, hx⟩ := hcut.out c hc
      have hlt : decide ((a1 : Int) + (k : Int) < (s.length : Int)) = true := decide_eq_true (by rw [mk_size] at hlz; omega)
      have hi0 : (0 : Int) ≤ (a1 : Int) + (k : Int) := by omega
      have hlt2 : (a1 : Int) + (k : Int) < (s.length : Int) := by rw [mk_size] at hlz; omega
      have htn : ((a1 : Int) + (k : Int)).toNat = a1 + k := by omega
      clear hsg hc hcut
      go_wp2_with fail
      go_quiet (first | (go_at_call 96; exact Calls.quiet_of ((cS _).mono fun e w' h => ⟨h.1, 0, h.2.symm⟩)))
      have hI2 := hide ((hI.out.below (below_drewN (Below.refl wr.heap.size wr) nq)))
      generalize wr.drewN nq = w2 at hI2 ⊢
      clear c0 c1 f1
      have f2 := hI2.out.rd.frozen 1
      have c1 := hI2.out.rd.cell 1
      simp at c1
      go_wp2_with fail
      have hI3 := hide (hI2.out.at_ hb)
      rw [show ((a1 + k : Nat) : Int) = (a1 : Int) + (k : Int) by omega] at hI3
      go_roundg g
      case measure => omega
      case rel => exact ⟨k + 1, by omega, hI3⟩
    | zero =>
      have HKL := hide (show k = (r1.takeWhile signD).length by omega)
      have hk2 : k ≤ (r1.takeWhile signD).length := by omega
      have hk3 : (r1.takeWhile signD).length ≤ k := by omega
      clear hkl
      rcases Nat.lt_or_ge (a1 + k) s.length with hlt | hge
      · obtain ⟨c, hc⟩ : ∃ c, r1[k]? = some c := ⟨_, List.getElem?_eq_getElem (show k < r1.length by omega)⟩
        have hsg : signD c = false := by
          rcases hs : signD c with _ | _
          · rfl
          · have := tw_next (by omega) hc hs; omega
        have cS := fun w => sign_index c w
        have hsx : decide (0 ≤ signIx c) = false := by rw [signIx_has, hsg]
        generalize signIx c = ix at cS hsx
        obtain ⟨hlz, hx⟩ := hcut.out c hc
        have hltd : decide ((a1 : Int) + (k : Int) < (s.length : Int)) = true := decide_eq_true (by omega)
        have hi0 : (0 : Int) ≤ (a1 : Int) + (k : Int) := by omega
        have hlt2 : (a1 : Int) + (k : Int) < (s.length : Int) := by omega
        have htn : ((a1 : Int) + (k : Int)).toNat = a1 + k := by omega
        clear hsg hc hcut
        go_wp2_with fail
        go_quiet (first | (go_at_call 96; exact Calls.quiet_of ((cS _).mono fun e w' h => ⟨h.1, 0, h.2.symm⟩)))
        clear hlz hx htn hltd hlt2
        have hI2 := hide (hI.out.below (below_drewN (Below.refl wr.heap.size wr) nq))
        generalize wr.drewN nq = w2 at hI2 ⊢
        clear c0 c1 f1 hI
        have c0 := hI2.out.rd.cell 0; have c1 := hI2.out.rd.cell 1
        simp at c0 c1
        have zb := hI2.out.rd.lt
        have hxt : (⟨s.toArray⟩ : ByteArray).extract a1 (a1 + k) = ⟨(r1.takeWhile signD).toArray⟩ := by
          apply ByteArray.ext
          apply Array.toList_inj.1
          rw [← Lib.toList_data, Lib.extract_toList]
          simp only [HD.out, Nat.add_sub_cancel_left, HKL.out, tw_take]
        have cN := fun w => parse_any ⟨(r1.takeWhile signD).toArray⟩ w (by rw [mk_size]; omega)
        rw [show (⟨(r1.takeWhile signD).toArray⟩ : ByteArray).data.toList = r1.takeWhile signD from rfl] at cN
        have hgo := hide (show ∀ w', Blk w' b 60 #[.string ⟨s.toArray⟩, .int .i64 ((a1 + k : Nat) : Int)] → Rd w' b s (r1.drop (r1.takeWhile signD).length) by
          intro w' h
          rw [← HKL.out]
          exact Rd.go g1 HD.out (by omega) h)
        have hdg := hdig.out
        generalize r1.drop (r1.takeWhile signD).length = t at hdg hgo
        generalize (r1.takeWhile signD) = tw at cN hxt hdg
        generalize pParse tw = N at cN hdg
        obtain ⟨n, e⟩ := N
        simp only at cN hdg
        have hdg := hide hdg
        have cN := hide cN
        clear hdig
        have ha0 : (0 : Int) ≤ (a1 : Int) := by omega
        have ha1 : (a1 : Int) ≤ (a1 : Int) + (k : Int) := by omega
        have hlt3 : (a1 : Int) + (k : Int) ≤ (s.length : Int) := by omega
        have htn2 : ((a1 : Int) + (k : Int)).toNat = a1 + k := by omega
        go_wp2_with fail
        refine wp_region_below (W := w2) (by kernel_rfl) (by kernel_rfl) (Below.refl _ _) ?_
        repeat (first
          | go_big_quiet_skip
          | (apply wpQuiet_one (by rfl)
             · intro w' hw'
               have hc := (bcell hw').1
               go_simp
               first
                 | done
                 | (go_at_call 101; exact Calls.below_of hw' (cN.out _))
                 | rfl
             · go_simp
               rfl))
        refine wpQuiet_nil ?_
        intro w3 hw3
        have hI3 := hide (hI2.out.below hw3)
        clear hw3 hI2 c0 c1
        have hne3 : w.heap.size ≠ b := hne
        by_cases he : e = 0
        · by_cases hbn : bl = decide (n < 0)
          · have HT := hide (show digR r = some (n, t) by rw [hdg.out, if_pos ⟨he, hbn⟩])
            subst he
            have q0 := hI3.out.bx.cell 0; have q1 := hI3.out.bx.cell 1; have q2 := hI3.out.bx.cell 2; have q3 := hI3.out.bx.cell 3; have q4 := hI3.out.bx.cell 4
            have y0 := hI3.out.bx.frozen 0; have y1 := hI3.out.bx.frozen 1; have y2 := hI3.out.bx.frozen 2; have y3 := hI3.out.bx.frozen 3; have y4 := hI3.out.bx.frozen 4
            simp at q0 q1 q2 q3 q4
            have hbq : (bl == decide (n < 0)) = true := by simpa using hbn
            clear hbn
            go_wp2_with (go_at_call 37; refine (litNeed_yes _ _).mono ?_; rintro e wn ⟨rfl, rfl⟩)
            have HB5 := hide (put5_blk hI3.out.bx (.int .i64 3) (.int .i64 n) (.string ⟨#[]⟩) (.slice none 0 0) (.slice none 0 0))
            have HR5 := hide (put5_far hI3.out.rd (show b ≠ w.heap.size by omega) (.int .i64 3) (.int .i64 n) (.string ⟨#[]⟩) (.slice none 0 0) (.slice none 0 0))
            have HM5 := hide (hI3.out.mv.upon (put5_below w3 (Nat.le_refl w.heap.size) (.int .i64 3) (.int .i64 n) (.string ⟨#[]⟩) (.slice none 0 0) (.slice none 0 0)))
            unfold put5 at HB5 HR5 HM5
            clear q0 q1 q2 q3 q4 y0 y1 y2 y3 y4
            generalize ((((w3.setCell ⟨w.heap.size, 0, none⟩ (.int .i64 3)).setCell ⟨w.heap.size, 1, none⟩ (.int .i64 n)).setCell ⟨w.heap.size, 2, none⟩ (.string ⟨#[]⟩)).setCell ⟨w.heap.size, 3, none⟩ (.slice none 0 0)).setCell ⟨w.heap.size, 4, none⟩ (.slice none 0 0) = w5 at HB5 HR5 HM5 ⊢
            have q0 := HB5.out.cell 0; have q1 := HB5.out.cell 1; have q2 := HB5.out.cell 2; have q3 := HB5.out.cell 3; have q4 := HB5.out.cell 4
            simp at q0 q1 q2 q3 q4
            (try simp only [Exit.inBlock, Exit.then])
            refine bodyPost_ret (v := valV 3 n ⟨#[]⟩ none 0 0 none 0 0) ?_ rfl (show DigOut r b s w _ _ from .inl ⟨n, t, HT.out, rfl, HM5.out, hgo.out _ HR5.out⟩)
            simp [results, Tryd.results69, go_sem, q0, q1, q2, q3, q4]
          · have HT := hide (show digR r = none by rw [hdg.out, if_neg (fun h => hbn h.2)])
            subst he
            have hbq : (bl == decide (n < 0)) = false := by simpa using hbn
            clear hbn
            go_wp2_with (go_at_call 37; refine (litNeed_no _ _).mono ?_; rintro e wn ⟨rfl, rfl⟩)
            exact ⟨rfl, (show DigOut r b s w (panE 33) _ from .inr ⟨HT.out, rfl, hI3.out.mv⟩)⟩
        · have HT := hide (show digR r = none by rw [hdg.out, if_neg (fun h => he h.1)])
          have hef : (e == 0) = false := by simpa using he
          clear he
          go_wp2_with (go_at_call 37; refine (litNeed_no _ _).mono ?_; rintro e wn ⟨rfl, rfl⟩)
          exact ⟨rfl, (show DigOut r b s w (panE 33) _ from .inr ⟨HT.out, rfl, hI3.out.mv⟩)⟩
      · have hltd : decide ((a1 : Int) + (k : Int) < (s.length : Int)) = false := decide_eq_false (by omega)
        clear hcut
        go_wp2_with fail
        go_quiet (first | fail)
        clear hltd
        have hI2 := hide (hI.out.below (below_drewN (Below.refl wr.heap.size wr) nq))
        generalize wr.drewN nq = w2 at hI2 ⊢
        clear c0 c1 f1 hI
        have c0 := hI2.out.rd.cell 0; have c1 := hI2.out.rd.cell 1
        simp at c0 c1
        have zb := hI2.out.rd.lt
        have hxt : (⟨s.toArray⟩ : ByteArray).extract a1 (a1 + k) = ⟨(r1.takeWhile signD).toArray⟩ := by
          apply ByteArray.ext
          apply Array.toList_inj.1
          rw [← Lib.toList_data, Lib.extract_toList]
          simp only [HD.out, Nat.add_sub_cancel_left, HKL.out, tw_take]
        have cN := fun w => parse_any ⟨(r1.takeWhile signD).toArray⟩ w (by rw [mk_size]; omega)
        rw [show (⟨(r1.takeWhile signD).toArray⟩ : ByteArray).data.toList = r1.takeWhile signD from rfl] at cN
        have hgo := hide (show ∀ w', Blk w' b 60 #[.string ⟨s.toArray⟩, .int .i64 ((a1 + k : Nat) : Int)] → Rd w' b s (r1.drop (r1.takeWhile signD).length) by
          intro w' h
          rw [← HKL.out]
          exact Rd.go g1 HD.out (by omega) h)
        have hdg := hdig.out
        generalize r1.drop (r1.takeWhile signD).length = t at hdg hgo
        generalize (r1.takeWhile signD) = tw at cN hxt hdg
        generalize pParse tw = N at cN hdg
        obtain ⟨n, e⟩ := N
        simp only at cN hdg
        have hdg := hide hdg
        have cN := hide cN
        clear hdig
        have ha0 : (0 : Int) ≤ (a1 : Int) := by omega
        have ha1 : (a1 : Int) ≤ (a1 : Int) + (k : Int) := by omega
        have hlt3 : (a1 : Int) + (k : Int) ≤ (s.length : Int) := by omega
        have htn2 : ((a1 : Int) + (k : Int)).toNat = a1 + k := by omega
        go_wp2_with fail
        refine wp_region_below (W := w2) (by kernel_rfl) (by kernel_rfl) (Below.refl _ _) ?_
        repeat (first
          | go_big_quiet_skip
          | (apply wpQuiet_one (by rfl)
             · intro w' hw'
               have hc := (bcell hw').1
               go_simp
               first
                 | done
                 | (go_at_call 101; exact Calls.below_of hw' (cN.out _))
                 | rfl
             · go_simp
               rfl))
        refine wpQuiet_nil ?_
        intro w3 hw3
        have hI3 := hide (hI2.out.below hw3)
        clear hw3 hI2 c0 c1
        have hne3 : w.heap.size ≠ b := hne
        by_cases he : e = 0
        · by_cases hbn : bl = decide (n < 0)
          · have HT := hide (show digR r = some (n, t) by rw [hdg.out, if_pos ⟨he, hbn⟩])
            subst he
            have q0 := hI3.out.bx.cell 0; have q1 := hI3.out.bx.cell 1; have q2 := hI3.out.bx.cell 2; have q3 := hI3.out.bx.cell 3; have q4 := hI3.out.bx.cell 4
            have y0 := hI3.out.bx.frozen 0; have y1 := hI3.out.bx.frozen 1; have y2 := hI3.out.bx.frozen 2; have y3 := hI3.out.bx.frozen 3; have y4 := hI3.out.bx.frozen 4
            simp at q0 q1 q2 q3 q4
            have hbq : (bl == decide (n < 0)) = true := by simpa using hbn
            clear hbn
            go_wp2_with (go_at_call 37; refine (litNeed_yes _ _).mono ?_; rintro e wn ⟨rfl, rfl⟩)
            have HB5 := hide (put5_blk hI3.out.bx (.int .i64 3) (.int .i64 n) (.string ⟨#[]⟩) (.slice none 0 0) (.slice none 0 0))
            have HR5 := hide (put5_far hI3.out.rd (show b ≠ w.heap.size by omega) (.int .i64 3) (.int .i64 n) (.string ⟨#[]⟩) (.slice none 0 0) (.slice none 0 0))
            have HM5 := hide (hI3.out.mv.upon (put5_below w3 (Nat.le_refl w.heap.size) (.int .i64 3) (.int .i64 n) (.string ⟨#[]⟩) (.slice none 0 0) (.slice none 0 0)))
            unfold put5 at HB5 HR5 HM5
            clear q0 q1 q2 q3 q4 y0 y1 y2 y3 y4
            generalize ((((w3.setCell ⟨w.heap.size, 0, none⟩ (.int .i64 3)).setCell ⟨w.heap.size, 1, none⟩ (.int .i64 n)).setCell ⟨w.heap.size, 2, none⟩ (.string ⟨#[]⟩)).setCell ⟨w.heap.size, 3, none⟩ (.slice none 0 0)).setCell ⟨w.heap.size, 4, none⟩ (.slice none 0 0) = w5 at HB5 HR5 HM5 ⊢
            have q0 := HB5.out.cell 0; have q1 := HB5.out.cell 1; have q2 := HB5.out.cell 2; have q3 := HB5.out.cell 3; have q4 := HB5.out.cell 4
            simp at q0 q1 q2 q3 q4
            (try simp only [Exit.inBlock, Exit.then])
            refine bodyPost_ret (v := valV 3 n ⟨#[]⟩ none 0 0 none 0 0) ?_ rfl (show DigOut r b s w _ _ from .inl ⟨n, t, HT.out, rfl, HM5.out, hgo.out _ HR5.out⟩)
            simp [results, Tryd.results69, go_sem, q0, q1, q2, q3, q4]
          · have HT := hide (show digR r = none by rw [hdg.out, if_neg (fun h => hbn h.2)])
            subst he
            have hbq : (bl == decide (n < 0)) = false := by simpa using hbn
            clear hbn
            go_wp2_with (go_at_call 37; refine (litNeed_no _ _).mono ?_; rintro e wn ⟨rfl, rfl⟩)
            exact ⟨rfl, (show DigOut r b s w (panE 33) _ from .inr ⟨HT.out, rfl, hI3.out.mv⟩)⟩
        · have HT := hide (show digR r = none by rw [hdg.out, if_neg (fun h => he h.1)])
          have hef : (e == 0) = false := by simpa using he
          clear he
          go_wp2_with (go_at_call 37; refine (litNeed_no _ _).mono ?_; rintro e wn ⟨rfl, rfl⟩)
          exact ⟨rfl, (show DigOut r b s w (panE 33) _ from .inr ⟨HT.out, rfl, hI3.out.mv⟩)⟩
end Go.Proofs.YtdnmgpidfjkiaaaDoor

namespace Go.Proofs.YtdnmgpidfjkiaaaDoor
open Go.RowKit
set_option linter.unusedVariables false
set_option linter.unusedSimpArgs false

/-- Blocks from base on, but for two. -/
def apartB (base : Nat) (o1 o2 : Option Nat) : World → Nat → Prop := fun w b => freshB base w b ∧ some b ≠ o1 ∧ some b ≠ o2
/-- A list of values that is built, beside a list of keys. -/
structure RowK (n base : Nat) (w : World) (v kv : Value) (es : List VF) (xs : List (VT n)) : Prop where
  own : w.ownsRow base 26 5 v es.length (es.flatMap VF.cells)
  len : es.length = xs.length
  ne : ∀ k, v.ownBlock = some k → kv.ownBlock ≠ some k
  each : ∀ (r : Nat) (e : VF) (x : VT n), es[r]? = some e → xs[r]? = some x → IsV (apartB base v.ownBlock kv.ownBlock) w n e.val x
theorem RowK.toRow {n base : Nat} {w : World} {v kv : Value} {es : List VF} {xs : List (VT n)} (h : RowK n base w v kv es xs) : RowV n base w v es xs :=
  ⟨h.own, h.len, fun r e x he hx => IsV.on (w := w) (w' := w) ⟨Nat.le_refl _, fun b _ hu => ⟨rfl, hu.1, hu.2.1⟩⟩ n _ _ (h.each r e x he hx)⟩
theorem RowK.grow {n base : Nat} {w w' : World} {v kv : Value} {es : List VF} {xs : List (VT n)} {row : Option Nat} (h : RowK n base w v kv es xs) (hg : w.grownBy w' row) (hr : ∀ q, row = some q → q < base) : RowK n base w' v kv es xs := by
  refine ⟨h.own.kept hg ?_, h.len, h.ne, fun r e x he hx => IsV.on ⟨hg.size, ?_⟩ n _ _ (h.each r e x he hx)⟩
  · cases hv : v.ownBlock with
    | none => exact .inl rfl
    | some k =>
      right
      intro e
      have h1 := (h.own.lt k hv).1
      have h2 := hr k e.symm
      omega
  · rintro b hb ⟨⟨h1, cs, t, h2⟩, h3, h4⟩
    have hk : w'.heap[b]? = w.heap[b]? := hg.block b hb (fun e => by have := hr b e.symm; omega)
    exact ⟨hk, ⟨h1, cs, t, hk.trans h2⟩, h3, h4⟩
theorem RowK.keys {n base g : Nat} {w wA w4 : World} {v kv kv' : Value} {es : List VF} {xs : List (VT n)} (h : RowK n base w v kv es xs) (hA : Below w.heap.size w wA) (hg : wA.grownBy w4 kv.ownBlock) (hkv : kv'.ownBlock = some g) (hat : kv.ownBlock = some g ∨ g = wA.heap.size) : RowK n base w4 v kv' es xs := by
  have hsz : w.heap.size ≤ w4.heap.size := Nat.le_trans hA.size hg.size
  have hkeep : ∀ b, b < w.heap.size → some b ≠ kv.ownBlock → w4.heap[b]? = w.heap[b]? := fun b h1 h2 => (hg.block b (Nat.lt_of_lt_of_le h1 hA.size) h2).trans (hA.block b h1)
  have hne : ∀ b, b < w.heap.size → some b ≠ kv.ownBlock → some b ≠ kv'.ownBlock := by
    intro b h1 h2 e
    rw [hkv] at e
    injection e with e
    subst e
    rcases hat with h3 | h3
    · exact h2 h3.symm
    · have := hA.size; omega
  have hown : w4.ownsRow base 26 5 v es.length (es.flatMap VF.cells) := by
    refine (own_keepV h.own hA).kept hg ?_
    cases hv : v.ownBlock with
    | none => exact .inl rfl
    | some k => exact .inr (fun e => h.ne k hv e.symm)
  refine ⟨hown, h.len, ?_, fun r e x he hx => IsV.on ⟨hsz, ?_⟩ n _ _ (h.each r e x he hx)⟩
  · intro k hv
    have h1 := h.own.lt k hv
    exact fun e => hne k h1.2 (fun e2 => h.ne k hv e2.symm) e.symm
  · rintro b hb ⟨⟨h1, cs, t, h2⟩, h3, h4⟩
    exact ⟨hkeep b hb h4, ⟨h1, cs, t, (hkeep b hb h4).trans h2⟩, h3, hne b hb h4⟩
theorem RowK.snoc {n base M g cap : Nat} {w wA w4 : World} {v kv : Value} {es : List VF} {xs : List (VT n)} {e : VF} {x : VT n} (h : RowK n base w v kv es xs) (hV : IsV (freshB M) w n e.val x)
    (hM : ∀ k, v.ownBlock = some k → k < M) (hM2 : ∀ k, kv.ownBlock = some k → k < M ∧ k < w.heap.size) (hbM : base ≤ M) (hA : Below w.heap.size w wA) (hg : wA.grownBy w4 v.ownBlock)
    (hown : w4.ownsRow base 26 5 (.slice (some ⟨g, 0, none⟩) (es.length + 1) cap) (es.length + 1) (es.flatMap VF.cells ++ e.cells)) (hat : v.ownBlock = some g ∨ g = wA.heap.size) :
    RowK n base w4 (.slice (some ⟨g, 0, none⟩) (es.length + 1) cap) kv (es ++ [e]) (xs ++ [x]) := by
  have hsz : w.heap.size ≤ w4.heap.size := Nat.le_trans hA.size hg.size
  have hkeep : ∀ b, b < w.heap.size → some b ≠ v.ownBlock → w4.heap[b]? = w.heap[b]? := fun b h1 h2 => (hg.block b (Nat.lt_of_lt_of_le h1 hA.size) h2).trans (hA.block b h1)
  have hne : ∀ b, b < w.heap.size → some b ≠ v.ownBlock → some b ≠ some g := by
    intro b h1 h2 e
    injection e with e
    subst e
    rcases hat with h3 | h3
    · exact h2 h3.symm
    · have := hA.size; omega
  refine ⟨by simpa using hown, by simp [h.len], ?_, ?_⟩
  · intro k hk
    have hkg : k = g := by
      have : some g = some k := hk
      injection this with this; exact this.symm
    subst hkg
    intro e
    have h1 := hM2 k e
    rcases hat with h3 | h3
    · exact h.ne k h3 e
    · have := hA.size; omega
  · intro r e' x' he hx
    show IsV (apartB base (some g) kv.ownBlock) w4 n e'.val x'
    rcases Nat.lt_or_ge r es.length with hr | hr
    · rw [List.getElem?_append_left hr] at he
      rw [List.getElem?_append_left (by rw [← h.len]; exact hr)] at hx
      refine IsV.on (U := apartB base v.ownBlock kv.ownBlock) ⟨hsz, ?_⟩ n _ _ (h.each r e' x' he hx)
      rintro b h1 ⟨⟨h2, cs, t, h3⟩, h4, h5⟩
      exact ⟨hkeep b h1 h4, ⟨h2, cs, t, (hkeep b h1 h4).trans h3⟩, hne b h1 h4, h5⟩
    · obtain rfl : r = es.length := by
        have := (List.getElem?_eq_some_iff.1 he).1
        simp at this; omega
      rw [List.getElem?_append_right (by omega)] at he
      rw [List.getElem?_append_right (by rw [h.len]; omega), ← h.len] at hx
      simp at he hx
      subst he; subst hx
      refine IsV.on (U := freshB M) ⟨hsz, ?_⟩ n _ _ hV
      rintro b h1 ⟨h2, cs, t, h3⟩
      have h4 : some b ≠ v.ownBlock := by
        intro e
        have := hM b e.symm
        omega
      have h5 : some b ≠ kv.ownBlock := by
        intro e
        have := (hM2 b e.symm).1
        omega
      exact ⟨hkeep b h1 h4, ⟨Nat.le_trans hbM h2, cs, t, (hkeep b h1 h4).trans h3⟩, hne b h1 h4, h5⟩
abbrev strV (x : List UInt8) : Value := .string ⟨x.toArray⟩
/-- The round's state. -/
structure ItI (w wr : World) (b : Nat) (s r' : List UInt8) (n : Nat) (k : Int) (A0 : Option Addr) (cp : Nat) (A5 : Option Addr) (c5 : Nat) (ks : List (List UInt8)) (es : List VF) (xs : List (VT n)) : Prop where
  mv : Moved b w wr
  rd : Rd wr b s r'
  b0 : Blk wr w.heap.size 26 #[.int .i64 k, .int .i64 0, .string ⟨#[]⟩, .slice A0 xs.length cp, .slice A5 ks.length c5]
  b1 : Blk wr (w.heap.size + 1) 26 #[.int .i64 0, .int .i64 0, .string ⟨#[]⟩, .slice none 0 0, .slice none 0 0]
  keys : wr.ownsRow (w.heap.size + 2) 9 1 (.slice A5 ks.length c5) ks.length (ks.map strV)
  row : RowK n (w.heap.size + 2) wr (.slice A0 xs.length cp) (.slice A5 ks.length c5) es xs
section
variable {w wr : World} {b : Nat} {s r' : List UInt8} {n : Nat} {k : Int} {A0 : Option Addr} {cp : Nat} {A5 : Option Addr} {c5 : Nat} {ks : List (List UInt8)} {es : List VF} {xs : List (VT n)}
theorem ItI.on {wP : World} {r2 : List UInt8} (h : ItI w wr b s r' n k A0 cp A5 c5 ks es xs) (hb : b < w.heap.size) (hm : Moved b wr wP) (hr : Rd wP b s r2) : ItI w wP b s r2 n k A0 cp A5 c5 ks es xs :=
  ⟨h.mv.trans hm, hr, hm.blk h.b0 (by omega), hm.blk h.b1 (by omega), h.keys.kept (row := some b) hm (by
    cases hv : (Value.slice A5 ks.length c5).ownBlock with
    | none => exact .inl rfl
    | some q => exact .inr (fun e => by injection e with e; have := (h.keys.lt q hv).1; omega)), h.row.grow (row := some b) hm (fun q e => by injection e with e; omega)⟩
theorem ItI.below {wP : World} (h : ItI w wr b s r' n k A0 cp A5 c5 ks es xs) (hb : b < w.heap.size) (hm : Below wr.heap.size wr wP) : ItI w wP b s r' n k A0 cp A5 c5 ks es xs :=
  h.on hb (Moved.of_below hm) (h.rd.below hm)
theorem ItI.key {wA w4 : World} {g cap : Nat} {x : List UInt8} (h : ItI w wr b s r' n k A0 cp A5 c5 ks es xs) (hb : b < w.heap.size) (hA : Below wr.heap.size wr wA) (hg : wA.grownBy w4 (Value.slice A5 ks.length c5).ownBlock)
    (hown : w4.ownsRow (w.heap.size + 2) 9 1 (.slice (some ⟨g, 0, none⟩) (ks.length + 1) cap) (ks.length + 1) (ks.map strV ++ [strV x])) (hat : (Value.slice A5 ks.length c5).ownBlock = some g ∨ g = wA.heap.size) :
    ItI w (w4.setCell ⟨w.heap.size, 4, none⟩ (.slice (some ⟨g, 0, none⟩) (ks.length + 1) cap)) b s r' n k A0 cp (some ⟨g, 0, none⟩) cap (ks ++ [x]) es xs := by
  have hlt : ∀ q, (Value.slice A5 ks.length c5).ownBlock = some q → w.heap.size + 2 ≤ q := fun q hq => (h.keys.lt q hq).1
  have l0 := h.b0.lt
  have hAs := hA.size
  have hz : w.heap.size < w4.heap.size := by have := hg.size; omega
  have hne : ∀ j, j < w.heap.size + 2 → some j ≠ (Value.slice A5 ks.length c5).ownBlock := fun j hj e => by have := hlt j e.symm; omega
  have h0 := ((h.b0.below hA l0).grown hg (hne _ (by omega))).set_ 4 (.slice (some ⟨g, 0, none⟩) (ks.length + 1) cap)
  have h1 := ((h.b1.below hA h.b1.lt).grown hg (hne _ (by omega))).far (p := ⟨w.heap.size, 0 + 4, none⟩) (by simp) (.slice (some ⟨g, 0, none⟩) (ks.length + 1) cap)
  have hm : Moved b w w4 := by
    have := h.mv.step hA
    refine ⟨hg.os.trans this.os, hg.tape.trans this.tape, hg.output.trans this.output, Nat.le_trans this.size hg.size, fun j hj hjb => (hg.block j (Nat.lt_of_lt_of_le hj this.size) (hne j (by omega))).trans (this.block j hj hjb)⟩
  refine ⟨hm.upon ((Below.refl w.heap.size w4).setCell (p := ⟨w.heap.size, 4, none⟩) (Nat.le_refl _) _), ?_, ?_, by simpa using h1, ?_, ?_⟩
  · obtain ⟨a, g1, g2, g3⟩ := h.rd
    exact ⟨a, g1, g2, ((g3.below hA g3.lt).grown hg (hne _ (by omega))).far (p := ⟨w.heap.size, 4, none⟩) (by simp; omega) _⟩
  · rw [List.length_append]
    simpa using h0
  · rw [List.length_append, List.map_append]
    exact own_setV hown (p := ⟨w.heap.size, 4, none⟩) (by simp) _
  · rw [List.length_append]
    exact (h.row.keys hA hg (kv' := .slice (some ⟨g, 0, none⟩) (ks.length + 1) cap) rfl hat).grow (row := some w.heap.size) ⟨rfl, rfl, rfl, by simp, fun j _ hj => Below.heap_setCell w4 ⟨w.heap.size, 4, none⟩ _ j (fun e => hj (by rw [e]))⟩ (fun q e => by injection e with e; omega)
theorem ItI.item {wA w4 : World} {M g cap : Nat} {e : VF} {x : VT n} (h : ItI w wr b s r' n k A0 cp A5 c5 ks es xs) (hb : b < w.heap.size) (hV : IsV (freshB M) wr n e.val x) (hM : ∀ q, (Value.slice A0 xs.length cp).ownBlock = some q → q < M) (hM2 : ∀ q, (Value.slice A5 ks.length c5).ownBlock = some q → q < M)
    (hbM : w.heap.size + 2 ≤ M) (hA : Below wr.heap.size wr wA) (hg : wA.grownBy w4 (Value.slice A0 xs.length cp).ownBlock)
    (hown : w4.ownsRow (w.heap.size + 2) 26 5 (.slice (some ⟨g, 0, none⟩) (es.length + 1) cap) (es.length + 1) (es.flatMap VF.cells ++ e.cells)) (hat : (Value.slice A0 xs.length cp).ownBlock = some g ∨ g = wA.heap.size) :
    ItI w (w4.setCell ⟨w.heap.size, 3, none⟩ (.slice (some ⟨g, 0, none⟩) (es.length + 1) cap)) b s r' n k (some ⟨g, 0, none⟩) cap A5 c5 ks (es ++ [e]) (xs ++ [x]) := by
  have hlt : ∀ q, (Value.slice A0 xs.length cp).ownBlock = some q → w.heap.size + 2 ≤ q := fun q hq => (h.row.own.lt q hq).1
  have l0 := h.b0.lt
  have hAs := hA.size
  have hlen : (xs ++ [x]).length = es.length + 1 := by simp [h.row.len]
  have hz : w.heap.size < w4.heap.size := by have := hg.size; omega
  have hne : ∀ j, j < w.heap.size + 2 → some j ≠ (Value.slice A0 xs.length cp).ownBlock := fun j hj e => by have := hlt j e.symm; omega
  have h0 := ((h.b0.below hA l0).grown hg (hne _ (by omega))).set_ 3 (.slice (some ⟨g, 0, none⟩) (es.length + 1) cap)
  have h1 := ((h.b1.below hA h.b1.lt).grown hg (hne _ (by omega))).far (p := ⟨w.heap.size, 0 + 3, none⟩) (by simp) (.slice (some ⟨g, 0, none⟩) (es.length + 1) cap)
  have hm : Moved b w w4 := by
    have := h.mv.step hA
    refine ⟨hg.os.trans this.os, hg.tape.trans this.tape, hg.output.trans this.output, Nat.le_trans this.size hg.size, fun j hj hjb => (hg.block j (Nat.lt_of_lt_of_le hj this.size) (hne j (by omega))).trans (this.block j hj hjb)⟩
  rw [show ItI w (w4.setCell ⟨w.heap.size, 3, none⟩ (.slice (some ⟨g, 0, none⟩) (es.length + 1) cap)) b s r' n k (some ⟨g, 0, none⟩) cap A5 c5 ks (es ++ [e]) (xs ++ [x]) = ItI w (w4.setCell ⟨w.heap.size, 3, none⟩ (.slice (some ⟨g, 0, none⟩) (es.length + 1) cap)) b s r' n k (some ⟨g, 0, none⟩) cap A5 c5 ks (es ++ [e]) (xs ++ [x]) from rfl]
  refine ⟨hm.upon ((Below.refl w.heap.size w4).setCell (p := ⟨w.heap.size, 3, none⟩) (Nat.le_refl _) _), ?_, ?_, by simpa using h1, ?_, ?_⟩
  · obtain ⟨a, g1, g2, g3⟩ := h.rd
    exact ⟨a, g1, g2, ((g3.below hA g3.lt).grown hg (hne _ (by omega))).far (p := ⟨w.heap.size, 3, none⟩) (by simp; omega) _⟩
  · rw [hlen]
    simpa using h0
  · have hk : w4.ownsRow (w.heap.size + 2) 9 1 (.slice A5 ks.length c5) ks.length (ks.map strV) := by
      refine (own_keepV h.keys hA).kept hg ?_
      cases hv : (Value.slice A5 ks.length c5).ownBlock with
      | none => exact .inl rfl
      | some q => exact .inr (fun e => h.row.ne q e.symm hv)
    exact own_setV hk (p := ⟨w.heap.size, 3, none⟩) (by simp) _
  · rw [hlen]
    exact (h.row.snoc hV hM (fun q hq => ⟨hM2 q hq, (h.keys.lt q hq).2⟩) hbM hA hg hown hat).grow (row := some w.heap.size) ⟨rfl, rfl, rfl, by simp, fun j _ hj => Below.heap_setCell w4 ⟨w.heap.size, 3, none⟩ _ j (fun e => hj (by rw [e]))⟩ (fun q e => by injection e with e; omega)
theorem ItI.done (h : ItI w wr b s r' n k A0 cp A5 c5 ks es xs) (hb : b < w.heap.size) (v0 v1 v2 v3 v4 : Value) :
    IsV (freshB w.heap.size) (put5 wr (w.heap.size + 1) v0 v1 v2 v3 v4) (n + 1) (valV k 0 ⟨#[]⟩ A0 xs.length cp A5 ks.length c5) (⟨k, 0, [], xs, ks⟩ : VN (VT n)) ∧ Moved b w (put5 wr (w.heap.size + 1) v0 v1 v2 v3 v4) ∧ Rd (put5 wr (w.heap.size + 1) v0 v1 v2 v3 v4) b s r' ∧ Blk (put5 wr (w.heap.size + 1) v0 v1 v2 v3 v4) (w.heap.size + 1) 26 #[v0, v1, v2, v3, v4] := by
  have hbl : Below (w.heap.size + 1) wr (put5 wr (w.heap.size + 1) v0 v1 v2 v3 v4) := put5_below wr (Nat.le_refl _) v0 v1 v2 v3 v4
  have hst : Stays (freshB (w.heap.size + 2)) (freshB w.heap.size) wr (put5 wr (w.heap.size + 1) v0 v1 v2 v3 v4) := by
    refine ⟨by rw [put5_size]; exact Nat.le_refl _, ?_⟩
    rintro j hj ⟨h1, cs, t, h2⟩
    have he : (put5 wr (w.heap.size + 1) v0 v1 v2 v3 v4).heap[j]? = wr.heap[j]? := by
      unfold put5
      rw [Below.heap_setCell _ _ _ j (by simp; omega), Below.heap_setCell _ _ _ j (by simp; omega), Below.heap_setCell _ _ _ j (by simp; omega), Below.heap_setCell _ _ _ j (by simp; omega), Below.heap_setCell _ _ _ j (by simp; omega)]
    exact ⟨he, by omega, cs, t, he.trans h2⟩
  refine ⟨IsV.made (d := (⟨k, 0, [], xs, ks⟩ : VN (VT n))) ?_ ?_, h.mv.upon (hbl.mono (by omega)), h.rd.belowB hbl (by omega), put5_blk h.b1 _ _ _ _ _⟩
  · exact (own_strs h.keys rfl (Nat.le_refl _)).on hst
  · exact (h.row.toRow.vals (N := w.heap.size + 2) rfl (Nat.le_refl _)).on hst (IsV.on hst n)
end
end Go.Proofs.YtdnmgpidfjkiaaaDoor
