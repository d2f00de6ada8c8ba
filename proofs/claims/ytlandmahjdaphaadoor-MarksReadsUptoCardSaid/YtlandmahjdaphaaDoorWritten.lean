/-
  percent: written, Normal.
-/
import Derived.Test.YtlandmahjdaphaaDoorPctEnc
import Derived.Test.YtlandmahjdaphaaDoorRepair
namespace Go.Proofs.YtlandmahjdaphaaDoor
open Go.RowKit
set_option linter.unusedVariables false
set_option linter.unusedSimpArgs false

/-- A function tells which octets stand as they are. -/
def MayB (g : Nat) (nm : Bool) : Prop := ∀ (l : List UInt8) (k : Nat) (c : UInt8) (w : World), l.length ≤ 1000000000 → (h : k < l.length) → l[k] = c →
  Calls Tryd.prog g #[.string ⟨l.toArray⟩, .int .i64 (k : Int)] w fun e w' => e = .returned (.bool (keepB nm c (l.drop (k + 1)))) ∧ Below w.heap.size w w'
theorem pctR_at (nm : Bool) (l : List UInt8) (k : Nat) (c : UInt8) (h : k < l.length) (hc : l[k] = c) : pctR nm (l.drop k) = (if keepB nm c (l.drop (k + 1)) then [c] else pct2 c) ++ pctR nm (l.drop (k + 1)) := by
  rw [List.drop_eq_getElem_cons h, hc]; rfl
set_option maxHeartbeats 1000000 in
set_option maxRecDepth 100000 in
theorem written_any (g : Nat) (eg : ∀ args w, (callFunc g args).run Tryd.prog w = .ok (.enter g args) w) (nm : Bool) (hm : MayB g nm) (l : List UInt8) (w : World) (hz : l.length ≤ 1000000000) :
    Calls Tryd.prog 52 #[.string ⟨l.toArray⟩, .func (.func g) #[] #[]] w fun e w' => e = .returned (.string ⟨(pctR nm l).toArray⟩) ∧ Below w.heap.size w w' := by
  have HM := hide hm
  clear hm
  obtain ⟨R, hR⟩ : ∃ R, pctR nm l = R := ⟨_, rfl⟩
  rw [hR]
  have hRl := pctR_len nm l
  rw [hR] at hRl
  have hst : Hid ([] ++ pctR nm (l.drop 0) = R) := by show _ = _; simpa using hR
  clear hR
  have hI0 := isBT_new 76 w w.heap.size (Nat.le_refl _)
  have hB0 := (Below.refl w.heap.size w).alloc (Nat.le_refl _) (.cells #[.pointer none, .slice none 0 0] 76)
  go_enter Tryd.func52, Tryd.ntmps52
  go_wp2_with fail
  generalize hW : w.alloc (.cells #[.pointer none, .slice none 0 0] 76) = W at hI0 hB0 ⊢
  clear hW
  go_loopw [9] (fun i wr => ∃ (k : Nat) (ys : List UInt8), i = .int .i64 (k : Int) ∧ k ≤ l.length ∧ ys.length ≤ 3 * k ∧ IsBT 76 w.heap.size w.heap.size ys wr ∧ Below w.heap.size w wr ∧ Hid (ys ++ pctR nm (l.drop k) = R)) (fun i _ => l.length - (intOf i).toNat)
  case atStart => exact ⟨0, [], rfl, Nat.zero_le _, Nat.zero_le _, hI0, hB0, hst⟩
  case round =>
    obtain ⟨k, ys, rfl, hk, hyk, hI, hb, hrel⟩ := hrel
    have hbz := hb.size
    by_cases hlt : k < l.length
    · have hlz : k < (⟨l.toArray⟩ : ByteArray).size := by rw [mk_size]; exact hlt
      obtain ⟨x, hx⟩ : ∃ x, (⟨l.toArray⟩ : ByteArray)[k]'hlz = x := ⟨_, rfl⟩
      have hlx : l[k] = x := hx
      have hki : (k : Int) < (l.length : Int) := by omega
      have cM := HM.out l k x wr hz hlt hlx
      have hat := pctR_at nm l k x hlt hlx
      generalize keepB nm x (l.drop (k + 1)) = b at cM hat
      have cM := hide cM
      cases b
      · have HN : Hid ((ys ++ [37] ++ pHex (x.toNat : Int) 2) ++ pctR nm (l.drop (k + 1)) = R) := by
          show _ = _
          rw [← hrel.out, hat]; simp [pct2]
        have h2l := pHex2_len (x.toNat : Int)
        have cH := hide (fun w => hex_any (x.toNat : Int) 2 w (by omega) (by omega))
        generalize pHex (x.toNat : Int) 2 = hx2 at cH HN h2l
        clear hat hlx hrel
        go_wp2_with (go_at_fn g; refine (cM.out).mono ?_; rintro e w1 ⟨rfl, hb1⟩)
        have hI1 := isBT_keep hI hb1
        have hbb1 := hb.trans (hb1.mono hbz)
        have c37 := btByte btBuilder w.heap.size w.heap.size ys 37 _ hI1 (by omega) hbb1.size
        rw [show (((37 : UInt8).toNat : Nat) : Int) = 37 from rfl] at c37
        refine c37.mono ?_
        rintro e w2 ⟨rfl, hI2, hb2, _⟩
        have hbb2 := hbb1.trans hb2
        go_wp2_with fail
        have hw64 : wrap64 (x.toNat : Int) = (x.toNat : Int) := IntWalk.wrap64_in _ (by have := x.toNat_lt; omega)
        (try rw [hw64])
        refine (cH.out _).mono ?_
        rintro e w3 ⟨rfl, hb3⟩
        have hI3 := isBT_keep hI2 hb3
        have hbb3 := hbb2.trans (hb3.mono hbb2.size)
        go_wp2_with fail
        refine (btStr btBuilder w.heap.size w.heap.size (ys ++ [37]) hx2 _ hI3 (by simp; omega) hbb3.size).mono ?_
        rintro e w4 ⟨⟨v, rfl⟩, hI4, hb4, _⟩
        have hbb4 := hbb3.trans hb4
        clear hI hI1 hI2 hI3 hb1 hb2 hb3 hb4 hbb1 hbb2 hbb3 hb
        go_wp2_with fail
        go_roundw
        case rel => exact ⟨k + 1, ys ++ [37] ++ hx2, by go_num, by omega, by simp; omega, hI4, hbb4, HN⟩
        case measure => simp [intOf]; omega
      · have HN : Hid ((ys ++ [x]) ++ pctR nm (l.drop (k + 1)) = R) := by
          show _ = _
          rw [← hrel.out, hat]; simp
        clear hat hlx hrel
        go_wp2_with (go_at_fn g; refine (cM.out).mono ?_; rintro e w1 ⟨rfl, hb1⟩)
        have hI1 := isBT_keep hI hb1
        have hbb1 := hb.trans (hb1.mono hbz)
        refine (btByte btBuilder w.heap.size w.heap.size ys x _ hI1 (by omega) hbb1.size).mono ?_
        rintro e w2 ⟨rfl, hI2, hb2, _⟩
        have hbb2 := hbb1.trans hb2
        clear hI hI1 hb1 hb2 hbb1 hb
        go_wp2_with fail
        go_roundw
        case rel => exact ⟨k + 1, ys ++ [x], by go_num, by omega, by simp; omega, hI2, hbb2, HN⟩
        case measure => simp [intOf]; omega
    · have hR2 : ys = R := by
        have := hrel.out
        rw [List.drop_of_length_le (by omega)] at this
        simpa [pctR] using this
      subst hR2
      have hge : decide ((k : Int) < (l.length : Int)) = false := by simp; omega
      clear hrel hst
      go_wp2_with fail
      refine (btString w.heap.size w.heap.size ys _ hI hbz).mono ?_
      rintro e w1 ⟨rfl, hb1⟩
      go_wp2_with fail
      go_ret
      exact ⟨rfl, hb.trans hb1⟩
end Go.Proofs.YtlandmahjdaphaaDoor
