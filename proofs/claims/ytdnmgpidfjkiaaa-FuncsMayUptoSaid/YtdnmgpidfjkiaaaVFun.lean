/-
  funcs: prints of values.
-/
import Derived.Test.YtdnmgpidfjkiaaaVPrint2
import Derived.Test.YtdnmgpidfjkiaaaVSameV2
import Derived.Test.YtdnmgpidfjkiaaaVCheck4
import Derived.Test.YtdnmgpidfjkiaaaVField
namespace Go.Proofs.Ytdnmgpidfjkiaaa
open Go.RowKit
set_option linter.unusedVariables false
set_option linter.unusedSimpArgs false

theorem info_strF : (Try.prog.info? 9).map (fun i => (i.zero, i.size, i.bytes)) = some (some (.string .empty), 1, 16) := by kernel_rfl
def strV (P : List (List UInt8)) : List Value := P.map fun q => .string ⟨q.toArray⟩
theorem own_sliceF {w : World} {base : Nat} {t : TypeId} {s n : Nat} {v : Value} {xs : List Value} (h : w.ownsRow base t s v n xs) : ∃ A c, v = .slice A n c := by
  rcases h.2 with ⟨rfl, rfl⟩ | ⟨g, cap, cur, rfl, _⟩
  · exact ⟨none, 0, rfl⟩
  · exact ⟨_, _, rfl⟩
theorem join_cons2 (sep a b : List UInt8) (r : List (List UInt8)) : Lib.join (a :: b :: r) sep = a ++ sep ++ Lib.join (b :: r) sep := by
  simp [Lib.join, List.intercalate, List.intersperse]
theorem join_len (sep : List UInt8) : ∀ l : List (List UInt8), (Lib.join l sep).length ≤ sumBy (fun p => p.length + sep.length) l := by
  intro l
  induction l with
  | nil => simp [Lib.join, sumBy]
  | cons p l ih =>
    cases l with
    | nil => simp [Lib.join, sumBy, List.intercalate]
    | cons q l => rw [join_cons2]; simp only [sumBy, List.length_append] at ih ⊢; omega
set_option maxHeartbeats 4000000 in
set_option maxRecDepth 100000 in
theorem prints_any {n : Nat} (U : World → Nat → Prop) (hU : ∀ w w' b, Below w.heap.size w w' → b < w.heap.size → U w b → U w' b) (a : Option Addr) (c : Nat) (l : List (VT n)) (sep : List UInt8) (w : World)
    (hL : ValsAt U w (IsV U w n) a l) (hm : sumBy (massV n) l ≤ 2000000) (hn : ∀ x ∈ l, NumV n x) (hs : ∀ x ∈ l, SmallV n x) (hsep : sep.length ≤ 2000000) :
    Calls Try.prog 53 #[.slice a l.length c, .string ⟨sep.toArray⟩] w fun e w' => e = .returned (.string ⟨(Lib.join (l.map (printV n)) sep).toArray⟩) ∧ Below w.heap.size w w' := by
  have hlen : l.length ≤ 2000000 := Nat.le_trans (sumBy_len (massV n) (massV_pos n) l) hm
  have hP : ∀ (v : Value) (x : VT n) (W : World), x ∈ l → IsV U W n v x → Calls Try.prog 32 #[v] W fun e w' => e = .returned (.string ⟨(printV n x).toArray⟩) ∧ Below W.heap.size W w' :=
    fun v x W hx hv => valPrint_any n U hU v x W hv (hs x hx) (hn x hx) (by have := sumBy_mem (massV n) l x hx; omega)
  obtain ⟨i0, hi, hz0, hz1, hz2⟩ := info_parts info_strF
  obtain ⟨S, hS⟩ : ∃ x : ByteArray, (⟨sep.toArray⟩ : ByteArray) = x := ⟨_, rfl⟩
  rw [hS]
  have HS := hide hS; have HL := hide hL; have HP := hide hP; have HM := hide hm; have HN := hide hn; have HSEP := hide hsep
  clear hS hL hP hm hn hs hsep
  go_enter Try.func53, Try.ntmps53
  go_wp2_with (at_make; refine wpList_make_own _ rfl _ _ 23 rfl w.heap.size 9 i0 (.string .empty) 1 Try.underlying23 hi hz0 hz1 .i64 .i64 _ l.length rfl rfl rfl (by rw [hz2]; omega) (by unfold maxLen; omega) (Nat.le_refl _) ?_; intro w0 hown0 hgrow0)
  have hB0 : Below w.heap.size w w0 := (Below.refl _ w).grown hgrow0 (Nat.le_refl _) (fun k e => by cases e)
  go_loopw [5, 13] (fun o i wr => ∃ (k : Nat) (A0 : Option Addr) (cp : Nat), o = .slice A0 k cp ∧ i = .int .i64 (k : Int) ∧ k ≤ l.length ∧ wr.ownsRow w.heap.size 9 1 (.slice A0 k cp) k (strV ((l.map (printV n)).take k)) ∧ Below w.heap.size w wr) (fun _ i _ => l.length - (intOf i).toNat)
  case atStart => exact ⟨0, _, _, rfl, rfl, Nat.zero_le _, hown0, hB0⟩
  case round =>
    obtain ⟨k, A0, cp, rfl, rfl, hk, hown, hb⟩ := hrel
    have hbz := hb.size
    by_cases hlt : k < l.length
    · obtain ⟨x, hx⟩ : ∃ x, l[k]? = some x := ⟨_, List.getElem?_eq_getElem hlt⟩
      have hstay : Stays U U w wr := Stays.of_below hb fun b h => hU _ _ b hb h
      obtain ⟨g, o, rfl, hg, _, ka, ia, sa, aa, na, ca, ba, ma, da, hF, hV⟩ := (HL.out.on hstay (IsV.on hstay n)) k x hx
      obtain ⟨f0, f1, f2, f3, f4⟩ := hF
      have hki : (k : Int) < (l.length : Int) := by omega
      have hnx := hide (show strV ((l.map (printV n)).take k) ++ [.string ⟨(printV n x).toArray⟩] = strV ((l.map (printV n)).take (k + 1)) by
        rw [List.take_add_one, List.getElem?_map, hx]; simp [strV])
      have hbA := (Below.refl wr.heap.size wr).alloc (Nat.le_refl _) (.cells #[.int .i64 ka, .int .i64 ia, .string sa, .slice aa na ca, .slice ba ma da] 25)
      have cP := hide (fun W (h : Below wr.heap.size wr W) => HP.out _ x W (List.mem_of_getElem? hx) (IsV.on (Stays.of_below h fun b hh => hU _ _ b h hh) n _ _ hV))
      obtain ⟨T, hT⟩ : ∃ T : ByteArray, (⟨(printV n x).toArray⟩ : ByteArray) = T := ⟨_, rfl⟩
      rw [hT] at cP hnx
      have HBA := hide hbA
      clear hV hx hstay hT hbA
      go_wp2_with fail
      refine (cP.out _ HBA.out).mono ?_
      rintro e w3 ⟨rfl, hb3⟩
      have hb3w := below_step HBA.out hb3
      have hown3 : w3.ownsRow w.heap.size 9 1 (.slice A0 k cp) k (strV ((l.map (printV n)).take k)) := hown.kept (row := none) ⟨hb3w.os, hb3w.tape, hb3w.output, hb3w.size, fun k hk _ => hb3w.block k hk⟩ (by cases h : (Value.slice A0 k cp).ownBlock <;> simp)
      have hbw := hb.trans (hb3w.mono hb.size)
      have hbws := hbw.size
      clear hown hb3 f0 f1 f2 f3 f4
      go_wp2_with (at_builtin; refine wpList_append_own _ rfl _ _ 23 rfl w.heap.size 9 i0 (.string .empty) 1 16 Try.underlying23 hi hz0 hz1 hz2 rfl (by decide) _ _ _ rfl (hown3.alloc _) ⟨w3.heap.size, 0, none⟩ 1 1 [.string T] rfl rfl (by intro j u hj; match j, hj with | 0, hj => (simp at hj; subst hj; simp [Addr.add])) (by intro u hu; simp at hu; subst hu; rfl) (by unfold maxLen; omega) (by omega) (by simp; omega) ?_)
      intro v' w5 hown' hgrow _
      obtain ⟨A5, c5, rfl⟩ := own_sliceF hown'
      rw [hnx.out] at hown'
      have hbF := (hbw.alloc hbws _).grown hgrow (by simp; omega) (fun j hj => (hown3.lt j hj).1)
      go_wp2_with fail
      go_roundw
      case rel => exact ⟨k + 1, A5, c5, rfl, by go_num, by omega, hown', hbF⟩
      case measure => simp [intOf]; omega
    · have hk2 : k = l.length := by omega
      have hlen2 : (l.map (printV n)).length = l.length := List.length_map ..
      rw [List.take_of_length_le (by omega)] at hown
      have hge : decide ((k : Int) < (l.length : Int)) = false := decide_eq_false (by omega)
      have hjl : (Lib.join (l.map (printV n)) sep).length ≤ 140737488355328 := by
        have h1 := join_len sep (l.map (printV n))
        rw [sumBy_map] at h1
        have h2 := sumBy_addc (fun x => (printV n x).length) sep.length l
        have h3 : sumBy (fun x => (printV n x).length) l ≤ sumBy (fun x => 25 * massV n x) l := sumBy_le l fun x hx => by have := print_len n x (HN.out x hx); omega
        rw [sumBy_mul] at h3
        have h4 := HM.out
        have h5 : sep.length * l.length ≤ 2000000 * 2000000 := Nat.mul_le_mul HSEP.out hlen
        omega
      have cJ : ∀ W, Below w.heap.size w W → Below wr.heap.size wr W → Calls Try.prog 69 #[.slice A0 k cp, .string S] W fun e w' => e = .returned (.string ⟨(Lib.join (l.map (printV n)) sep).toArray⟩) ∧ Below W.heap.size W w' := by
        intro W hW hW2
        rw [← HS.out]
        rcases hown.2 with ⟨he, h0⟩ | ⟨g, cap, cur, hv, _, hg, hcap, _⟩
        · injection he with e1 e2 e3
          subst e2
          have hl0 : l = [] := List.length_eq_zero_iff.1 (by omega)
          subst hl0
          exact (Try.strings_Join_none _ _ _ W).mono fun e w' h => ⟨h.1, by rw [h.2]; exact Below.refl _ _⟩
        · injection hv with e1 e2 e3
          subst e1
          have hcells := hown.cells (g := g) rfl
          have hgl : g < wr.heap.size := (Array.getElem?_eq_some_iff.1 hg).1
          have hq := Try.strings_Join g 0 cp ((l.map (printV n)).map fun q => (⟨q.toArray⟩ : ByteArray)) ⟨sep.toArray⟩ W (fun j x hx => by
            have hc := hcells j (.string x) (by
              rw [List.getElem?_map] at hx
              obtain ⟨y, hy, rfl⟩ := Option.map_eq_some_iff.1 hx
              unfold strV
              rw [List.getElem?_map, hy]; rfl)
            have h2 := hW2.cell (p := ⟨g, j, none⟩) hgl
            rw [Nat.zero_add, h2]
            have h3 : (⟨g, 0, none⟩ : Addr).add j = ⟨g, j, none⟩ := by unfold Addr.add; split <;> simp_all
            rw [h3] at hc
            exact hc) (Nat.lt_of_lt_of_le hgl hW2.size) (by simp; omega) (by simp; omega) (by simpa [Function.comp_def] using hjl)
          have e4 : ((l.map (printV n)).map fun q => (⟨q.toArray⟩ : ByteArray)).length = k := by simp; omega
          rw [e4] at hq
          simpa [Function.comp_def] using hq
      have cJ := hide cJ
      have hB := hide hb
      clear hown hjl hb hk2 hlen2
      go_wp2_with fail
      refine (cJ.out _ hB.out (Below.refl _ _)).mono ?_
      rintro e w5 ⟨rfl, hb5⟩
      go_wp2_with fail
      go_ret
      exact ⟨rfl, hB.out.trans (hb5.mono hB.out.size)⟩
end Go.Proofs.Ytdnmgpidfjkiaaa
