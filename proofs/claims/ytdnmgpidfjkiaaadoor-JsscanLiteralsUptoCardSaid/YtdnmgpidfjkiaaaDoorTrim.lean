/-
  strings.Trim by a set of octets: octets.Trim.
-/
import Derived.Test.YtdnmgpidfjkiaaaDoorOct
import Derived.Test.YtdnmgpidfjkiaaaDoorM1
import Derived.Test.YtdnmgpidfjkiaaaDoorShelf
import Derived.Deep.WholeRow
import Derived.Lib.AsciiSet
namespace Go.Proofs.YtdnmgpidfjkiaaaDoor
open Go.RowKit
set_option linter.unusedVariables false
set_option linter.unusedSimpArgs false

theorem at_data (t : ByteArray) (k : Nat) (h : k < t.size) : t.data.toList[k]? = some (t[k]'h) := by
  rw [List.getElem?_eq_getElem (by rw [size_list]; exact h)]; rfl
theorem head_tail (t : ByteArray) (h : 0 < t.size) : t.data.toList = t[0] :: (t.extract 1 t.size).data.toList := by
  have h0 := at_data t 0 h
  rw [Lib.extract_eq]
  have hl := size_list t
  cases hd : t.data.toList with
  | nil => rw [hd] at h0; cases h0
  | cons c r =>
    rw [hd] at h0 hl
    simp at h0 hl
    simp [← h0, ← hl]
theorem init_last (t : ByteArray) (h : 0 < t.size) : t.data.toList = (t.extract 0 (t.size - 1)).data.toList ++ [t[t.size - 1]'(by omega)] := by
  have h0 := at_data t (t.size - 1) (by omega)
  have hl := size_list t
  rw [Lib.extract_eq]
  generalize t[t.size - 1]'(by omega) = c at h0 ⊢
  generalize t.data.toList = l at h0 hl ⊢
  rw [← hl] at h0 ⊢
  obtain ⟨h1, h2⟩ := List.getElem?_eq_some_iff.1 h0
  simp only [List.drop_zero, Nat.sub_zero]
  have h3 : l.take (l.length - 1 + 1) = l := List.take_of_length_le (by omega)
  rw [List.take_add_one, h0] at h3
  simpa using h3.symm
def strOfV : Value → ByteArray
  | .string t => t
  | _ => ⟨#[]⟩
set_option maxHeartbeats 1000000 in
set_option maxRecDepth 100000 in
theorem trimLeft_any (s : ByteArray) (b : Nat) (w : World) (hset : ∀ x : UInt8, w.cell? ⟨b, x.toNat, none⟩ = some (.bool (isBlank x))) (hs : s.size ≤ 4611686018427387903) :
    Calls Tryd.prog 116 #[.string s, .pointer (some ⟨b, 0, none⟩)] w fun e w' => ∃ t : ByteArray, e = .returned (.string t) ∧ w = w' ∧ t.data.toList = s.data.toList.dropWhile isBlank := by
  go_enter Tryd.func116, Tryd.ntmps116
  have HS := hide hset
  clear hset
  go_wp2
  go_loop [0] (fun v => ∃ t : ByteArray, v = .string t ∧ t.size ≤ s.size ∧ Hid (t.data.toList.dropWhile isBlank = s.data.toList.dropWhile isBlank)) (fun v => (strOfV v).size)
  case atStart => exact ⟨s, rfl, Nat.le_refl _, rfl⟩
  case round =>
    obtain ⟨t, rfl, hts, hrel⟩ := hrel
    by_cases hlt : 0 < t.size
    · have cP := hide (Tryd.asciiSet_contains b (t[0]'hlt) (isBlank (t[0]'hlt)) w (HS.out _))
      have hd := hide (head_tail t hlt)
      obtain ⟨c, hc⟩ : ∃ c, t[0]'hlt = c := ⟨_, rfl⟩
      rw [hc] at cP hd
      have hlt2 : 0 < (t.size : Int) := by omega
      rcases Bool.eq_false_or_eq_true (isBlank c) with hb | hb
      · rw [hb] at cP
        have HF := hide (show (t.extract 1 t.size).data.toList.dropWhile isBlank = s.data.toList.dropWhile isBlank by rw [← hrel.out, hd.out]; simp [hb])
        have h1 : ((t.extract 1 t.size).size : Int) = (t.size : Int) - 1 := by rw [ByteArray.size_extract]; omega
        go_wp2_with (go_at_call 142; refine (cP.out).mono ?_; rintro e w1 ⟨rfl, rfl⟩)
        go_round
        case rel => exact ⟨_, rfl, by omega, HF⟩
        case measure => simp [strOfV]; omega
      · rw [hb] at cP
        have HF := hide (show t.data.toList = s.data.toList.dropWhile isBlank by rw [← hrel.out, hd.out]; simp [hb])
        go_wp2_with (go_at_call 142; refine (cP.out).mono ?_; rintro e w1 ⟨rfl, rfl⟩)
        go_ret
        exact ⟨t, rfl, rfl, HF.out⟩
    · have h0 : t.size = 0 := by omega
      have HF := hide (show t.data.toList = s.data.toList.dropWhile isBlank by rw [← hrel.out, show t.data.toList = [] by (apply List.eq_nil_of_length_eq_zero; rw [size_list]; exact h0)]; rfl)
      go_wp2
      go_ret
      exact ⟨t, rfl, rfl, HF.out⟩

def trimR (l : List UInt8) : List UInt8 := (l.reverse.dropWhile isBlank).reverse
theorem trimR_blank (l : List UInt8) (c : UInt8) (h : isBlank c = true) : trimR (l ++ [c]) = trimR l := by
  unfold trimR; simp [h]
theorem trimR_other (l : List UInt8) (c : UInt8) (h : isBlank c = false) : trimR (l ++ [c]) = l ++ [c] := by
  unfold trimR; simp [h]
theorem trimR_len (l : List UInt8) : (trimR l).length ≤ l.length := by
  unfold trimR
  rw [List.length_reverse]
  have := (List.dropWhile_sublist (l := l.reverse) isBlank).length_le
  simpa using this
set_option maxHeartbeats 1000000 in
set_option maxRecDepth 100000 in
theorem trimRight_any (s : ByteArray) (b : Nat) (w : World) (hset : ∀ x : UInt8, w.cell? ⟨b, x.toNat, none⟩ = some (.bool (isBlank x))) (hs : s.size ≤ 4611686018427387903) :
    Calls Tryd.prog 117 #[.string s, .pointer (some ⟨b, 0, none⟩)] w fun e w' => ∃ t : ByteArray, e = .returned (.string t) ∧ w = w' ∧ t.data.toList = trimR s.data.toList := by
  go_enter Tryd.func117, Tryd.ntmps117
  have HS := hide hset
  clear hset
  go_wp2
  go_loop [0] (fun v => ∃ t : ByteArray, v = .string t ∧ t.size ≤ s.size ∧ Hid (trimR t.data.toList = trimR s.data.toList)) (fun v => (strOfV v).size)
  case atStart => exact ⟨s, rfl, Nat.le_refl _, rfl⟩
  case round =>
    obtain ⟨t, rfl, hts, hrel⟩ := hrel
    by_cases hlt : 0 < t.size
    · have hd := hide (init_last t hlt)
      have hlast : t.size - 1 < t.size := by omega
      have cP := hide (Tryd.asciiSet_contains b (t[t.size - 1]'hlast) (isBlank (t[t.size - 1]'hlast)) w (HS.out _))
      obtain ⟨c, hc⟩ : ∃ c, t[t.size - 1]'hlast = c := ⟨_, rfl⟩
      rw [hc] at cP hd
      have hlt2 : 0 < (t.size : Int) := by omega
      have hle : (t.size : Int) ≤ 4611686018427387903 := by omega
      have hsub : ((t.size : Int) - 1).toNat = t.size - 1 := by omega
      rcases Bool.eq_false_or_eq_true (isBlank c) with hb | hb
      · rw [hb] at cP
        have HF := hide (show trimR (t.extract 0 (t.size - 1)).data.toList = trimR s.data.toList by rw [← hrel.out, hd.out, trimR_blank _ _ hb])
        have h1 : ((t.extract 0 (t.size - 1)).size : Int) = (t.size : Int) - 1 := by rw [ByteArray.size_extract]; omega
        go_wp2_with (go_at_call 142; refine (cP.out).mono ?_; rintro e w1 ⟨rfl, rfl⟩)
        go_round
        case rel => exact ⟨_, rfl, by omega, HF⟩
        case measure => simp [strOfV]; omega
      · rw [hb] at cP
        have HF := hide (show t.data.toList = trimR s.data.toList by rw [← hrel.out, hd.out, trimR_other _ _ hb])
        go_wp2_with (go_at_call 142; refine (cP.out).mono ?_; rintro e w1 ⟨rfl, rfl⟩)
        go_ret
        exact ⟨t, rfl, rfl, HF.out⟩
    · have h0 : t.size = 0 := by omega
      have HF := hide (show t.data.toList = trimR s.data.toList by rw [← hrel.out, show t.data.toList = [] by (apply List.eq_nil_of_length_eq_zero; rw [size_list]; exact h0)]; rfl)
      go_wp2
      go_ret
      exact ⟨t, rfl, rfl, HF.out⟩

def blankT : List UInt8 := [32, 9, 10, 12, 13]
theorem blank_in (x : UInt8) : blankT.contains x = isBlank x := by
  have := allBytes (fun c => blankT.contains c == isBlank c) (by decide +kernel) x
  simpa using this
def trimL (l : List UInt8) : List UInt8 := (trimR l).dropWhile isBlank
set_option maxHeartbeats 1000000 in
set_option maxRecDepth 100000 in
theorem trim_any (s : ByteArray) (w : World) (hs : s.size ≤ 4611686018427387903) :
    Calls Tryd.prog 90 #[.string s, .string ⟨#[32, 9, 10, 12, 13]⟩] w fun e w' => ∃ t : ByteArray, e = .returned (.string t) ∧ Below w.heap.size w w' ∧ t.data.toList = trimL s.data.toList := by
  obtain ⟨hv, hi⟩ := zero_of_info (P := Tryd.prog) (t := 128) (v := .agg (Array.replicate 256 (.bool false))) (n := 256) (by kernel_rfl)
  have hM := hide (Tryd.strings_makeASCIISet hv ⟨#[32, 9, 10, 12, 13]⟩ w (by decide) (fun j b hj => by
    have h1 : ((ByteArray.mk #[32, 9, 10, 12, 13]).data.toList.all fun b => decide (b.toNat < 128)) = true := by decide +kernel
    simpa using List.all_eq_true.1 h1 b (List.mem_of_getElem? hj)))
  obtain ⟨cs, hcs⟩ : ∃ cs, Lib.setCells (ByteArray.mk #[32, 9, 10, 12, 13]).data.toList = cs := ⟨_, rfl⟩
  have hsz : cs.size = 256 := by rw [← hcs]; exact Lib.setCells_size _
  have hat : ∀ x : UInt8, cs[x.toNat]? = some (.bool (isBlank x)) := fun x => by
    rw [← hcs, Lib.setCells_at, ← blank_in]; rfl
  have hone : cs.all (·.oneCell') = true := by rw [← hcs]; decide +kernel
  rw [hcs] at hM
  clear hcs
  have hsc : (storeCells ⟨w.heap.size + 1, 0, none⟩ cs.toList 0).run Tryd.prog ((w.alloc (.cells cs 128)).alloc (.cells (Array.replicate 256 (.bool false)) 128)) = .ok () ((w.alloc (.cells cs 128)).alloc (.cells cs 128)) := by
    have := run_storeCells_new (P := Tryd.prog) (w.alloc (.cells cs 128)) 128 (Array.replicate 256 (.bool false)) cs (by rw [hsz]; exact hi) (by rw [hsz, Array.size_replicate]) hone
    simpa using this
  by_cases h0 : s.toList = []
  · have HF := hide (show s.data.toList = trimL s.data.toList by rw [← ByteArray.toList_eq, h0]; rfl)
    clear hM hsc hat hone
    go_enter Tryd.func90, Tryd.ntmps90
    go_wp2_with fail
    go_ret
    exact ⟨s, rfl, Below.refl _ _, HF.out⟩
  · have h1 : s.toList.isEmpty = false := by simpa using h0
    clear h0
    have hset : ∀ x : UInt8, ((w.alloc (.cells cs 128)).alloc (.cells cs 128)).cell? ⟨w.heap.size + 1, x.toNat, none⟩ = some (.bool (isBlank x)) := fun x => by
      rw [World.cell?_alloc_at _ _ _ _ (by simp), hat]
    have HS := hide hset
    have HH := hide hat; have HO := hide hone
    clear hset hat hone
    go_enter Tryd.func90, Tryd.ntmps90
    go_wp2_with fail
    refine (hM.out).mono ?_
    rintro e w1 ⟨rfl, rfl⟩
    go_wp2_with fail
    refine (trimRight_any s (w.heap.size + 1) _ HS.out hs).mono ?_
    rintro e w1 ⟨t, rfl, rfl, ht⟩
    have hts : t.size ≤ 4611686018427387903 := by
      have h2 := trimR_len s.data.toList
      rw [← ht, size_list, size_list] at h2
      omega
    go_wp2_with fail
    refine (trimLeft_any t (w.heap.size + 1) _ HS.out hts).mono ?_
    rintro e w1 ⟨t2, rfl, rfl, ht2⟩
    have HF := hide (show t2.data.toList = trimL s.data.toList by rw [ht2, ht]; rfl)
    clear ht ht2
    go_wp2_with fail
    go_ret
    exact ⟨t2, rfl, ((Below.refl _ _).alloc (Nat.le_refl _) _).alloc (by simp) _, HF.out⟩

/-- octets.Trim. -/
theorem octTrim_any (s : ByteArray) (w : World) (hs : s.size ≤ 4611686018427387903) :
    Calls Tryd.prog 58 #[.string s] w fun e w' => ∃ t : ByteArray, e = .returned (.string t) ∧ Below w.heap.size w w' ∧ t.data.toList = trimL s.data.toList := by
  have c := hide (trim_any s w hs)
  go_enter Tryd.func58, Tryd.ntmps58
  go_wp2_with (go_at_call 90; refine (c.out).mono ?_; rintro e w1 ⟨t, rfl, hb, ht⟩)
  go_ret
  exact ⟨t, rfl, hb, ht⟩
end Go.Proofs.YtdnmgpidfjkiaaaDoor
