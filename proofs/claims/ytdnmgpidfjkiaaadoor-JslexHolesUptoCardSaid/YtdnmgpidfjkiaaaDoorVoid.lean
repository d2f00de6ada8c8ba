/-
  slices.IndexFunc and ContainsFunc over texts; tables.Void; muslinlaw11.alive.
-/
import Derived.Test.YtdnmgpidfjkiaaaDoorAttr
import Derived.Test.YtdnmgpidfjkiaaaDoorM1
import Derived.Test.YtdnmgpidfjkiaaaDoorShelf
import Derived.Deep.RegionWith
import Derived.Deep.QuietTactic
import Derived.BigQuiet
import Derived.Shelf.Abstract
import Derived.KernelRfl
namespace Go.Proofs.YtdnmgpidfjkiaaaDoor
open Go.RowKit
set_option linter.unusedVariables false
set_option linter.unusedSimpArgs false

@[go_sem] theorem run_makeFuncX (P : Program) (fn : Fn) (first cap : Array Value) (w : World) : (Instr.makeFunc fn first cap).run P w = .ok (.func fn first cap) w := rfl

def idxG {α : Type} (p : α → Bool) (l : List α) : Int := (l.findIdx? p).elim (-1) (fun i => (i : Int))
theorem idxG_any {α : Type} (p : α → Bool) (l : List α) : decide (0 ≤ idxG p l) = l.any p := by
  unfold idxG
  cases h : l.findIdx? p with
  | none =>
    rw [List.findIdx?_eq_none_iff] at h
    have : l.any p = false := by rw [List.any_eq_false]; intro x hx; simp [h x hx]
    rw [this]; rfl
  | some i =>
    have hi : ∃ h1 : i < l.length, p l[i] = true := by
      rw [List.findIdx?_eq_some_iff_getElem] at h
      obtain ⟨h1, h2, _⟩ := h
      exact ⟨h1, h2⟩
    have : l.any p = true := by
      rw [List.any_eq_true]
      obtain ⟨h1, h2⟩ := hi
      exact ⟨l[i], List.getElem_mem h1, h2⟩
    rw [this]
    simp
def NoneToG {α : Type} (p : α → Bool) (l : List α) (k : Nat) : Prop := ∀ (j : Nat) (c : α), j < k → l[j]? = some c → p c = false
theorem NoneToG.next {α : Type} {p : α → Bool} {l : List α} {k : Nat} {c : α} (h : NoneToG p l k) (hc : l[k]? = some c) (hp : p c = false) : NoneToG p l (k + 1) := by
  intro j d hj hd
  rcases Nat.lt_or_ge j k with h1 | h1
  · exact h j d h1 hd
  · have : j = k := by omega
    subst this
    rw [hc] at hd
    cases hd
    exact hp
theorem NoneToG.found {α : Type} {p : α → Bool} {l : List α} {k : Nat} {c : α} (h : NoneToG p l k) (hc : l[k]? = some c) (hp : p c = true) : (k : Int) = idxG p l := by
  unfold idxG
  obtain ⟨hk, hck⟩ := List.getElem?_eq_some_iff.1 hc
  have : l.findIdx? p = some k := by
    rw [List.findIdx?_eq_some_iff_getElem]
    refine ⟨hk, by rw [hck]; exact hp, fun j hj => ?_⟩
    have := h j l[j] hj (List.getElem?_eq_getElem (by omega))
    simp [this]
  rw [this]
  rfl
theorem NoneToG.end_ {α : Type} {p : α → Bool} {l : List α} {k : Nat} (h : NoneToG p l k) (hk : l.length ≤ k) : -1 = idxG p l := by
  unfold idxG
  have : l.findIdx? p = none := by
    rw [List.findIdx?_eq_none_iff]
    intro x hx
    obtain ⟨i, hi, rfl⟩ := List.getElem_of_mem hx
    exact h i _ (by omega) (List.getElem?_eq_getElem hi)
  rw [this]
  rfl

/-- A row of texts. -/
def TxtRow (w : World) (r : Nat) (l : List ByteArray) : Prop := ∀ (i : Nat) (s : ByteArray), l[i]? = some s → w.cell? ⟨r, i, none⟩ = some (.string s)
theorem TxtRow.below {w w' : World} {r B : Nat} {l : List ByteArray} (h : TxtRow w r l) (hb : Below B w w') (hr : r < B) : TxtRow w' r l :=
  fun i s hs => by rw [hb.cell (p := ⟨r, i, none⟩) hr]; exact h i s hs
theorem TxtRow.blk {w : World} {r : Nat} {t : TypeId} {l : List ByteArray} (h : Blk w r t (l.map Value.string).toArray) : TxtRow w r l := by
  intro i s hs
  rw [h.cell]
  simp [hs]
/-- A function value on texts answers p, whatever was made since. -/
def PredT (P : Program) (g : Nat) (lb : Array Value) (p : ByteArray → Bool) (w : World) : Prop :=
  ∀ (W : World) (x : ByteArray), Below w.heap.size w W → Calls P g (#[.string x] ++ lb) W fun e w' => e = .returned (.bool (p x)) ∧ Below W.heap.size W w'

set_option maxHeartbeats 1000000 in
set_option maxRecDepth 100000 in
theorem indexFuncT (g : Nat) (lb : Array Value) (eg : ∀ args w, (callFunc g args).run Tryd.prog w = .ok (.enter g args) w) (p : ByteArray → Bool) (l : List ByteArray) (r n cap : Nat) (w : World) (hp : PredT Tryd.prog g lb p w) (hrow : TxtRow w r l) (hr : r < w.heap.size) (hn : l.length = n) (hs : n ≤ 4611686018427387903) :
    Calls Tryd.prog 159 #[.slice (some ⟨r, 0, none⟩) n cap, .func (.func g) #[] lb] w fun e w' => e = .returned (.int .i64 (idxG p l)) ∧ Below w.heap.size w w' := by
  have HP := hide hp; have HR := hide hrow; have HN := hide hn
  clear hp hrow hn
  go_enter Tryd.func159, Tryd.ntmps159
  go_wp2
  go_loopw [8] (fun i wr => ∃ k : Nat, i = .int .i64 (k : Int) ∧ k ≤ n ∧ Below w.heap.size w wr ∧ Hid (NoneToG p l k)) (fun i _ => n - (intOf i).toNat)
  case atStart => exact ⟨0, rfl, Nat.zero_le _, Below.refl _ _, fun j c hj _ => by omega⟩
  case round =>
    obtain ⟨k, rfl, hk, hb, hrel⟩ := hrel
    by_cases hlt : k < n
    · obtain ⟨c, hc⟩ : ∃ c, l[k]? = some c := ⟨_, List.getElem?_eq_getElem (by have := HN.out; omega)⟩
      have q0 := (HR.out.below hb hr) k c hc
      have HC := hide hc; clear hc
      have cP := HP.out wr c hb
      rcases Bool.eq_false_or_eq_true (p c) with hpc | hpc
      · rw [hpc] at cP
        have HF := hide (hrel.out.found HC.out hpc)
        have cP' := hide cP; clear cP hpc
        go_wp2_with (go_at_fn g; refine (Hid.out cP').mono ?_; rintro e w1 ⟨rfl, hb1⟩)
        go_ret
        exact ⟨ret_int HF.out, hb.trans (hb1.mono hb.size)⟩
      · rw [hpc] at cP
        have HF := hide (hrel.out.next HC.out hpc)
        have cP' := hide cP; clear cP hpc
        go_wp2_with (go_at_fn g; refine (Hid.out cP').mono ?_; rintro e w1 ⟨rfl, hb1⟩)
        go_roundw
        case rel => exact ⟨k + 1, by go_num, by omega, hb.trans (hb1.mono hb.size), HF⟩
        case measure => simp [intOf]; omega
    · have HF := hide (hrel.out.end_ (by have := HN.out; omega))
      go_wp2
      go_ret
      exact ⟨ret_int HF.out, hb⟩

set_option maxHeartbeats 400000 in
theorem containsFuncT (g : Nat) (lb : Array Value) (eg : ∀ args w, (callFunc g args).run Tryd.prog w = .ok (.enter g args) w) (p : ByteArray → Bool) (l : List ByteArray) (r n cap : Nat) (w : World) (hp : PredT Tryd.prog g lb p w) (hrow : TxtRow w r l) (hr : r < w.heap.size) (hn : l.length = n) (hs : n ≤ 4611686018427387903) :
    Calls Tryd.prog 140 #[.slice (some ⟨r, 0, none⟩) n cap, .func (.func g) #[] lb] w fun e w' => e = .returned (.bool (l.any p)) ∧ Below w.heap.size w w' := by
  have hc := hide (indexFuncT g lb eg p l r n cap w hp hrow hr hn hs)
  have hA := idxG_any p l
  generalize idxG p l = I at hA hc
  have HA := hide hA
  clear hrow hp hn hA
  go_enter Tryd.func140, Tryd.ntmps140
  go_wp2_with (go_at_call 159; refine (Hid.out hc).mono ?_; rintro e w1 ⟨rfl, hb1⟩)
  go_ret
  exact ⟨ret_bool HA.out, hb1⟩


/-- Elements without an end tag. -/
def voids : List ByteArray := [⟨#[97, 114, 101, 97]⟩, ⟨#[98, 97, 115, 101]⟩, ⟨#[98, 114]⟩, ⟨#[99, 111, 108]⟩, ⟨#[101, 109, 98, 101, 100]⟩, ⟨#[104, 114]⟩, ⟨#[105, 109, 103]⟩, ⟨#[105, 110, 112, 117, 116]⟩, ⟨#[108, 105, 110, 107]⟩, ⟨#[109, 101, 116, 97]⟩, ⟨#[112, 97, 114, 97, 109]⟩, ⟨#[115, 111, 117, 114, 99, 101]⟩, ⟨#[116, 114, 97, 99, 107]⟩, ⟨#[119, 98, 114]⟩]
theorem tabs_below {n : String} {g : Nat} {k : IntKind} {zs : List Int} {w w' : World} (hg : Tryd.prog.globalNamed n = some g) (h : Lib.TabIs Tryd.prog w n k zs) (hb : Below w.heap.size w w') : Lib.TabIs Tryd.prog w' n k zs := by
  unfold Lib.TabIs World.var? at h ⊢
  rw [hg] at h ⊢
  simp only [Option.bind_some] at h ⊢
  have hlt : g < w.heap.size := by
    rcases Nat.lt_or_ge g w.heap.size with h' | h'
    · exact h'
    · rw [Array.getElem?_eq_none h'] at h; cases h
  rw [hb.block g hlt]
  exact h
theorem gSpace : Tryd.prog.globalNamed "strings.asciiSpace" = some 1 := by kernel_rfl
theorem fields_void (w : World) (htab : Lib.TabIs Tryd.prog w "strings.asciiSpace" .u8 Lib.asciiSpaceTab) (r : Nat) (hr : r = w.heap.size) :
    Calls Tryd.prog 138 #[.string ⟨#[97, 114, 101, 97, 32, 98, 97, 115, 101, 32, 98, 114, 32, 99, 111, 108, 32, 101, 109, 98, 101, 100, 32, 104, 114, 32, 105, 109, 103, 32, 105, 110, 112, 117, 116, 32, 108, 105, 110, 107, 32, 109, 101, 116, 97, 32, 112, 97, 114, 97, 109, 32, 115, 111, 117, 114, 99, 101, 32, 116, 114, 97, 99, 107, 32, 119, 98, 114]⟩] w fun e w' => e = .returned (.slice (some ⟨r, 0, none⟩) 14 14) ∧ w' = w.alloc (.cells (voids.map Value.string).toArray 9) := by
  subst hr
  have h := Tryd.strings_Fields ⟨#[97, 114, 101, 97, 32, 98, 97, 115, 101, 32, 98, 114, 32, 99, 111, 108, 32, 101, 109, 98, 101, 100, 32, 104, 114, 32, 105, 109, 103, 32, 105, 110, 112, 117, 116, 32, 108, 105, 110, 107, 32, 109, 101, 116, 97, 32, 112, 97, 114, 97, 109, 32, 115, 111, 117, 114, 99, 101, 32, 116, 114, 97, 99, 107, 32, 119, 98, 114]⟩ w (by decide) (fun j b hj => by
    have h1 : ((⟨#[97, 114, 101, 97, 32, 98, 97, 115, 101, 32, 98, 114, 32, 99, 111, 108, 32, 101, 109, 98, 101, 100, 32, 104, 114, 32, 105, 109, 103, 32, 105, 110, 112, 117, 116, 32, 108, 105, 110, 107, 32, 109, 101, 116, 97, 32, 112, 97, 114, 97, 109, 32, 115, 111, 117, 114, 99, 101, 32, 116, 114, 97, 99, 107, 32, 119, 98, 114]⟩ : ByteArray).data.toList.all fun b => decide (b.toNat < 128)) = true := by decide +kernel
    simpa using List.all_eq_true.1 h1 b (List.mem_of_getElem? hj)) htab
  rw [show Lib.fields (⟨#[97, 114, 101, 97, 32, 98, 97, 115, 101, 32, 98, 114, 32, 99, 111, 108, 32, 101, 109, 98, 101, 100, 32, 104, 114, 32, 105, 109, 103, 32, 105, 110, 112, 117, 116, 32, 108, 105, 110, 107, 32, 109, 101, 116, 97, 32, 112, 97, 114, 97, 109, 32, 115, 111, 117, 114, 99, 101, 32, 116, 114, 97, 99, 107, 32, 119, 98, 114]⟩ : ByteArray).data.toList = [[97, 114, 101, 97], [98, 97, 115, 101], [98, 114], [99, 111, 108], [101, 109, 98, 101, 100], [104, 114], [105, 109, 103], [105, 110, 112, 117, 116], [108, 105, 110, 107], [109, 101, 116, 97], [112, 97, 114, 97, 109], [115, 111, 117, 114, 99, 101], [116, 114, 97, 99, 107], [119, 98, 114]] by decide +kernel] at h
  exact h


/-- muslinlaw11.alive. -/
theorem void_br : (voids.any fun v => v.toList == (ByteArray.mk #[98, 114]).toList) = true := by decide +kernel
end Go.Proofs.YtdnmgpidfjkiaaaDoor
