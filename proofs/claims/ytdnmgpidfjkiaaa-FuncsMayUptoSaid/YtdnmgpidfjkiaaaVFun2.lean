/-
  funcs: what is told may be: the small functions.
-/
import Derived.Test.YtdnmgpidfjkiaaaVFun
import Derived.Test.YtdnmgpidfjkiaaaOrder
namespace Go.Proofs.Ytdnmgpidfjkiaaa
open Go.RowKit
set_option linter.unusedVariables false
set_option linter.unusedSimpArgs false

/-- What is told: it may be; it is plain, if pl. -/
def GoodV (N : Nat) (pl : Bool) (w : World) (v : Value) : Prop := ∃ (m : Nat) (d : VT (m + 1)), IsV (freshB N) w (m + 1) v d ∧ SmallV (m + 1) d ∧ checkV (m + 1) 0 d = 0 ∧ (pl = true → plainV (m + 1) d = true)
/-- What is handed in. -/
def ArgV (n : Nat) (pl : Bool) (w : World) (v : Value) : Prop := ∃ d : VT (n + 1), IsV anyB w (n + 1) v d ∧ SmallV (n + 1) d ∧ checkV (n + 1) 0 d = 0 ∧ NumV (n + 1) d ∧ massV (n + 1) d ≤ 1048576 ∧ (pl = true → plainV (n + 1) d = true)
def FRes (pl : Bool) (w : World) (e : Ending) (w' : World) : Prop := ∃ (f : VF) (k : Int), e = .returned (.tuple #[f.val, .int .i64 k]) ∧ GoodV w.heap.size pl w' f.val ∧ Below w.heap.size w w'
theorem any_okF : ∀ (w w' : World) (b : Nat), Below w.heap.size w w' → b < w.heap.size → anyB w b → anyB w' b := fun _ _ _ _ _ _ => trivial
theorem IsV.anyF {w w' : World} {n : Nat} {v : Value} {d : VT n} (h : IsV anyB w n v d) (hb : Below w.heap.size w w') : IsV anyB w' n v d := IsV.on (Stays.of_below hb fun b h1 => any_okF _ _ b hb h1) n _ _ h
theorem GoodV.step {N : Nat} {pl : Bool} {w w' : World} {v : Value} (h : GoodV N pl w v) (hb : Below w.heap.size w w') : GoodV N pl w' v := by
  obtain ⟨m, d, h1, h2⟩ := h
  exact ⟨m, d, IsV.on (stays_fresh hb) _ _ _ h1, h2⟩
theorem GoodV.less {N M : Nat} (hNM : N ≤ M) {pl : Bool} {w : World} {v : Value} (h : GoodV M pl w v) : GoodV N pl w v := by
  obtain ⟨m, d, h1, h2⟩ := h
  exact ⟨m, d, fresh_from hNM h1, h2⟩
theorem GoodV.set {N : Nat} {pl : Bool} {w : World} {v : Value} (h : GoodV N pl w v) {p : Addr} (hp : p.block < N) (u : Value) : GoodV N pl (w.setCell p u) v := by
  obtain ⟨m, d, h1, h2⟩ := h
  refine ⟨m, d, IsV.on ⟨by simp, fun b hb ⟨h3, cs, t, h4⟩ => ?_⟩ _ _ _ h1, h2⟩
  have hk : (w.setCell p u).heap[b]? = w.heap[b]? := Below.heap_setCell _ p _ b (by omega)
  exact ⟨hk, h3, cs, t, hk.trans h4⟩
theorem GoodV.set5 {N : Nat} {pl : Bool} {w : World} {v : Value} (h : GoodV N pl w v) {g : Nat} (hp : g < N) (v0 v1 v2 v3 v4 : Value) :
    GoodV N pl (((((w.setCell ⟨g, 0, none⟩ v0).setCell ⟨g, 1, none⟩ v1).setCell ⟨g, 2, none⟩ v2).setCell ⟨g, 3, none⟩ v3).setCell ⟨g, 4, none⟩ v4) v :=
  ((((h.set (p := ⟨g, 0, none⟩) hp v0).set (p := ⟨g, 1, none⟩) hp v1).set (p := ⟨g, 2, none⟩) hp v2).set (p := ⟨g, 3, none⟩) hp v3).set (p := ⟨g, 4, none⟩) hp v4
theorem ArgV.step {n : Nat} {pl : Bool} {w w' : World} {v : Value} (h : ArgV n pl w v) (hb : Below w.heap.size w w') : ArgV n pl w' v := by
  obtain ⟨d, h1, h2⟩ := h
  exact ⟨d, h1.anyF hb, h2⟩
/-- A value without parts. -/
theorem goodLeaf (N : Nat) (pl : Bool) (w : World) (k i : Int) (s : List UInt8) (h : headErr 0 k i s.length 0 0 true = 0) (hs : s.length ≤ 140737488351232) (hk : k < 7) : GoodV N pl w (valV k i ⟨s.toArray⟩ none 0 0 none 0 0) := by
  refine ⟨0, (⟨k, i, s, [], []⟩ : VN (VT 0)), IsV.made (n := 0) (d := (⟨k, i, s, [], []⟩ : VN (VT 0))) (a := none) (a2 := none) (c := 0) (c2 := 0) (fun j x hx => by simp at hx) (fun j x hx => by simp at hx), ⟨hs, by simp, by simp, fun x hx => by simp at hx, fun x hx => by simp at hx⟩, ?_, fun _ => ?_⟩
  · exact (checkV_good (n := 0) (deep := 0) (k := k) (i := i) (s := s) (l := []) (ks := []) h).trans rfl
  · rw [plainV_mk]; simp [hk]
theorem goodZero (N : Nat) (pl : Bool) (w : World) : GoodV N pl w (valV 0 0 ⟨#[]⟩ none 0 0 none 0 0) := goodLeaf N pl w 0 0 [] (by decide) (by decide) (by decide)
theorem firstE_each : ∀ (l : List Int), firstE l = 0 → ∀ x ∈ l, x = 0 := by
  intro l
  induction l with
  | nil => intro _ x hx; cases hx
  | cons y l ih =>
    intro h x hx
    simp only [firstE] at h
    split at h
    · rcases List.mem_cons.1 hx with rfl | hx
      · assumption
      · exact ih h x hx
    · exact absurd h (by assumption)
theorem check_parts {n deep : Nat} {k i : Int} {s : List UInt8} {l : List (VT n)} {ks : List (List UInt8)} (h : checkV (n + 1) deep (⟨k, i, s, l, ks⟩ : VN (VT n)) = 0) : headErr deep k i s.length l.length ks.length (risingK ks) = 0 ∧ ∀ x ∈ l, checkV n (deep + 1) x = 0 := by
  rw [checkV_mk] at h
  split at h
  · rename_i h1
    exact ⟨h1, fun x hx => firstE_each _ h _ (List.mem_map.2 ⟨x, hx, rfl⟩)⟩
  · rename_i h1; exact absurd h h1
theorem firstE_zero : ∀ (l : List Int), (∀ x ∈ l, x = 0) → firstE l = 0 := by
  intro l
  induction l with
  | nil => intro _; rfl
  | cons y l ih =>
    intro h
    simp only [firstE, h y (List.mem_cons_self ..), if_pos]
    exact ih fun x hx => h x (List.mem_cons_of_mem _ hx)
theorem headErr_less {deep deep' : Nat} {k i : Int} {sl nl kl : Nat} {up : Bool} (hd : deep' ≤ deep) (hd2 : deep ≤ 16) (h : headErr deep k i sl nl kl up = 0) : headErr deep' k i sl nl kl up = 0 := by
  unfold headErr at h ⊢
  split at h
  · cases h
  · rename_i h1
    rw [if_neg (fun h2 => h1 ⟨h2.1, by have := h2.2; omega⟩)]
    exact h
/-- What may be deep within may be higher up. -/
theorem check_less : ∀ (n deep deep' : Nat) (d : VT n), deep' ≤ deep → deep ≤ 16 → checkV n deep d = 0 → checkV n deep' d = 0 := by
  intro n
  induction n with
  | zero => intro _ _ _ _ _ _; rfl
  | succ n ih =>
    intro deep deep' d hd hd2 h
    obtain ⟨k, i, s, l, ks⟩ := d
    obtain ⟨h1, h2⟩ := check_parts h
    rw [checkV_good (headErr_less hd hd2 h1)]
    apply firstE_zero
    intro x hx
    obtain ⟨y, hy, rfl⟩ := List.mem_map.1 hx
    by_cases hl : deep = 16
    · -- a list so deep is empty
      have : l.length = 0 := by
        unfold headErr at h1
        split at h1
        · cases h1
        split at h1
        · cases h1
        split at h1
        · cases h1
        split at h1
        · cases h1
        · omega
      have : l = [] := List.length_eq_zero_iff.1 this
      subst this; cases hy
    · exact ih (deep + 1) (deep' + 1) y (by omega) (by omega) (h2 y hy)
theorem head_len {deep : Nat} {k i : Int} {sl nl kl : Nat} {up : Bool} (h : headErr deep k i sl nl kl up = 0) : sl ≤ 4096 := by
  unfold headErr at h
  split at h
  · cases h
  split at h
  · cases h
  · omega
/-- A value's part. -/
theorem goodPart {n N : Nat} {pl : Bool} {w : World} {d : VN (VT (n + 1))} {v : Value} {x : VT (n + 1)} (hs : SmallV (n + 2) d) (hc : checkV (n + 2) 0 d = 0) (hp : pl = true → plainV (n + 2) d = true) (hx : x ∈ d.l) (hv : IsV (freshB N) w (n + 1) v x) : GoodV N pl w v := by
  obtain ⟨k, i, s, l, ks⟩ := d
  have hx : x ∈ l := hx
  obtain ⟨_, _, _, _, h5⟩ := hs
  refine ⟨n, x, hv, h5 x hx, check_less _ 1 0 x (by omega) (by omega) ((check_parts hc).2 x hx), fun h => ?_⟩
  have := hp h
  rw [plainV_mk, Bool.and_eq_true, List.all_eq_true] at this
  exact this.1 x hx
theorem textV_any (s : ByteArray) (w : World) : Calls Try.prog 31 #[.string s] w fun e w' => e = .returned (.agg #[.int .i64 4, .int .i64 0, .string s, .slice none 0 0, .slice none 0 0]) ∧ Below w.heap.size w w' := by
  go_enter Try.func31, Try.ntmps31
  go_wp2_with fail
  (try simp only [Exit.inBlock, Exit.then])
  exact bodyPost_ret (v := .agg #[.int .i64 4, .int .i64 0, .string s, .slice none 0 0, .slice none 0 0]) (results_cell_row rfl _ _ w.heap.size 25 _ (0, 0) _ rfl (heap_alloc_new w _) Try.underlying25 rfl (by kernel_rfl)) rfl ⟨rfl, (Below.refl _ _).alloc (Nat.le_refl _) _⟩
end Go.Proofs.Ytdnmgpidfjkiaaa
