/-
  PLAIN LAWS of many texts, in one.
-/
import Derived.Below
import Derived.Laws.OwnMore
import Derived.Deep.AppendLies
import Derived.Deep.Draws
import Derived.Laws.Rows
import Derived.OwnWalk
import Derived.ChangeSame
import Derived.Deep.OwnRows
import Derived.Calls
import Derived.Laws.Strings2
import Derived.Laws.BytesArg
import Derived.Test.YtnepogddjinpoaaGreatDoorProg
import Derived.WalkKit
import Derived.Deep.RegionLaw
namespace Go.Proofs.YtnepogddjinpoaaGreatDoor
open Go.RowKit Go.WideShapes Go.ChangeShapes
set_option linter.unusedVariables false

/-- The slice value '.slice A n c' holds the cells xs and lies below block B. -/
def Reads (w : World) (B size : Nat) (A : Option Addr) (n : Nat) (xs : List Value) : Prop :=
  xs.length = n * size ∧ (0 < n → ∃ ad, A = some ad ∧ ad.block < B ∧ ∀ j u, xs[j]? = some u → w.cell? (ad.add j) = some u)

section
variable {w w' : World} {B B' size n : Nat} {A : Option Addr} {xs : List Value}
theorem Reads.of_own {base : Nat} {e : TypeId} {c : Nat} (h : w.ownsRow base e size (.slice A n c) n xs) : Reads w w.heap.size size A n xs := by
  refine ⟨h.1, fun hn => ?_⟩
  obtain ⟨g, cap, hv, _, hlt⟩ := h.form hn
  have hA : A = some ⟨g, 0, none⟩ := by injection hv
  subst hA
  exact ⟨_, rfl, hlt, h.cells (g := g) rfl⟩
end

/-- Block g is just the cells cs of element type t, none frozen. -/
def Blk (w : World) (g : Nat) (t : TypeId) (cs : Array Value) : Prop := w.heap[g]? = some (.cells cs t (0, 0))

section
variable {w w' : World} {g : Nat} {t : TypeId} {cs : Array Value}
theorem Blk.lt (h : Blk w g t cs) : g < w.heap.size := by
  rcases Nat.lt_or_ge g w.heap.size with hlt | hge
  · exact hlt
  · unfold Blk at h; rw [Array.getElem?_eq_none hge] at h; cases h
theorem Blk.cell (h : Blk w g t cs) (i : Nat) : w.cell? ⟨g, i, none⟩ = cs[i]? := cell_of_row w g i cs t (0, 0) h
theorem Blk.frozen (h : Blk w g t cs) (i : Nat) : w.frozen? ⟨g, i, none⟩ = false := by
  unfold Blk at h
  simp [World.frozen?, h]
theorem Blk.new (w : World) (t : TypeId) (cs : Array Value) : Blk (w.alloc (.cells cs t)) w.heap.size t cs := heap_alloc_new w _
theorem Blk.drew (h : Blk w g t cs) : Blk w.drew g t cs := h
theorem Blk.alloc (h : Blk w g t cs) (o : Obj) : Blk (w.alloc o) g t cs := (Below.heap_alloc w o g h.lt).trans h
theorem Blk.set_ (h : Blk w g t cs) (i : Nat) (u : Value) : Blk (w.setCell ⟨g, i, none⟩ u) g t (cs.setIfInBounds i u) := by
  unfold Blk at h ⊢
  simp [World.setCell, Array.getElem?_modify, h]
theorem Blk.far (h : Blk w g t cs) {p : Addr} (hp : g ≠ p.block) (u : Value) : Blk (w.setCell p u) g t cs := (Below.heap_setCell w p u g hp).trans h
theorem Blk.below {B : Nat} (h : Blk w g t cs) (hb : Below B w w') (hg : g < B) : Blk w' g t cs := (hb.block g hg).trans h
theorem Blk.grown {row : Option Nat} (h : Blk w g t cs) (hb : w.grownBy w' row) (hg : some g ≠ row) : Blk w' g t cs := (hb.block g h.lt hg).trans h
end

theorem size_list (s : ByteArray) : s.data.toList.length = s.size := by rw [Array.length_toList]; rfl

theorem arr_of {a : Array Value} {l : List Value} (h : a.toList = l) : a = l.toArray := by cases a; simp_all

theorem below_drewN {B : Nat} {a w : World} (h : Below B a w) (n : Nat) : Below B a (w.drewN n) := ⟨h.os, h.tape, h.output, h.size, h.block⟩

/-- What a call that only makes memory leaves, for whoever called: two calls one behind the other. -/
theorem below_step {a b c : World} (h : Below a.heap.size a b) (k : Below b.heap.size b c) : Below a.heap.size a c := h.trans (k.mono h.size)

section
variable {H : Type} {enc : TypeId × Value → H} {P : Program}
theorem post_of_below {f : Func} {s : ChangeSpec} {apart fresh handsOn again : Bool} {W W' : World} {args : Array Value} {v : Value} {ds gs : List (DataW H)} {before pa pv : List MemPlace}
    (hW : DataW.Whole enc P f.params.toList s.vars apart W args.toList ds gs before)
    (hres : ∀ (b : Nat) (sp : Nat → Bool) (hd : Bool), DataW.TrodAll enc P W' b sp hd f.resultTypes.toList (v.resultList f.resultTypes.size) (s.fn H (ds ++ gs)).results [])
    (hargs : ∀ sp : Nat → Bool, (∀ p ∈ before, sp p.block = true) → DataW.TrodAll enc P W' 0 sp true f.params.toList args.toList (s.fn H (ds ++ gs)).args pa)
    (hvars : ∀ sp : Nat → Bool, (∀ p ∈ before, sp p.block = true) → DataW.TrodVars enc P W' sp s.vars (s.fn H (ds ++ gs)).vars pv)
    (hps : before = pa ++ pv) (hb : Below W.heap.size W W')
    (hok : ∀ (j : Nat) (t : TypeId) (r : Value), f.resultTypes[j]? = some t → (v.resultList f.resultTypes.size)[j]? = some r → Value.okWide P W' .any 0 t r) :
    s.post enc P f apart fresh handsOn again W args v W' := by
  have hlt : ∀ p ∈ before, p.block < W.heap.size := fun p hp => hW.lt p hp
  have hold : ∀ p ∈ before, (fun b => decide (b < W.heap.size)) p.block = true := fun p hp => by simpa using hlt p hp
  refine ⟨ds, gs, before, [], pa, pv, hW, hres _ _ _, hargs _ hold, hvars _ hold, World.keptBut_mono (fun p hp => ⟨hp, ?_⟩) (hb.frame (· ∈ before)), fun _ => ?_⟩
  · rw [hps, List.mem_append] at hp
    exact Or.inr hp
  · obtain ⟨_, _, _, _, _, hz, hn⟩ := hW
    refine ⟨hok, _, _, ([] ++ pa) ++ pv, ⟨[] ++ pa, pv, trodAll_append (hargs _ (fun _ _ => rfl)) (hres _ _ _), hvars _ (fun _ _ => rfl), rfl, ?_, ?_⟩, ?_⟩
    · intro b off hp
      have hin : MemPlace.cell b off ∈ before := by rw [hps]; simpa using hp
      rw [hb.frozen (hlt _ hin)]
      exact hz b off hin
    · intro ha
      have := hn ha
      rw [hps] at this
      simpa using this
    · intro p hp _
      rw [hps]
      simpa using hp
end
end Go.Proofs.YtnepogddjinpoaaGreatDoor

namespace Go.Proofs.YtnepogddjinpoaaGreatDoor
open Go.RowKit
set_option linter.unusedVariables false

/-- A value's own parts: kind, number, text, list, keys. -/
structure VN (α : Type) where
  k : Int
  i : Int
  s : List UInt8
  l : List α
  ks : List (List UInt8)
/-- Values up to a depth. -/
def VT : Nat → Type
  | 0 => Empty
  | n + 1 => VN (VT n)
/-- Five cells of a value in a list. -/
structure Five (w : World) (b o : Nat) (k i : Int) (s : ByteArray) (a : Option Addr) (n c : Nat) (a2 : Option Addr) (n2 c2 : Nat) : Prop where
  e0 : w.cell? ⟨b, o, none⟩ = some (.int .i64 k)
  e1 : w.cell? ⟨b, o + 1, none⟩ = some (.int .i64 i)
  e2 : w.cell? ⟨b, o + 2, none⟩ = some (.string s)
  e3 : w.cell? ⟨b, o + 3, none⟩ = some (.slice a n c)
  e4 : w.cell? ⟨b, o + 4, none⟩ = some (.slice a2 n2 c2)
def anyB : World → Nat → Prop := fun _ _ => True
/-- A block from N on, of plain cells. -/
def freshB (N : Nat) : World → Nat → Prop := fun w b => N ≤ b ∧ ∃ cs t, w.heap[b]? = some (.cells cs t)
theorem cellB {w w' : World} {b : Nat} (h : w'.heap[b]? = w.heap[b]?) (o : Nat) : w'.cell? ⟨b, o, none⟩ = w.cell? ⟨b, o, none⟩ := World.cell?_of_block h
/-- What stays where the blocks stay. -/
structure Stays (U U' : World → Nat → Prop) (w w' : World) : Prop where
  size : w.heap.size ≤ w'.heap.size
  block : ∀ b, b < w.heap.size → U w b → w'.heap[b]? = w.heap[b]? ∧ U' w' b
theorem Five.on {w w' : World} {b o : Nat} {k i : Int} {s : ByteArray} {a : Option Addr} {n c : Nat} {a2 : Option Addr} {n2 c2 : Nat} (h : Five w b o k i s a n c a2 n2 c2) (hb : w'.heap[b]? = w.heap[b]?) : Five w' b o k i s a n c a2 n2 c2 :=
  ⟨(cellB hb _).trans h.e0, (cellB hb _).trans h.e1, (cellB hb _).trans h.e2, (cellB hb _).trans h.e3, (cellB hb _).trans h.e4⟩
theorem Stays.of_below {U : World → Nat → Prop} {w w' : World} (hb : Below w.heap.size w w') (hU : ∀ b, b < w.heap.size → U w b → U w' b) : Stays U U w w' :=
  ⟨hb.size, fun b h1 h2 => ⟨hb.block b h1, hU b h1 h2⟩⟩
/-- The same value? -/
def eqV : (n : Nat) → VT n → VT n → Bool
  | 0, _, _ => true
  | n + 1, d, e => decide (VN.k d = VN.k e) && decide (VN.i d = VN.i e) && (VN.s d == VN.s e) && ((VN.l d).length == (VN.l e).length) && (VN.ks d == VN.ks e) && ((VN.l d).zip (VN.l e)).all fun p => eqV n p.1 p.2
end Go.Proofs.YtnepogddjinpoaaGreatDoor

namespace Go.Proofs.YtnepogddjinpoaaGreatDoor
open Go.RowKit
set_option linter.unusedVariables false

/-- Between two worlds nothing turns but what lies in S, and what is new. -/
structure Chg (S : List Nat) (w w' : World) : Prop where
  os : w'.os = w.os
  tape : w'.tape = w.tape
  output : w'.output = w.output
  size : w.heap.size ≤ w'.heap.size
  block : ∀ b, b < w.heap.size → b ∉ S → w'.heap[b]? = w.heap[b]?
theorem Chg.refl (S : List Nat) (w : World) : Chg S w w := ⟨rfl, rfl, rfl, Nat.le_refl _, fun _ _ _ => rfl⟩
theorem Chg.trans {S S' : List Nat} {a b c : World} (h : Chg S a b) (k : Chg S' b c) (hs : ∀ x ∈ S', x ∈ S ∨ a.heap.size ≤ x) : Chg S a c :=
  ⟨k.os.trans h.os, k.tape.trans h.tape, k.output.trans h.output, Nat.le_trans h.size k.size, fun x hx hn => by
    refine (k.block x (Nat.lt_of_lt_of_le hx h.size) fun hm => ?_).trans (h.block x hx hn)
    rcases hs x hm with h1 | h1
    · exact hn h1
    · omega⟩
theorem Chg.mono {S S' : List Nat} {a b : World} (h : Chg S a b) (hs : ∀ x ∈ S, x ∈ S' ∨ a.heap.size ≤ x) : Chg S' a b := (Chg.refl S' a).trans h hs
theorem Chg.of_below {S : List Nat} {a b : World} (h : Below a.heap.size a b) : Chg S a b := ⟨h.os, h.tape, h.output, h.size, fun x hx _ => h.block x hx⟩
theorem Chg.below {S : List Nat} {a b c : World} (h : Chg S a b) (k : Below b.heap.size b c) : Chg S a c := h.trans (S' := []) (Chg.of_below k) (fun x hx => by cases hx)
theorem Chg.alloc {S : List Nat} {a b : World} (h : Chg S a b) (o : Obj) : Chg S a (b.alloc o) := h.below ((Below.refl _ _).alloc (Nat.le_refl _) o)
theorem Chg.drew {S : List Nat} {a b : World} (h : Chg S a b) : Chg S a b.drew := ⟨h.os, h.tape, h.output, h.size, h.block⟩
theorem Chg.drewN {S : List Nat} {a b : World} (h : Chg S a b) (n : Nat) : Chg S a (b.drewN n) := ⟨h.os, h.tape, h.output, h.size, h.block⟩
theorem Chg.set_ {S : List Nat} {a b : World} (h : Chg S a b) (p : Addr) (u : Value) (hp : p.block ∈ S ∨ a.heap.size ≤ p.block) : Chg S a (b.setCell p u) :=
  h.trans (S' := [p.block]) ⟨rfl, rfl, rfl, by simp, fun x hx hn => Below.heap_setCell b p u x (fun e => hn (by simp [e]))⟩ (fun x hx => by simp at hx; subst hx; exact hp)
theorem Chg.grown {S : List Nat} {a b c : World} {row : Option Nat} (h : Chg S a b) (hg : b.grownBy c row) (hr : ∀ k, row = some k → k ∈ S ∨ a.heap.size ≤ k) : Chg S a c :=
  h.trans (S' := row.toList) ⟨hg.os, hg.tape, hg.output, hg.size, fun x hx hn => hg.block x hx (fun e => hn (by rw [← e]; simp))⟩ (fun x hx => hr x (by cases row <;> simp_all))
theorem Chg.to_below {S : List Nat} {B : Nat} {a b : World} (h : Chg S a b) (hB : B ≤ a.heap.size) (hS : ∀ x ∈ S, B ≤ x) : Below B a b :=
  ⟨h.os, h.tape, h.output, h.size, fun k hk => h.block k (by omega) (fun hm => by have := hS k hm; omega)⟩
theorem Chg.bel {a b : World} (h : Chg [] a b) : Below a.heap.size a b := h.to_below (Nat.le_refl _) (fun x hx => by cases hx)
theorem Blk.chg {S : List Nat} {w w' : World} {g : Nat} {t : TypeId} {cs : Array Value} (h : Blk w g t cs) (c : Chg S w w') (hg : g ∉ S) : Blk w' g t cs := (c.block g h.lt hg).trans h
theorem own_chg {S : List Nat} {w w' : World} {base n size : Nat} {e : TypeId} {v : Value} {xs : List Value} (h : w.ownsRow base e size v n xs) (c : Chg S w w') (hg : ∀ k, v.ownBlock = some k → k ∉ S) : w'.ownsRow base e size v n xs := by
  rcases h.2 with h1 | ⟨g, cap, cur, h1, h2, h3, h4⟩
  · exact ⟨h.1, .inl h1⟩
  · have hv : v.ownBlock = some g := by rw [h1]; rfl
    have hlt : g < w.heap.size := (Array.getElem?_eq_some_iff.1 h3).1
    exact ⟨h.1, .inr ⟨g, cap, cur, h1, h2, (c.block g hlt (hg g hv)).trans h3, h4⟩⟩
/-- A call's world by its name. -/
theorem name_world {P : Program} {f : FuncId} {args : Array Value} {w : World} {R : Ending → World → Prop} (h : ∀ W, w = W → Calls P f args W R) : Calls P f args w R := h w rfl
theorem name_it {α : Sort _} {C : α → Prop} {x : α} (h : ∀ y, x = y → C y) : C x := h x rfl
section
variable {w : World} {g : Nat} {t : TypeId} {cs cs' : Array Value}
theorem Blk.set_eq {i : Nat} {u : Value} {l l' : List Value} (h : Blk w g t l.toArray) (e : l.set i u = l') : Blk (w.setCell ⟨g, i, none⟩ u) g t l'.toArray := by
  subst e
  have := h.set_ i u
  rwa [List.setIfInBounds_toArray] at this
theorem Blk.far_ {p : Addr} {u : Value} (h : Blk w g t cs) (hp : g ≠ p.block) : Blk (w.setCell p u) g t cs := h.far hp u
theorem Blk.alloc_ {o : Obj} (h : Blk w g t cs) : Blk (w.alloc o) g t cs := h.alloc o
theorem Blk.new_ (h : w.heap.size = g) : Blk (w.alloc (.cells cs t)) g t cs := by subst h; exact Blk.new w t cs
end
end Go.Proofs.YtnepogddjinpoaaGreatDoor

namespace Go.Proofs.YtnepogddjinpoaaGreatDoor
open Go.RowKit
set_option linter.unusedVariables false

theorem hide {p : Prop} (h : p) : Hid p := h

theorem ret_int {k : IntKind} {a b : Int} (h : a = b) : Ending.returned (.int k a) = .returned (.int k b) := by rw [h]
theorem ret_bool {a b : Bool} (h : a = b) : Ending.returned (.bool a) = .returned (.bool b) := by rw [h]
/-- A digit's octet. -/
def dig (n : Nat) : UInt8 := UInt8.ofNat (48 + n)
theorem dig_toNat (n : Nat) (h : n < 10) : (dig n).toNat = 48 + n := by
  unfold dig; rw [UInt8.toNat_ofNat']; omega

/-- The digits of a number. -/
def decs (u : Nat) : List UInt8 := if h : u < 10 then [dig u] else decs (u / 10) ++ [dig (u % 10)]
  termination_by u
  decreasing_by omega
theorem decs_small (u : Nat) (h : u < 10) : decs u = [dig u] := by rw [decs, dif_pos h]
theorem decs_big (u : Nat) (h : ¬ u < 10) : decs u = decs (u / 10) ++ [dig (u % 10)] := by rw [decs, dif_neg h]
theorem decs_len (k : Nat) : ∀ u, u < 10 ^ (k + 1) → (decs u).length ≤ k + 1 ∧ 1 ≤ (decs u).length := by
  induction k with
  | zero => intro u h; rw [decs_small u (by omega)]; simp
  | succ k ih =>
    intro u h
    by_cases hu : u < 10
    · rw [decs_small u hu]; simp
    · rw [decs_big u hu]
      have := ih (u / 10) (by rw [Nat.pow_succ] at h; omega)
      simp; omega
theorem decs_len20 (u : Nat) (h : u ≤ 18446744073709551615) : (decs u).length ≤ 20 ∧ 1 ≤ (decs u).length := decs_len 19 u (by omega)

/-- What number.Print answers. -/
def pInt (n : Int) : List UInt8 := if n < 0 then 45 :: decs n.natAbs else decs n.natAbs

/-- Octets as cells. -/
def bv (l : List UInt8) : List Value := l.map fun c => Value.int .u8 (c.toNat : Int)
theorem bv_length (l : List UInt8) : (bv l).length = l.length := by simp [bv]
theorem bv_ints (l : List UInt8) : bv l = (l.map fun c => (c.toNat : Int)).map (Value.int .u8) := by simp [bv]
theorem nums_bytes (l : List UInt8) : strOfNums (l.map fun c => (c.toNat : Int)) = ⟨l.toArray⟩ := by
  have h : (strOfNums (l.map fun c => (c.toNat : Int))).data.toList = l := by
    rw [strOfNums_data, List.map_map]
    exact (List.map_congr_left (fun c _ => by simp)).trans (List.map_id l)
  have h2 : (strOfNums (l.map fun c => (c.toNat : Int))).data = l.toArray := by apply Array.toList_inj.1; rw [h]
  show ByteArray.mk _ = _
  exact congrArg ByteArray.mk h2

/-- The octets that a slice holds, as a string. -/
theorem conv_str {P : Program} {w : World} {B : Nat} {A : Option Addr} {n c : Nat} {l : List UInt8} (src dst e : TypeId)
    (hs : P.underlying src = some (.slice e)) (he : P.underlying e = some (.int .u8)) (hd : P.underlying dst = some .string)
    (h : Reads w B 1 A n (bv l)) : (convert src dst (.slice A n c)).run P w = .ok (.string ⟨l.toArray⟩) w := by
  rw [run_convert_bytes_string w src dst e A n c hs he hd]
  have hl : l.length = n := by have := h.1; rw [bv_length] at this; omega
  rcases A with _ | ad
  · have hn : n = 0 := by
      rcases Nat.eq_zero_or_pos n with h0 | h0
      · exact h0
      · obtain ⟨ad, hh, _⟩ := h.2 h0; cases hh
    clear h
    obtain rfl : l = [] := List.eq_nil_of_length_eq_zero (by omega)
    simp [Conv.bytesToString]
    rfl
  · have hl' : (loadCells ad n).run P w = .ok ((l.map fun c => (c.toNat : Int)).map (Value.int .u8)).toArray w := by
      have := run_loadCells_list (P := P) w ad (bv l) (fun j v hj => by
        rcases Nat.eq_zero_or_pos n with h0 | h0
        · subst h0
          obtain rfl : l = [] := List.eq_nil_of_length_eq_zero hl
          simp [bv] at hj
        · obtain ⟨ad', hh, _, hc⟩ := h.2 h0
          injection hh with hh
          subst hh
          exact hc j v hj)
      rw [bv_length, hl, bv_ints] at this
      exact this
    rw [run_bytesToString w ad n c _ hl', foldl_push_bytes, ← nums_bytes l]
    simp [strOfNums, ByteArray.empty, ByteArray.emptyWithCapacity]
    rfl
end Go.Proofs.YtnepogddjinpoaaGreatDoor

namespace Go.Proofs.YtnepogddjinpoaaGreatDoor
open Go.RowKit
set_option linter.unusedVariables false

/-- The blocks of a row's elements: from base on, and not the row's own. -/
def besideB (base : Nat) (o : Option Nat) : World → Nat → Prop := fun w b => freshB base w b ∧ some b ≠ o
theorem stays_beside {base : Nat} {o : Option Nat} {w w' : World} (hs : w.heap.size ≤ w'.heap.size) (h : ∀ b, b < w.heap.size → base ≤ b → some b ≠ o → w'.heap[b]? = w.heap[b]?) : Stays (besideB base o) (besideB base o) w w' :=
  ⟨hs, fun b h1 ⟨⟨h2, cs, t, h3⟩, h4⟩ => ⟨h b h1 h2 h4, ⟨h2, cs, t, (h b h1 h2 h4).trans h3⟩, h4⟩⟩
theorem own_sliceV {w : World} {base n size : Nat} {e : TypeId} {v : Value} {xs : List Value} (h : w.ownsRow base e size v n xs) : ∃ A c, v = .slice A n c := by
  rcases h.2 with ⟨rfl, rfl⟩ | ⟨g, cap, cur, rfl, _⟩
  · exact ⟨_, _, rfl⟩
  · exact ⟨_, _, rfl⟩
theorem zaddV (g j : Nat) : (⟨g, 0, none⟩ : Addr).add j = ⟨g, j, none⟩ := by unfold Addr.add; split <;> simp_all
end Go.Proofs.YtnepogddjinpoaaGreatDoor

namespace Go.Proofs.YtnepogddjinpoaaGreatDoor
open Go.RowKit
set_option linter.unusedVariables false

/-- What R says of an element's cells, in a world, its parts in blocks that U lets by. -/
abbrev Rel (α : Type) := (World → Nat → Prop) → World → List Value → α → Prop
/-- Elements of 'size' cells, one behind the other. -/
def AtR {α : Type} (R : Rel α) (size : Nat) (U : World → Nat → Prop) (w : World) (a : Option Addr) (l : List α) : Prop :=
  ∀ j x, l[j]? = some x → ∃ b off vs, a = some ⟨b, off, none⟩ ∧ b < w.heap.size ∧ U w b ∧ vs.length = size ∧ (∀ t u, vs[t]? = some u → w.cell? ⟨b, off + j * size + t, none⟩ = some u) ∧ R U w vs x
/-- What R says stays where the blocks stay. -/
def Steady {α : Type} (R : Rel α) : Prop := ∀ (U U' : World → Nat → Prop) (w w' : World), Stays U U' w w' → ∀ vs x, R U w vs x → R U' w' vs x
theorem AtR.on {α : Type} {R : Rel α} (hR : Steady R) {size : Nat} {U U' : World → Nat → Prop} {w w' : World} {a : Option Addr} {l : List α} (h : AtR R size U w a l) (hs : Stays U U' w w') : AtR R size U' w' a l := by
  intro j x hx
  obtain ⟨b, off, vs, ha, hb, hu, hl, hc, hr⟩ := h j x hx
  obtain ⟨h1, h2⟩ := hs.block b hb hu
  exact ⟨b, off, vs, ha, Nat.lt_of_lt_of_le hb hs.size, h2, hl, fun t u ht => (cellB h1 _).trans (hc t u ht), hR U U' w w' hs vs x hr⟩
theorem AtR.nil {α : Type} {R : Rel α} {size : Nat} {U : World → Nat → Prop} {w : World} {a : Option Addr} : AtR R size U w a [] := fun j x h => by simp at h
theorem stays_weaken {U U' : World → Nat → Prop} {w : World} (h : ∀ b, b < w.heap.size → U w b → U' w b) : Stays U U' w w := ⟨Nat.le_refl _, fun b h1 h2 => ⟨rfl, h b h1 h2⟩⟩
/-- Texts, as elements. -/
def StrR : Rel (List UInt8) := fun _ _ vs x => vs = [.string ⟨x.toArray⟩]
theorem StrR.steady : Steady StrR := fun _ _ _ _ _ _ _ h => h
/-- A row of elements that a function builds: what is its own, and what each element is (its parts lie beside the row). -/
structure RowR {α : Type} (R : Rel α) (size base : Nat) (e : TypeId) (w : World) (v : Value) (es : List (List Value)) (xs : List α) : Prop where
  own : w.ownsRow base e size v es.length es.flatten
  sized : ∀ c ∈ es, c.length = size
  len : es.length = xs.length
  each : ∀ (r : Nat) (c : List Value) (x : α), es[r]? = some c → xs[r]? = some x → R (besideB base v.ownBlock) w c x
theorem flat_len {size : Nat} : ∀ {es : List (List Value)}, (∀ c ∈ es, c.length = size) → es.flatten.length = es.length * size := by
  intro es
  induction es with
  | nil => intro _; simp
  | cons c es ih =>
    intro h
    rw [List.flatten_cons, List.length_append, ih (fun c hc => h c (by simp [hc])), h c (by simp), List.length_cons, Nat.add_mul]; omega
theorem flat_get {size : Nat} : ∀ {es : List (List Value)}, (∀ c ∈ es, c.length = size) → ∀ (r : Nat) (c : List Value) (t : Nat), es[r]? = some c → t < size → es.flatten[r * size + t]? = c[t]? := by
  intro es
  induction es with
  | nil => intro _ r c t h; simp at h
  | cons x es ih =>
    intro hs r c t h ht
    have hx : x.length = size := hs x (by simp)
    rw [List.flatten_cons]
    cases r with
    | zero =>
      simp at h; subst h
      rw [List.getElem?_append_left (by omega)]
      simp
    | succ r =>
      rw [List.getElem?_append_right (by rw [hx, Nat.add_mul]; omega), hx]
      rw [show (r + 1) * size + t - size = r * size + t by rw [Nat.add_mul]; omega]
      exact ih (fun c hc => hs c (by simp [hc])) r c t (by simpa using h) ht
theorem RowR.nil {α : Type} (R : Rel α) (size base : Nat) (e : TypeId) (w : World) : RowR R size base e w (.slice none 0 0) [] [] := ⟨World.ownsRow_nil _ _ _ _, fun c h => by simp at h, rfl, fun r c x h => by simp at h⟩
theorem RowR.made {α : Type} {R : Rel α} {size base : Nat} {e : TypeId} {w : World} {v : Value} (h : w.ownsRow base e size v 0 []) : RowR R size base e w v [] [] := ⟨h, fun c h => by simp at h, rfl, fun r c x h => by simp at h⟩
theorem RowR.stays {α : Type} {R : Rel α} (hR : Steady R) {size base : Nat} {e : TypeId} {w w' : World} {v : Value} {es : List (List Value)} {xs : List α} (h : RowR R size base e w v es xs) (hown : w'.ownsRow base e size v es.length es.flatten) (hs : Stays (besideB base v.ownBlock) (besideB base v.ownBlock) w w') : RowR R size base e w' v es xs :=
  ⟨hown, h.sized, h.len, fun r c x hc hx => hR _ _ w w' hs _ _ (h.each r c x hc hx)⟩
theorem RowR.chg {α : Type} {R : Rel α} (hR : Steady R) {size base : Nat} {e : TypeId} {w w' : World} {v : Value} {es : List (List Value)} {xs : List α} (h : RowR R size base e w v es xs) {S : List Nat} (c : Chg S w w') (hS : ∀ x ∈ S, x < base) : RowR R size base e w' v es xs :=
  h.stays hR (own_chg h.own c fun k hk hm => by have := (h.own.lt k hk).1; have := hS k hm; omega) (stays_beside c.size fun b h1 h2 _ => c.block b h1 fun hm => by have := hS b hm; omega)
theorem RowR.below {α : Type} {R : Rel α} (hR : Steady R) {size base : Nat} {e : TypeId} {w w' : World} {v : Value} {es : List (List Value)} {xs : List α} (h : RowR R size base e w v es xs) (hb : Below w.heap.size w w') : RowR R size base e w' v es xs := h.chg hR (S := []) (Chg.of_below hb) (fun x hx => by cases hx)
theorem RowR.slice {α : Type} {R : Rel α} {size base : Nat} {e : TypeId} {w : World} {v : Value} {es : List (List Value)} {xs : List α} (h : RowR R size base e w v es xs) : ∃ A c, v = .slice A xs.length c := by
  rcases h.own.2 with ⟨rfl, h1⟩ | ⟨g, cap, cur, rfl, _⟩
  · exact ⟨none, 0, by rw [← h.len, h1]⟩
  · exact ⟨_, _, by rw [← h.len]⟩
/-- Elements more: made from world w on (their blocks begin at M), laid, and appended. -/
theorem RowR.append {α : Type} {R : Rel α} (hR : Steady R) {size base M g cap : Nat} {e : TypeId} {w wA w4 : World} {v : Value} {es fs : List (List Value)} {xs ys : List α} (h : RowR R size base e w v es xs) (hfs : ∀ c ∈ fs, c.length = size) (hfl : fs.length = ys.length) (hV : ∀ (r : Nat) (c : List Value) (y : α), fs[r]? = some c → ys[r]? = some y → R (freshB M) w c y)
    (hM : ∀ k, v.ownBlock = some k → k < M) (hbM : base ≤ M) (hA : Below w.heap.size w wA) (hg : wA.grownBy w4 v.ownBlock)
    (hown : w4.ownsRow base e size (.slice (some ⟨g, 0, none⟩) (es.length + fs.length) cap) (es.length + fs.length) (es.flatten ++ fs.flatten)) (hat : v.ownBlock = some g ∨ g = wA.heap.size) :
    RowR R size base e w4 (.slice (some ⟨g, 0, none⟩) (es.length + fs.length) cap) (es ++ fs) (xs ++ ys) := by
  have hsz : w.heap.size ≤ w4.heap.size := Nat.le_trans hA.size hg.size
  have hkeep : ∀ b, b < w.heap.size → some b ≠ v.ownBlock → w4.heap[b]? = w.heap[b]? := fun b h1 h2 => (hg.block b (Nat.lt_of_lt_of_le h1 hA.size) h2).trans (hA.block b h1)
  have hne : ∀ b, b < w.heap.size → some b ≠ v.ownBlock → some b ≠ some g := by
    intro b h1 h2 e
    injection e with e
    subst e
    rcases hat with h3 | h3
    · exact h2 h3.symm
    · have := hA.size; omega
  refine ⟨by rw [List.length_append, List.flatten_append]; exact hown, ?_, by simp [h.len, hfl], ?_⟩
  · intro c hc
    rcases List.mem_append.1 hc with hc | hc
    · exact h.sized c hc
    · exact hfs c hc
  intro r c x' he hx
  show R (besideB base (some g)) w4 c x'
  rcases Nat.lt_or_ge r es.length with hr | hr
  · rw [List.getElem?_append_left hr] at he
    rw [List.getElem?_append_left (by rw [← h.len]; exact hr)] at hx
    refine hR (besideB base v.ownBlock) _ w w4 ⟨hsz, ?_⟩ _ _ (h.each r c x' he hx)
    rintro b h1 ⟨⟨h2, cs, t, h3⟩, h4⟩
    exact ⟨hkeep b h1 h4, ⟨h2, cs, t, (hkeep b h1 h4).trans h3⟩, hne b h1 h4⟩
  · rw [List.getElem?_append_right (by omega)] at he
    rw [List.getElem?_append_right (by rw [← h.len]; omega), ← h.len] at hx
    refine hR (freshB M) _ w w4 ⟨hsz, ?_⟩ _ _ (hV _ c x' he hx)
    rintro b h1 ⟨h2, cs, t, h3⟩
    have h4 : some b ≠ v.ownBlock := by
      intro e
      have := hM b e.symm
      omega
    exact ⟨hkeep b h1 h4, ⟨Nat.le_trans hbM h2, cs, t, (hkeep b h1 h4).trans h3⟩, hne b h1 h4⟩
theorem RowR.snoc {α : Type} {R : Rel α} (hR : Steady R) {size base M g cap : Nat} {e : TypeId} {w wA w4 : World} {v : Value} {es : List (List Value)} {c : List Value} {xs : List α} {y : α} (h : RowR R size base e w v es xs) (hc : c.length = size) (hV : R (freshB M) w c y)
    (hM : ∀ k, v.ownBlock = some k → k < M) (hbM : base ≤ M) (hA : Below w.heap.size w wA) (hg : wA.grownBy w4 v.ownBlock)
    (hown : w4.ownsRow base e size (.slice (some ⟨g, 0, none⟩) (es.length + 1) cap) (es.length + 1) (es.flatten ++ c)) (hat : v.ownBlock = some g ∨ g = wA.heap.size) :
    RowR R size base e w4 (.slice (some ⟨g, 0, none⟩) (es.length + 1) cap) (es ++ [c]) (xs ++ [y]) := by
  refine h.append hR (fs := [c]) (ys := [y]) (M := M) (by intro d hd; simp at hd; subst hd; exact hc) rfl ?_ hM hbM hA hg (by simpa using hown) hat
  intro r d z hd hz
  match r, hd, hz with
  | 0, hd, hz => simp at hd hz; subst hd; subst hz; exact hV
/-- The row as a whole: elements that lie one behind the other. -/
theorem RowR.at_ {α : Type} {R : Rel α} (hR : Steady R) {size base N : Nat} {e : TypeId} {w : World} {v : Value} {es : List (List Value)} {xs : List α} {A : Option Addr} {m c : Nat} (h : RowR R size base e w v es xs) (hv : v = .slice A m c) (hN : N ≤ base) : AtR R size (freshB N) w A xs := by
  intro r x hx
  have hr := (List.getElem?_eq_some_iff.1 hx).1
  obtain ⟨vs, he⟩ : ∃ vs, es[r]? = some vs := ⟨_, List.getElem?_eq_getElem (by rw [h.len]; exact hr)⟩
  obtain ⟨g, cap, cur, hv2, hbg, hg⟩ : ∃ g cap cur, v = .slice (some ⟨g, 0, none⟩) es.length cap ∧ base ≤ g ∧ w.heap[g]? = some (.cells cur e (0, 0)) := by
    rcases h.own.2 with ⟨_, h1⟩ | ⟨g, cap, cur, hv2, hb, hg, _⟩
    · rw [h.len] at h1; omega
    · exact ⟨g, cap, cur, hv2, hb, hg⟩
  rw [hv] at hv2
  injection hv2 with hA _ _
  have hlt : g < w.heap.size := (Array.getElem?_eq_some_iff.1 hg).1
  have hvl : vs.length = size := h.sized vs (List.mem_of_getElem? he)
  refine ⟨g, 0, vs, hA, hlt, ⟨by omega, cur, _, hg⟩, hvl, fun t u hu => ?_, ?_⟩
  · have ht : t < size := by have := (List.getElem?_eq_some_iff.1 hu).1; omega
    have := h.own.cells (g := g) (by rw [hv, hA]; rfl) (r * size + t) u ((flat_get h.sized r vs t he ht).trans hu)
    rw [zaddV] at this
    rw [Nat.zero_add]; exact this
  · refine hR (besideB base v.ownBlock) _ w w (stays_weaken ?_) _ _ (h.each r vs x he hx)
    rintro b h1 ⟨⟨h2, h3⟩, h4⟩
    exact ⟨Nat.le_trans hN h2, h3⟩
/-- An element's cells, read. -/
theorem RowR.cell {α : Type} {R : Rel α} {size base : Nat} {e : TypeId} {w : World} {g m cap : Nat} {es : List (List Value)} {xs : List α} (h : RowR R size base e w (.slice (some ⟨g, 0, none⟩) m cap) es xs) {r : Nat} {c : List Value} (hc : es[r]? = some c) {t : Nat} {u : Value} (ht : c[t]? = some u) : w.cell? ⟨g, r * size + t, none⟩ = some u := by
  have hcl := h.sized c (List.mem_of_getElem? hc)
  have hlt : t < size := by have := (List.getElem?_eq_some_iff.1 ht).1; omega
  have := h.own.cells (g := g) rfl (r * size + t) u ((flat_get h.sized r c t hc hlt).trans ht)
  rw [zaddV] at this
  exact this
theorem RowR.frozen {α : Type} {R : Rel α} {size base : Nat} {e : TypeId} {w : World} {g m cap : Nat} {es : List (List Value)} {xs : List α} (h : RowR R size base e w (.slice (some ⟨g, 0, none⟩) m cap) es xs) (j : Nat) : w.frozen? ⟨g, j, none⟩ = false := by
  rcases h.own.2 with ⟨h1, _⟩ | ⟨g', cap', cur, hv, hb, hg, _⟩
  · cases h1
  · injection hv with hA _ _
    injection hA with hA
    injection hA with hA _
    subst hA
    simp [World.frozen?, hg]
theorem flat_set {size : Nat} : ∀ {es : List (List Value)}, (∀ c ∈ es, c.length = size) → ∀ (r : Nat) (c : List Value) (t : Nat) (u : Value), es[r]? = some c → t < size → es.flatten.set (r * size + t) u = (es.set r (c.set t u)).flatten := by
  intro es
  induction es with
  | nil => intro _ r c t u h; simp at h
  | cons x es ih =>
    intro hs r c t u h ht
    have hx : x.length = size := hs x (by simp)
    cases r with
    | zero =>
      simp at h; subst h
      rw [List.flatten_cons, List.set_cons_zero, List.flatten_cons, List.set_append_left _ _ (by omega)]
      simp
    | succ r =>
      rw [List.flatten_cons, List.set_cons_succ, List.flatten_cons, List.set_append_right _ _ (by rw [hx, Nat.add_mul]; omega), hx]
      rw [show (r + 1) * size + t - size = r * size + t by rw [Nat.add_mul]; omega]
      rw [ih (fun c hc => hs c (by simp [hc])) r c t u (by simpa using h) ht]
/-- A store into an element's cell: what the element is behind it is for the caller to say. -/
theorem RowR.put {α : Type} {R : Rel α} (hR : Steady R) {size base : Nat} {e : TypeId} {w : World} {g n cap : Nat} {es : List (List Value)} {xs : List α} (h : RowR R size base e w (.slice (some ⟨g, 0, none⟩) n cap) es xs) {r : Nat} {c : List Value} {x y : α} (hc : es[r]? = some c) (hx : xs[r]? = some x) {t : Nat} (ht : t < size) (u : Value)
    (hy : R (besideB base (some g)) w (c.set t u) y) : RowR R size base e (w.setCell ⟨g, r * size + t, none⟩ u) (.slice (some ⟨g, 0, none⟩) n cap) (es.set r (c.set t u)) (xs.set r y) := by
  have hcl := h.sized c (List.mem_of_getElem? hc)
  have hs : Stays (besideB base (some g)) (besideB base (some g)) w (w.setCell ⟨g, r * size + t, none⟩ u) := by
    refine stays_beside (by simp) fun b h1 _ h3 => Below.heap_setCell w _ u b ?_
    intro e; subst e; exact h3 rfl
  have hn : n = es.length := by
    rcases h.own.2 with ⟨h1, _⟩ | ⟨g', cap', cur, hv, _⟩
    · cases h1
    · injection hv
  subst hn
  refine ⟨?_, ?_, by simp [h.len], ?_⟩
  · have := h.own.stored (r * size + t) u
    rw [flat_set h.sized r c t u hc ht] at this
    rw [List.length_set]; exact this.1
  · intro d hd
    rcases List.mem_or_eq_of_mem_set hd with hd | hd
    · exact h.sized d hd
    · subst hd; rw [List.length_set]; exact hcl
  · intro k d z hd hz
    have hlt : r < es.length := (List.getElem?_eq_some_iff.1 hc).1
    rw [List.getElem?_set] at hd hz
    by_cases hk : r = k
    · subst hk
      have hlx : r < xs.length := (List.getElem?_eq_some_iff.1 hx).1
      simp [hlt] at hd
      simp [hlx] at hz
      subst hd; subst hz
      exact hR _ _ w _ hs _ _ hy
    · simp [hk] at hd hz
      exact hR _ _ w _ hs _ _ (h.each k d z hd hz)
end Go.Proofs.YtnepogddjinpoaaGreatDoor

namespace Go.Proofs.YtnepogddjinpoaaGreatDoor
set_option linter.unusedVariables false

def smallB (c : UInt8) : UInt8 := if 65 ≤ c.toNat ∧ c.toNat ≤ 90 then c + 32 else c
def greatB (c : UInt8) : UInt8 := if 97 ≤ c.toNat ∧ c.toNat ≤ 122 then c - 32 else c
theorem smallB_yes (c : UInt8) (h : 65 ≤ c.toNat ∧ c.toNat ≤ 90) : (smallB c).toNat = c.toNat + 32 := by
  unfold smallB; rw [if_pos h, UInt8.toNat_add]; have : (32 : UInt8).toNat = 32 := rfl; omega
theorem smallB_no (c : UInt8) (h : ¬ (65 ≤ c.toNat ∧ c.toNat ≤ 90)) : smallB c = c := by unfold smallB; rw [if_neg h]
theorem greatB_yes (c : UInt8) (h : 97 ≤ c.toNat ∧ c.toNat ≤ 122) : (greatB c).toNat = c.toNat - 32 := by
  unfold greatB; rw [if_pos h, UInt8.toNat_sub_of_le]; rfl
  rw [UInt8.le_iff_toNat_le]; have : (32 : UInt8).toNat = 32 := rfl; omega
theorem greatB_no (c : UInt8) (h : ¬ (97 ≤ c.toNat ∧ c.toNat ≤ 122)) : greatB c = c := by unfold greatB; rw [if_neg h]
/-- A fact on all octets, asked of each. -/
theorem allBytes (p : UInt8 → Bool) (h : ∀ n : Fin 256, p (UInt8.ofNat n.val) = true) (c : UInt8) : p c = true := by
  have := h ⟨c.toNat, c.toNat_lt⟩
  simpa using this
def isBlank (c : UInt8) : Bool := c == 32 || c == 9 || c == 10 || c == 12 || c == 13
def isLetter (c : UInt8) : Bool := decide (97 ≤ c.toNat ∧ c.toNat ≤ 122) || decide (65 ≤ c.toNat ∧ c.toNat ≤ 90)
theorem letter_or (c : UInt8) : isLetter c = (decide (97 ≤ (c ||| 32).toNat) && decide ((c ||| 32).toNat ≤ 122)) := by
  have := allBytes (fun c => isLetter c == (decide (97 ≤ (c ||| 32).toNat) && decide ((c ||| 32).toNat ≤ 122))) (by decide +kernel) c
  simpa using this
end Go.Proofs.YtnepogddjinpoaaGreatDoor

namespace Go.Proofs.YtnepogddjinpoaaGreatDoor
set_option linter.unusedVariables false

def isDig (c : UInt8) : Bool := decide (48 ≤ c.toNat) && decide (c.toNat ≤ 57)
end Go.Proofs.YtnepogddjinpoaaGreatDoor

namespace Go.Proofs.YtnepogddjinpoaaGreatDoor
set_option linter.unusedVariables false

/-- What no name holds. -/
def notName (c : UInt8) : Bool := !isLetter c && !(c.toNat == 95) && !isDig c
/-- Is it a name? -/
def isName (l : List UInt8) : Bool := match l with
  | [] => false
  | c :: r => decide (r.length < 32) && !isDig c && !(c :: r).any notName
theorem isName_cons (c : UInt8) (r : List UInt8) : isName (c :: r) = (decide (r.length < 32) && !isDig c && !(c :: r).any notName) := rfl
end Go.Proofs.YtnepogddjinpoaaGreatDoor

namespace Go.Proofs.YtnepogddjinpoaaGreatDoor
open Go.RowKit
set_option linter.unusedVariables false
set_option linter.unusedSimpArgs false

/-- Is a key, by its place, a name above the one ahead? -/
def upAt (ks : List (List UInt8)) (j : Nat) : Bool :=
  match ks[j]? with
  | none => true
  | some k => isName k && (j == 0 || match ks[j - 1]? with | none => true | some p => Op.bytesLess p k)
def risingK (ks : List (List UInt8)) : Bool := (List.range ks.length).all (upAt ks)
theorem mkSize (l : List UInt8) : (⟨l.toArray⟩ : ByteArray).size = l.length := by simp [ByteArray.size]
/-- What is wrong with a value's own parts. -/
def headErr (deep : Nat) (k i : Int) (sl nl kl : Nat) (up : Bool) : Int :=
  if (k = 5 ∨ k = 6) ∧ deep = 16 then 42
  else if 4096 < sl then 5
  else if 1024 < nl ∨ 1024 < kl then 3
  else if k < 0 ∨ 11 < k ∨ (k ≠ 3 ∧ i ≠ 0) ∨ (k ≠ 4 ∧ k < 7 ∧ sl ≠ 0) ∨ (k ≠ 5 ∧ k ≠ 6 ∧ nl ≠ 0) ∨ (k ≠ 6 ∧ kl ≠ 0) then 9
  else if k = 6 ∧ (kl ≠ nl ∨ up = false) then 9
  else 0
def firstE : List Int → Int
  | [] => 0
  | x :: r => if x = 0 then firstE r else x
def checkV : (n : Nat) → Nat → VT n → Int
  | 0, _, _ => 0
  | n + 1, deep, d =>
    if headErr deep (VN.k d) (VN.i d) (VN.s d).length (VN.l d).length (VN.ks d).length (risingK (VN.ks d)) = 0 then firstE ((VN.l d).map (checkV n (deep + 1)))
    else headErr deep (VN.k d) (VN.i d) (VN.s d).length (VN.l d).length (VN.ks d).length (risingK (VN.ks d))
theorem checkV_mk {n : Nat} (deep : Nat) (k i : Int) (s : List UInt8) (l : List (VT n)) (ks : List (List UInt8)) :
    checkV (n + 1) deep (⟨k, i, s, l, ks⟩ : VN (VT n)) = if headErr deep k i s.length l.length ks.length (risingK ks) = 0 then firstE (l.map (checkV n (deep + 1))) else headErr deep k i s.length l.length ks.length (risingK ks) := rfl
def sumBy {α : Type} (f : α → Nat) : List α → Nat
  | [] => 0
  | x :: l => f x + sumBy f l
theorem sumBy_mem {α : Type} (f : α → Nat) : ∀ (l : List α) (x : α), x ∈ l → f x ≤ sumBy f l := by
  intro l
  induction l with
  | nil => intro x h; cases h
  | cons y l ih =>
    intro x h
    simp only [sumBy]
    rcases List.mem_cons.1 h with rfl | h
    · omega
    · have := ih x h; omega
theorem sumBy_append {α : Type} (f : α → Nat) : ∀ (l r : List α), sumBy f (l ++ r) = sumBy f l + sumBy f r := by
  intro l
  induction l with
  | nil => intro r; simp [sumBy]
  | cons y l ih => intro r; simp only [List.cons_append, sumBy, ih]; omega
theorem sumBy_len {α : Type} (f : α → Nat) (h : ∀ x, 1 ≤ f x) : ∀ l : List α, l.length ≤ sumBy f l := by
  intro l
  induction l with
  | nil => simp [sumBy]
  | cons y l ih => have := h y; simp only [sumBy, List.length_cons]; omega
theorem sumBy_le {α : Type} {f g : α → Nat} : ∀ l : List α, (∀ x ∈ l, f x ≤ g x) → sumBy f l ≤ sumBy g l := by
  intro l
  induction l with
  | nil => intro _; simp [sumBy]
  | cons y l ih =>
    intro h
    have h1 := h y (List.mem_cons_self ..)
    have h2 := ih fun x hx => h x (List.mem_cons_of_mem _ hx)
    simp only [sumBy]; omega
theorem sumBy_map {α β : Type} (f : β → Nat) (g : α → β) : ∀ l : List α, sumBy f (l.map g) = sumBy (fun x => f (g x)) l := by
  intro l
  induction l with
  | nil => rfl
  | cons y l ih => simp only [List.map_cons, sumBy, ih]
theorem sumBy_take_drop {α : Type} (f : α → Nat) (l : List α) (i : Nat) : sumBy f (l.take i) + sumBy f (l.drop i) = sumBy f l := by
  rw [← sumBy_append, List.take_append_drop]
/-- How much a value holds. -/
def massV : (n : Nat) → VT n → Nat
  | 0, _ => 1
  | n + 1, d => 1 + (VN.s d).length + sumBy (fun k => k.length + 1) (VN.ks d) + sumBy (massV n) (VN.l d)
theorem massV_pos : ∀ n (d : VT n), 1 ≤ massV n d := by
  intro n d
  cases n with
  | zero => exact Nat.le_refl _
  | succ n => show 1 ≤ 1 + _ + _ + _; omega
theorem massV_succ {n : Nat} (d : VN (VT n)) : massV (n + 1) d = 1 + d.s.length + sumBy (fun k => k.length + 1) d.ks + sumBy (massV n) d.l := rfl
/-- All numbers in a value are numbers. -/
def NumV : (n : Nat) → VT n → Prop
  | 0, _ => True
  | n + 1, d => (-9223372036854775808 ≤ VN.i d ∧ VN.i d ≤ 9223372036854775807) ∧ ∀ x ∈ VN.l d, NumV n x
/-- Two lists, one by one. -/
theorem sumBy_zip {α β : Type} (f : α → Nat) (g : β → Nat) : ∀ (l : List α) (r : List β), l.length = r.length → (∀ (j : Nat) (x : α) (y : β), l[j]? = some x → r[j]? = some y → f x ≤ g y) → sumBy f l ≤ sumBy g r := by
  intro l
  induction l with
  | nil => intro r h _; simp [sumBy]
  | cons x l ih =>
    intro r h hj
    cases r with
    | nil => simp at h
    | cons y r =>
      have h1 := hj 0 x y rfl rfl
      have h2 := ih r (by simpa using h) fun j a b ha hb => hj (j + 1) a b (by simpa using ha) (by simpa using hb)
      simp only [sumBy]; omega
end Go.Proofs.YtnepogddjinpoaaGreatDoor

namespace Go.Proofs.YtnepogddjinpoaaGreatDoor
open Go.RowKit
set_option linter.unusedVariables false

/-- An argument: kind, name, path, number, text. -/
structure ArgD where
  k : Int
  nm : List UInt8
  path : List (List UInt8)
  i : Int
  s : List UInt8
/-- A call: name, arguments. -/
structure CallD where
  nm : List UInt8
  args : List ArgD
/-- A node's own parts. -/
structure NN (α : Type) where
  k : Int
  s : List UInt8
  nm : List UInt8
  pipe : List CallD
  body : List α
  els : List α
  pos : Int
  esc : Int
  unit : Int
def NT : Nat → Type
  | 0 => Empty
  | n + 1 => NN (NT n)
abbrev argCells (k : Int) (nm : ByteArray) (a : Option Addr) (n c : Nat) (i : Int) (s : ByteArray) : List Value := [.int .i64 k, .string nm, .slice a n c, .int .i64 i, .string s]
abbrev callCells (nm : ByteArray) (a : Option Addr) (n c : Nat) : List Value := [.string nm, .slice a n c]
abbrev nodeCells (k : Int) (s nm : ByteArray) (a1 : Option Addr) (n1 c1 : Nat) (a2 : Option Addr) (n2 c2 : Nat) (a3 : Option Addr) (n3 c3 : Nat) (pos esc unit : Int) : List Value :=
  [.int .i64 k, .string s, .string nm, .slice a1 n1 c1, .slice a2 n2 c2, .slice a3 n3 c3, .int .i64 pos, .int .i64 esc, .int .i64 unit]
def ArgR : Rel ArgD := fun U w vs x => ∃ a c, vs = argCells x.k ⟨x.nm.toArray⟩ a x.path.length c x.i ⟨x.s.toArray⟩ ∧ AtR StrR 1 U w a x.path
def CallR : Rel CallD := fun U w vs x => ∃ a c, vs = callCells ⟨x.nm.toArray⟩ a x.args.length c ∧ AtR ArgR 5 U w a x.args
def NodeR : (n : Nat) → Rel (NT n)
  | 0 => fun _ _ _ _ => False
  | n + 1 => fun U w vs x => ∃ a1 c1 a2 c2 a3 c3, vs = nodeCells (NN.k x) ⟨(NN.s x).toArray⟩ ⟨(NN.nm x).toArray⟩ a1 (NN.pipe x).length c1 a2 (NN.body x).length c2 a3 (NN.els x).length c3 (NN.pos x) (NN.esc x) (NN.unit x) ∧ AtR CallR 2 U w a1 (NN.pipe x) ∧ AtR (NodeR n) 9 U w a2 (NN.body x) ∧ AtR (NodeR n) 9 U w a3 (NN.els x)
theorem ArgR.steady : Steady ArgR := fun _ _ _ _ hs vs x ⟨a, c, h1, h2⟩ => ⟨a, c, h1, h2.on StrR.steady hs⟩
theorem CallR.steady : Steady CallR := fun _ _ _ _ hs vs x ⟨a, c, h1, h2⟩ => ⟨a, c, h1, h2.on ArgR.steady hs⟩
theorem NodeR.steady : ∀ n, Steady (NodeR n) := by
  intro n
  induction n with
  | zero => intro _ _ _ _ _ vs x h; exact h.elim
  | succ n ih =>
    intro U U' w w' hs vs x h
    obtain ⟨a1, c1, a2, c2, a3, c3, h1, h2, h3, h4⟩ := h
    exact ⟨a1, c1, a2, c2, a3, c3, h1, h2.on CallR.steady hs, h3.on ih hs, h4.on ih hs⟩
theorem NodeR.parts {n : Nat} {U : World → Nat → Prop} {w : World} {vs : List Value} {x : NN (NT n)} (h : NodeR (n + 1) U w vs x) : ∃ a1 c1 a2 c2 a3 c3, vs = nodeCells x.k ⟨x.s.toArray⟩ ⟨x.nm.toArray⟩ a1 x.pipe.length c1 a2 x.body.length c2 a3 x.els.length c3 x.pos x.esc x.unit ∧ AtR CallR 2 U w a1 x.pipe ∧ AtR (NodeR n) 9 U w a2 x.body ∧ AtR (NodeR n) 9 U w a3 x.els := h
theorem NodeR.made {n : Nat} {U : World → Nat → Prop} {w : World} {x : NN (NT n)} {a1 a2 a3 : Option Addr} {c1 c2 c3 : Nat} (h1 : AtR CallR 2 U w a1 x.pipe) (h2 : AtR (NodeR n) 9 U w a2 x.body) (h3 : AtR (NodeR n) 9 U w a3 x.els) : NodeR (n + 1) U w (nodeCells x.k ⟨x.s.toArray⟩ ⟨x.nm.toArray⟩ a1 x.pipe.length c1 a2 x.body.length c2 a3 x.els.length c3 x.pos x.esc x.unit) x := ⟨a1, c1, a2, c2, a3, c3, rfl, h1, h2, h3⟩
/-- Nodes as elements, whatever the depth: their nine cells. -/
theorem NodeR.shape {n : Nat} {U : World → Nat → Prop} {w : World} {vs : List Value} {x : NT n} (h : NodeR n U w vs x) : ∃ k s nm a1 n1 c1 a2 n2 c2 a3 n3 c3 pos esc unit, vs = nodeCells k s nm a1 n1 c1 a2 n2 c2 a3 n3 c3 pos esc unit := by
  cases n with
  | zero => exact h.elim
  | succ n =>
    obtain ⟨a1, c1, a2, c2, a3, c3, h1, _⟩ := h
    exact ⟨_, _, _, a1, _, c1, a2, _, c2, a3, _, c3, _, _, _, h1⟩
/-- How much they hold. -/
def massA (x : ArgD) : Nat := x.nm.length + x.s.length + sumBy (fun p : List UInt8 => p.length + 1) x.path + 1
def massC (x : CallD) : Nat := x.nm.length + sumBy massA x.args + 1
def massN : (n : Nat) → NT n → Nat
  | 0, _ => 0
  | n + 1, x => (NN.s x).length + (NN.nm x).length + sumBy massC (NN.pipe x) + sumBy (massN n) (NN.body x) + sumBy (massN n) (NN.els x) + 1
theorem massN_succ (n : Nat) (x : NN (NT n)) : massN (n + 1) x = x.s.length + x.nm.length + sumBy massC x.pipe + sumBy (massN n) x.body + sumBy (massN n) x.els + 1 := rfl
theorem massA_pos (x : ArgD) : 1 ≤ massA x := by unfold massA; omega
theorem massC_pos (x : CallD) : 1 ≤ massC x := by unfold massC; omega
end Go.Proofs.YtnepogddjinpoaaGreatDoor
