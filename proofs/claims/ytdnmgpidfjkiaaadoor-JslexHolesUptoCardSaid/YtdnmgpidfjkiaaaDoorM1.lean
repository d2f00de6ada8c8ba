/-
  PLAIN LAWS of many texts, in one.
-/
import Derived.Below
import Derived.Laws.OwnMore
import Derived.Deep.AppendLies
import Derived.Deep.Draws
import Derived.Laws.Rows
import Derived.OwnWalk
import Derived.ChangeSame
import Derived.Calls
import Derived.Laws.Strings2
import Derived.Laws.BytesArg
import Derived.Lib.Bytealg
import Derived.Lib.IndexMore
import Derived.Lib.Strings
import Derived.Lib.IndexAny
import Derived.Lib.DecodeN
import Derived.Lib.TrimU
import Derived.Shelf.Unicode.DecodeAny
namespace Go.Proofs.YtdnmgpidfjkiaaaDoor
open Go.RowKit Go.WideShapes Go.ChangeShapes
set_option linter.unusedVariables false

theorem block_of_add (a : Addr) (n : Nat) : (a.add n).block = a.block := by unfold Addr.add; split <;> rfl
theorem add_of_add (a : Addr) (i j : Nat) : (a.add i).add j = a.add (i + j) := by
  unfold Addr.add
  by_cases hi : i = 0 <;> by_cases hj : j = 0 <;> simp [hi, hj, Nat.add_assoc]

/-- The slice value '.slice A n c' holds the cells xs and lies below block B. -/
def Reads (w : World) (B size : Nat) (A : Option Addr) (n : Nat) (xs : List Value) : Prop :=
  xs.length = n * size ∧ (0 < n → ∃ ad, A = some ad ∧ ad.block < B ∧ ∀ j u, xs[j]? = some u → w.cell? (ad.add j) = some u)

section
variable {w w' : World} {B B' size n : Nat} {A : Option Addr} {xs : List Value}
theorem Reads.none_ : Reads w B size A 0 [] := ⟨by simp, fun h => absurd h (by omega)⟩
theorem Reads.at_ {k : Nat} (h : Reads w B 1 A n xs) (hk : k < n) : ∃ ad u, A = some ad ∧ ad.block < B ∧ xs[k]? = some u ∧ w.cell? (ad.add k) = some u := by
  obtain ⟨ad, e, hb, hc⟩ := h.2 (by omega)
  have hl : k < xs.length := by have := h.1; omega
  exact ⟨ad, xs[k], e, hb, List.getElem?_eq_getElem hl, hc k _ (List.getElem?_eq_getElem hl)⟩
theorem Reads.keep (h : Reads w B size A n xs) (hk : ∀ p : Addr, p.block < B → w'.cell? p = w.cell? p) : Reads w' B size A n xs :=
  ⟨h.1, fun hn => by
    obtain ⟨ad, e, hb, hc⟩ := h.2 hn
    exact ⟨ad, e, hb, fun j u hu => (hk _ (by rw [block_of_add]; exact hb)).trans (hc j u hu)⟩⟩
theorem Reads.more (h : Reads w B size A n xs) (hB : B ≤ B') : Reads w B' size A n xs :=
  ⟨h.1, fun hn => by
    obtain ⟨ad, e, hb, hc⟩ := h.2 hn
    exact ⟨ad, e, by omega, hc⟩⟩
theorem Reads.below (h : Reads w B size A n xs) (hb : Below B w w') : Reads w' B size A n xs := h.keep fun _ hp => hb.cell hp
theorem Reads.drew (h : Reads w B size A n xs) : Reads w.drew B size A n xs := h
theorem Reads.drewN (h : Reads w B size A n xs) (k : Nat) : Reads (w.drewN k) B size A n xs := h
theorem Reads.alloc (h : Reads w B size A n xs) (hB : B ≤ w.heap.size) (o : Obj) : Reads (w.alloc o) B size A n xs := h.keep fun p hp => World.cell?_alloc_lt w o p (by omega)
theorem Reads.setCell (h : Reads w B size A n xs) {p : Addr} (hB : B ≤ p.block) (u : Value) : Reads (w.setCell p u) B size A n xs :=
  h.keep fun q hq => World.cell?_setCell_other w p q u (fun e => by subst e; omega)
theorem Reads.grown (h : Reads w B size A n xs) {row : Option Nat} (hg : w.grownBy w' row) (hB : B ≤ w.heap.size) (hr : ∀ g, row = some g → B ≤ g) : Reads w' B size A n xs :=
  h.keep fun p hp => World.cell?_of_block (hg.block p.block (by omega) (fun e => by have := hr _ e.symm; omega))
theorem Reads.of_own {base : Nat} {e : TypeId} {c : Nat} (h : w.ownsRow base e size (.slice A n c) n xs) : Reads w w.heap.size size A n xs := by
  refine ⟨h.1, fun hn => ?_⟩
  obtain ⟨g, cap, hv, _, hlt⟩ := h.form hn
  have hA : A = some ⟨g, 0, none⟩ := by injection hv
  subst hA
  exact ⟨_, rfl, hlt, h.cells (g := g) rfl⟩
end

/-- Block g is just the cells cs of element type t, none frozen. -/
def Blk (w : World) (g : Nat) (t : TypeId) (cs : Array Value) : Prop := w.heap[g]? = some (.cells cs t (0, 0))

section
variable {w w' : World} {g : Nat} {t : TypeId} {cs : Array Value}
theorem Blk.lt (h : Blk w g t cs) : g < w.heap.size := by
  rcases Nat.lt_or_ge g w.heap.size with hlt | hge
  · exact hlt
  · unfold Blk at h; rw [Array.getElem?_eq_none hge] at h; cases h
theorem Blk.cell (h : Blk w g t cs) (i : Nat) : w.cell? ⟨g, i, none⟩ = cs[i]? := cell_of_row w g i cs t (0, 0) h
theorem Blk.frozen (h : Blk w g t cs) (i : Nat) : w.frozen? ⟨g, i, none⟩ = false := by
  unfold Blk at h
  simp [World.frozen?, h]
theorem Blk.new (w : World) (t : TypeId) (cs : Array Value) : Blk (w.alloc (.cells cs t)) w.heap.size t cs := heap_alloc_new w _
theorem Blk.drew (h : Blk w g t cs) : Blk w.drew g t cs := h
theorem Blk.drewN (h : Blk w g t cs) (n : Nat) : Blk (w.drewN n) g t cs := h
theorem Blk.alloc (h : Blk w g t cs) (o : Obj) : Blk (w.alloc o) g t cs := (Below.heap_alloc w o g h.lt).trans h
theorem Blk.set_ (h : Blk w g t cs) (i : Nat) (u : Value) : Blk (w.setCell ⟨g, i, none⟩ u) g t (cs.setIfInBounds i u) := by
  unfold Blk at h ⊢
  simp [World.setCell, Array.getElem?_modify, h]
theorem Blk.far (h : Blk w g t cs) {p : Addr} (hp : g ≠ p.block) (u : Value) : Blk (w.setCell p u) g t cs := (Below.heap_setCell w p u g hp).trans h
theorem Blk.below {B : Nat} (h : Blk w g t cs) (hb : Below B w w') (hg : g < B) : Blk w' g t cs := (hb.block g hg).trans h
theorem Blk.grown {row : Option Nat} (h : Blk w g t cs) (hb : w.grownBy w' row) (hg : some g ≠ row) : Blk w' g t cs := (hb.block g h.lt hg).trans h
end

theorem size_list (s : ByteArray) : s.data.toList.length = s.size := by rw [Array.length_toList]; rfl

theorem arr_of {a : Array Value} {l : List Value} (h : a.toList = l) : a = l.toArray := by cases a; simp_all

theorem below_drewN {B : Nat} {a w : World} (h : Below B a w) (n : Nat) : Below B a (w.drewN n) := ⟨h.os, h.tape, h.output, h.size, h.block⟩

/-- What a call that only makes memory leaves, for whoever called: two calls one behind the other. -/
theorem below_step {a b c : World} (h : Below a.heap.size a b) (k : Below b.heap.size b c) : Below a.heap.size a c := h.trans (k.mono h.size)

theorem bcell {W w1 : World} (hb : Below W.heap.size W w1) : (∀ b o, b < W.heap.size → w1.cell? ⟨b, o, none⟩ = W.cell? ⟨b, o, none⟩) ∧ (∀ b o, b < W.heap.size → w1.frozen? ⟨b, o, none⟩ = W.frozen? ⟨b, o, none⟩) :=
  ⟨fun b o h => hb.cell (p := ⟨b, o, none⟩) h, fun b o h => hb.frozen (p := ⟨b, o, none⟩) h⟩

section
variable {H : Type} {enc : TypeId × Value → H} {P : Program}
theorem post_of_below {f : Func} {s : ChangeSpec} {apart fresh handsOn again : Bool} {W W' : World} {args : Array Value} {v : Value} {ds gs : List (DataW H)} {before pa pv : List MemPlace}
    (hW : DataW.Whole enc P f.params.toList s.vars apart W args.toList ds gs before)
    (hres : ∀ (b : Nat) (sp : Nat → Bool) (hd : Bool), DataW.TrodAll enc P W' b sp hd f.resultTypes.toList (v.resultList f.resultTypes.size) (s.fn H (ds ++ gs)).results [])
    (hargs : ∀ sp : Nat → Bool, (∀ p ∈ before, sp p.block = true) → DataW.TrodAll enc P W' 0 sp true f.params.toList args.toList (s.fn H (ds ++ gs)).args pa)
    (hvars : ∀ sp : Nat → Bool, (∀ p ∈ before, sp p.block = true) → DataW.TrodVars enc P W' sp s.vars (s.fn H (ds ++ gs)).vars pv)
    (hps : before = pa ++ pv) (hb : Below W.heap.size W W')
    (hok : ∀ (j : Nat) (t : TypeId) (r : Value), f.resultTypes[j]? = some t → (v.resultList f.resultTypes.size)[j]? = some r → Value.okWide P W' .any 0 t r) :
    s.post enc P f apart fresh handsOn again W args v W' := by
  have hlt : ∀ p ∈ before, p.block < W.heap.size := fun p hp => hW.lt p hp
  have hold : ∀ p ∈ before, (fun b => decide (b < W.heap.size)) p.block = true := fun p hp => by simpa using hlt p hp
  refine ⟨ds, gs, before, [], pa, pv, hW, hres _ _ _, hargs _ hold, hvars _ hold, World.keptBut_mono (fun p hp => ⟨hp, ?_⟩) (hb.frame (· ∈ before)), fun _ => ?_⟩
  · rw [hps, List.mem_append] at hp
    exact Or.inr hp
  · obtain ⟨_, _, _, _, _, hz, hn⟩ := hW
    refine ⟨hok, _, _, ([] ++ pa) ++ pv, ⟨[] ++ pa, pv, trodAll_append (hargs _ (fun _ _ => rfl)) (hres _ _ _), hvars _ (fun _ _ => rfl), rfl, ?_, ?_⟩, ?_⟩
    · intro b off hp
      have hin : MemPlace.cell b off ∈ before := by rw [hps]; simpa using hp
      rw [hb.frozen (hlt _ hin)]
      exact hz b off hin
    · intro ha
      have := hn ha
      rw [hps] at this
      simpa using this
    · intro p hp _
      rw [hps]
      simpa using hp
end
end Go.Proofs.YtdnmgpidfjkiaaaDoor

namespace Go.Proofs.YtdnmgpidfjkiaaaDoor
open Go.RowKit
set_option linter.unusedVariables false

theorem hide {p : Prop} (h : p) : Hid p := h

theorem ret_int {k : IntKind} {a b : Int} (h : a = b) : Ending.returned (.int k a) = .returned (.int k b) := by rw [h]
theorem ret_bool {a b : Bool} (h : a = b) : Ending.returned (.bool a) = .returned (.bool b) := by rw [h]
theorem ret_str {a b : List UInt8} (h : a = b) : Ending.returned (.string ⟨a.toArray⟩) = .returned (.string ⟨b.toArray⟩) := by rw [h]
theorem ret_bs {a b : ByteArray} (h : a = b) : Ending.returned (.string a) = .returned (.string b) := by rw [h]

/-- A digit's octet. -/
def dig (n : Nat) : UInt8 := UInt8.ofNat (48 + n)
theorem dig_toNat (n : Nat) (h : n < 10) : (dig n).toNat = 48 + n := by
  unfold dig; rw [UInt8.toNat_ofNat']; omega

/-- The digits of a number. -/
def decs (u : Nat) : List UInt8 := if h : u < 10 then [dig u] else decs (u / 10) ++ [dig (u % 10)]
  termination_by u
  decreasing_by omega
theorem decs_small (u : Nat) (h : u < 10) : decs u = [dig u] := by rw [decs, dif_pos h]
theorem decs_big (u : Nat) (h : ¬ u < 10) : decs u = decs (u / 10) ++ [dig (u % 10)] := by rw [decs, dif_neg h]
theorem decs_len (k : Nat) : ∀ u, u < 10 ^ (k + 1) → (decs u).length ≤ k + 1 ∧ 1 ≤ (decs u).length := by
  induction k with
  | zero => intro u h; rw [decs_small u (by omega)]; simp
  | succ k ih =>
    intro u h
    by_cases hu : u < 10
    · rw [decs_small u hu]; simp
    · rw [decs_big u hu]
      have := ih (u / 10) (by rw [Nat.pow_succ] at h; omega)
      simp; omega
theorem decs_len20 (u : Nat) (h : u ≤ 18446744073709551615) : (decs u).length ≤ 20 ∧ 1 ≤ (decs u).length := decs_len 19 u (by omega)

/-- What number.Print answers. -/
def pInt (n : Int) : List UInt8 := if n < 0 then 45 :: decs n.natAbs else decs n.natAbs

/-- Octets as cells. -/
def bv (l : List UInt8) : List Value := l.map fun c => Value.int .u8 (c.toNat : Int)
theorem bv_length (l : List UInt8) : (bv l).length = l.length := by simp [bv]
theorem bv_ints (l : List UInt8) : bv l = (l.map fun c => (c.toNat : Int)).map (Value.int .u8) := by simp [bv]
theorem nums_bytes (l : List UInt8) : strOfNums (l.map fun c => (c.toNat : Int)) = ⟨l.toArray⟩ := by
  have h : (strOfNums (l.map fun c => (c.toNat : Int))).data.toList = l := by
    rw [strOfNums_data, List.map_map]
    exact (List.map_congr_left (fun c _ => by simp)).trans (List.map_id l)
  have h2 : (strOfNums (l.map fun c => (c.toNat : Int))).data = l.toArray := by apply Array.toList_inj.1; rw [h]
  show ByteArray.mk _ = _
  exact congrArg ByteArray.mk h2

/-- The octets that a slice holds, as a string. -/
theorem conv_str {P : Program} {w : World} {B : Nat} {A : Option Addr} {n c : Nat} {l : List UInt8} (src dst e : TypeId)
    (hs : P.underlying src = some (.slice e)) (he : P.underlying e = some (.int .u8)) (hd : P.underlying dst = some .string)
    (h : Reads w B 1 A n (bv l)) : (convert src dst (.slice A n c)).run P w = .ok (.string ⟨l.toArray⟩) w := by
  rw [run_convert_bytes_string w src dst e A n c hs he hd]
  have hl : l.length = n := by have := h.1; rw [bv_length] at this; omega
  rcases A with _ | ad
  · have hn : n = 0 := by
      rcases Nat.eq_zero_or_pos n with h0 | h0
      · exact h0
      · obtain ⟨ad, hh, _⟩ := h.2 h0; cases hh
    clear h
    obtain rfl : l = [] := List.eq_nil_of_length_eq_zero (by omega)
    simp [Conv.bytesToString]
    rfl
  · have hl' : (loadCells ad n).run P w = .ok ((l.map fun c => (c.toNat : Int)).map (Value.int .u8)).toArray w := by
      have := run_loadCells_list (P := P) w ad (bv l) (fun j v hj => by
        rcases Nat.eq_zero_or_pos n with h0 | h0
        · subst h0
          obtain rfl : l = [] := List.eq_nil_of_length_eq_zero hl
          simp [bv] at hj
        · obtain ⟨ad', hh, _, hc⟩ := h.2 h0
          injection hh with hh
          subst hh
          exact hc j v hj)
      rw [bv_length, hl, bv_ints] at this
      exact this
    rw [run_bytesToString w ad n c _ hl', foldl_push_bytes, ← nums_bytes l]
    simp [strOfNums, ByteArray.empty, ByteArray.emptyWithCapacity]
    rfl
end Go.Proofs.YtdnmgpidfjkiaaaDoor

namespace Go.Proofs.YtdnmgpidfjkiaaaDoor
set_option linter.unusedVariables false

def smallB (c : UInt8) : UInt8 := if 65 ≤ c.toNat ∧ c.toNat ≤ 90 then c + 32 else c
def greatB (c : UInt8) : UInt8 := if 97 ≤ c.toNat ∧ c.toNat ≤ 122 then c - 32 else c
theorem smallB_yes (c : UInt8) (h : 65 ≤ c.toNat ∧ c.toNat ≤ 90) : (smallB c).toNat = c.toNat + 32 := by
  unfold smallB; rw [if_pos h, UInt8.toNat_add]; have : (32 : UInt8).toNat = 32 := rfl; omega
theorem smallB_no (c : UInt8) (h : ¬ (65 ≤ c.toNat ∧ c.toNat ≤ 90)) : smallB c = c := by unfold smallB; rw [if_neg h]
theorem greatB_yes (c : UInt8) (h : 97 ≤ c.toNat ∧ c.toNat ≤ 122) : (greatB c).toNat = c.toNat - 32 := by
  unfold greatB; rw [if_pos h, UInt8.toNat_sub_of_le]; rfl
  rw [UInt8.le_iff_toNat_le]; have : (32 : UInt8).toNat = 32 := rfl; omega
theorem greatB_no (c : UInt8) (h : ¬ (97 ≤ c.toNat ∧ c.toNat ≤ 122)) : greatB c = c := by unfold greatB; rw [if_neg h]
/-- A fact on all octets, asked of each. -/
theorem allBytes (p : UInt8 → Bool) (h : ∀ n : Fin 256, p (UInt8.ofNat n.val) = true) (c : UInt8) : p c = true := by
  have := h ⟨c.toNat, c.toNat_lt⟩
  simpa using this
def isBlank (c : UInt8) : Bool := c == 32 || c == 9 || c == 10 || c == 12 || c == 13
def isLetter (c : UInt8) : Bool := decide (97 ≤ c.toNat ∧ c.toNat ≤ 122) || decide (65 ≤ c.toNat ∧ c.toNat ≤ 90)
theorem letter_or (c : UInt8) : isLetter c = (decide (97 ≤ (c ||| 32).toNat) && decide ((c ||| 32).toNat ≤ 122)) := by
  have := allBytes (fun c => isLetter c == (decide (97 ≤ (c ||| 32).toNat) && decide ((c ||| 32).toNat ≤ 122))) (by decide +kernel) c
  simpa using this
end Go.Proofs.YtdnmgpidfjkiaaaDoor

namespace Go.Proofs.YtdnmgpidfjkiaaaDoor
set_option linter.unusedVariables false

def isDig (c : UInt8) : Bool := decide (48 ≤ c.toNat) && decide (c.toNat ≤ 57)
/-- A text of digits as a number, from a start on. -/
def valFrom (n : Nat) (l : List UInt8) : Nat := l.foldl (fun n c => n * 10 + (c.toNat - 48)) n
theorem valFrom_nil (n : Nat) : valFrom n [] = n := rfl
theorem valFrom_cons (n : Nat) (c : UInt8) (r : List UInt8) : valFrom n (c :: r) = valFrom (n * 10 + (c.toNat - 48)) r := by unfold valFrom; rw [List.foldl_cons]
theorem valFrom_append (n : Nat) (a b : List UInt8) : valFrom n (a ++ b) = valFrom (valFrom n a) b := by unfold valFrom; rw [List.foldl_append]
theorem valFrom_le (n : Nat) (a : List UInt8) : n ≤ valFrom n a := by
  induction a generalizing n with
  | nil => rw [valFrom_nil]; exact Nat.le_refl _
  | cons c r ih => rw [valFrom_cons]; exact Nat.le_trans (by omega) (ih _)
/-- A number's text: its sign, and the rest. -/
def cutDash (l : List UInt8) : List UInt8 × Bool := match l with
  | 45 :: r => (r, true)
  | _ => (l, false)
/-- What is told of the rest. -/
def pParseT (t : List UInt8) (below : Bool) : Int × Int :=
  if t = [] then (0, 8)
  else if !t.all isDig then (0, 33)
  else if t.head? = some 48 ∧ (below = true ∨ 1 < t.length) then (0, 33)
  else if below then (if valFrom 0 t ≤ 9223372036854775808 then (-(valFrom 0 t : Int), 0) else (0, 4))
  else (if valFrom 0 t < 9223372036854775808 then ((valFrom 0 t : Int), 0) else (0, 4))
def pParse (l : List UInt8) : Int × Int := pParseT (cutDash l).1 (cutDash l).2
end Go.Proofs.YtdnmgpidfjkiaaaDoor

namespace Go.Proofs.YtdnmgpidfjkiaaaDoor
set_option linter.unusedVariables false

/-- What stands ahead of an octet, and behind it; is it there? -/
def cutB (c : UInt8) : List UInt8 → List UInt8 × List UInt8 × Bool
  | [] => ([], [], false)
  | x :: l => if x == c then ([], l, true) else (x :: (cutB c l).1, (cutB c l).2.1, (cutB c l).2.2)
theorem cutB_back (c : UInt8) (l : List UInt8) : (cutB c l).1 ++ (if (cutB c l).2.2 then c :: (cutB c l).2.1 else []) = l := by
  induction l with
  | nil => rfl
  | cons x l ih =>
    unfold cutB
    by_cases h : x == c
    · rw [if_pos h]; have : x = c := by simpa using h
      simp [this]
    · rw [if_neg h]
      simpa using ih
theorem cutB_none (c : UInt8) (l : List UInt8) (h : (cutB c l).2.2 = false) : (cutB c l).1 = l ∧ (cutB c l).2.1 = [] := by
  induction l with
  | nil => exact ⟨rfl, rfl⟩
  | cons x l ih =>
    unfold cutB at h ⊢
    by_cases hx : x == c
    · rw [if_pos hx] at h; cases h
    · rw [if_neg hx] at h ⊢
      obtain ⟨h1, h2⟩ := ih h
      exact ⟨by simp [h1], h2⟩
theorem cutB_ahead (c : UInt8) (l : List UInt8) : c ∉ (cutB c l).1 := by
  induction l with
  | nil => simp [cutB]
  | cons x l ih =>
    unfold cutB
    by_cases hx : x == c
    · rw [if_pos hx]; simp
    · rw [if_neg hx]
      have : x ≠ c := by simpa using hx
      simp [ih, Ne.symm this]
theorem cutB_len (c : UInt8) (l : List UInt8) : (cutB c l).1.length + (cutB c l).2.1.length ≤ l.length := by
  have := congrArg List.length (cutB_back c l)
  rw [List.length_append] at this
  split at this
  · simp at this; omega
  · rename_i h
    rw [(cutB_none c l (by simpa using h)).2]
    simp at this ⊢; omega
theorem cutB_idx (c : UInt8) (l : List UInt8) : (Lib.indexByte l c = -1 ∧ cutB c l = (l, [], false)) ∨
    (∃ k : Nat, Lib.indexByte l c = (k : Int) ∧ k < l.length ∧ cutB c l = (l.take k, l.drop (k + 1), true)) := by
  induction l with
  | nil => left; exact ⟨rfl, rfl⟩
  | cons x l ih =>
    unfold cutB Lib.indexByte
    by_cases hx : x == c
    · rw [if_pos hx, if_pos hx]
      right; exact ⟨0, rfl, by simp, by simp⟩
    · rw [if_neg hx, if_neg hx]
      rcases ih with ⟨h1, h2⟩ | ⟨k, h1, h2, h3⟩
      · left; rw [h1, h2]; exact ⟨rfl, rfl⟩
      · right
        refine ⟨k + 1, ?_, by simp; omega, ?_⟩
        · rw [h1, if_neg (by simp)]; simp
        · rw [h3]; simp
/-- Does an octet end what may be a scheme? -/
def ender (c : UInt8) : Bool := c.toNat == 47 || c.toNat == 63 || c.toNat == 35
def schemeB (l : List UInt8) : List UInt8 × Bool :=
  if (cutB 58 l).2.2 && !(cutB 58 l).1.any ender then ((cutB 58 l).1.map smallB, true) else ([], false)
structure UrlV where
  scheme : List UInt8
  host : List UInt8
  path : List UInt8
  query : List UInt8
  frag : List UInt8
  hs : Bool
  hh : Bool
  hq : Bool
  hf : Bool
  deriving DecidableEq
/-- What stands behind // , and what behind that. -/
def hostB (l : List UInt8) : List UInt8 × List UInt8 :=
  if (cutB 47 l).2.2 then ((cutB 47 l).1, 47 :: (cutB 47 l).2.1) else (l, [])
def twoSlash : List UInt8 → Option (List UInt8)
  | a :: b :: l => if a == 47 && b == 47 then some l else none
  | _ => none
def splitPath (fr qu : List UInt8) (hf hq : Bool) (sc : List UInt8) (hs : Bool) (l : List UInt8) : UrlV :=
  match twoSlash l with
  | some t => ⟨sc, (hostB t).1, (hostB t).2, qu, fr, hs, true, hq, hf⟩
  | none => ⟨sc, [], l, qu, fr, hs, false, hq, hf⟩
def splitScheme (fr qu : List UInt8) (hf hq : Bool) (l : List UInt8) : UrlV :=
  if (schemeB l).2 then splitPath fr qu hf hq (cutB 58 l).1 (cutB 58 l).2.2 (cutB 58 l).2.1 else splitPath fr qu hf hq [] false l
def splitB (l : List UInt8) : UrlV :=
  splitScheme (cutB 35 l).2.1 (cutB 63 (cutB 35 l).1).2.1 (cutB 35 l).2.2 (cutB 63 (cutB 35 l).1).2.2 (cutB 63 (cutB 35 l).1).1
def partB (is : Bool) (ahead s behind : List UInt8) : List UInt8 := if is then ahead ++ s ++ behind else []
def joinB (u : UrlV) : List UInt8 := partB u.hs [] u.scheme [58] ++ partB u.hh [47, 47] u.host [] ++ partB true [] u.path [] ++ partB u.hq [63] u.query [] ++ partB u.hf [35] u.frag []
theorem hostB_back (l : List UInt8) : (hostB l).1 ++ (hostB l).2 = l := by
  have h := cutB_back 47 l
  unfold hostB
  split
  · rename_i h1; rw [if_pos h1] at h; exact h
  · simp
theorem twoSlash_some {l t : List UInt8} (h : twoSlash l = some t) : l = 47 :: 47 :: t := by
  unfold twoSlash at h
  split at h
  · split at h
    · rename_i a b r hc
      cases h
      simp at hc
      simp [hc]
    · cases h
  · cases h
def empties (u : UrlV) : Prop := (u.hs = false → u.scheme = []) ∧ (u.hh = false → u.host = []) ∧ (u.hq = false → u.query = []) ∧ (u.hf = false → u.frag = [])
theorem splitPath_back (fr qu : List UInt8) (hf hq : Bool) (sc : List UInt8) (hs : Bool) (l : List UInt8) :
    joinB (splitPath fr qu hf hq sc hs l) = partB hs [] sc [58] ++ l ++ partB hq [63] qu [] ++ partB hf [35] fr [] := by
  unfold splitPath
  cases h : twoSlash l with
  | some t =>
    have e := twoSlash_some h
    have e2 := hostB_back t
    simp only [joinB]
    rw [e]
    conv => rhs; rw [← e2]
    simp [partB]
  | none => simp [joinB, partB]
theorem schemeB_cut {l : List UInt8} (h : (schemeB l).2 = true) : (cutB 58 l).2.2 = true := by
  unfold schemeB at h
  split at h
  · rename_i h1; simp at h1; exact h1.1
  · cases h
theorem splitScheme_back (fr qu : List UInt8) (hf hq : Bool) (l : List UInt8) :
    joinB (splitScheme fr qu hf hq l) = l ++ partB hq [63] qu [] ++ partB hf [35] fr [] := by
  unfold splitScheme
  split
  · rename_i h
    rw [splitPath_back]
    have e := schemeB_cut h
    have e2 := cutB_back 58 l
    rw [if_pos e] at e2
    rw [e]
    conv => rhs; rw [← e2]
    simp [partB]
  · rw [splitPath_back]; simp [partB]
theorem joinB_splitB (l : List UInt8) : joinB (splitB l) = l := by
  unfold splitB
  rw [splitScheme_back]
  have e1 := cutB_back 35 l
  have e2 := cutB_back 63 (cutB 35 l).1
  have p : ∀ (b : Bool) (c : UInt8) (x : List UInt8), partB b [c] x [] = if b then c :: x else [] := by
    intro b c x; cases b <;> simp [partB]
  rw [p, p, e2, e1]
theorem splitPath_empties (fr qu : List UInt8) (hf hq : Bool) (sc : List UInt8) (hs : Bool) (l : List UInt8) (h1 : hs = false → sc = []) (h2 : hq = false → qu = []) (h3 : hf = false → fr = []) : empties (splitPath fr qu hf hq sc hs l) := by
  unfold splitPath
  split
  · exact ⟨h1, (fun h => by cases h), h2, h3⟩
  · exact ⟨h1, fun _ => rfl, h2, h3⟩
theorem splitB_empties (l : List UInt8) : empties (splitB l) := by
  have h2 := fun h => (cutB_none 63 (cutB 35 l).1 h).2
  have h3 := fun h => (cutB_none 35 l h).2
  unfold splitB splitScheme
  split
  · exact splitPath_empties _ _ _ _ _ _ _ (fun h => by rename_i h1; rw [schemeB_cut h1] at h; cases h) h2 h3
  · exact splitPath_empties _ _ _ _ _ _ _ (fun _ => rfl) h2 h3
def UrlV.size (u : UrlV) : Nat := u.scheme.length + u.host.length + u.path.length + u.query.length + u.frag.length
theorem partB_ge (b : Bool) (x y z : List UInt8) (h : b = false → y = []) : y.length ≤ (partB b x y z).length := by
  cases b with
  | false => simp [h rfl]
  | true => simp [partB]; omega
theorem splitB_size (l : List UInt8) : (splitB l).size ≤ l.length := by
  have hj := congrArg List.length (joinB_splitB l)
  obtain ⟨h1, h2, h3, h4⟩ := splitB_empties l
  have g1 := partB_ge (splitB l).hs [] (splitB l).scheme [58] h1
  have g2 := partB_ge (splitB l).hh [47, 47] (splitB l).host [] h2
  have g3 := partB_ge true [] (splitB l).path [] (fun h => by cases h)
  have g4 := partB_ge (splitB l).hq [63] (splitB l).query [] h3
  have g5 := partB_ge (splitB l).hf [35] (splitB l).frag [] h4
  unfold joinB at hj
  simp only [List.length_append] at hj
  unfold UrlV.size
  omega
end Go.Proofs.YtdnmgpidfjkiaaaDoor

namespace Go.Proofs.YtdnmgpidfjkiaaaDoor
set_option linter.unusedVariables false

theorem cutB_at (c : UInt8) (a b : List UInt8) (h : c ∉ a) : cutB c (a ++ c :: b) = (a, b, true) := by
  induction a with
  | nil => simp [cutB]
  | cons x a ih =>
    have h1 : x ≠ c := fun e => h (by simp [e])
    have h2 : c ∉ a := fun e => h (by simp [e])
    simp only [List.cons_append, cutB]
    rw [if_neg (by simpa using h1), ih h2]
theorem cutB_past (c x : UInt8) (a b : List UInt8) (h : c ∉ a) (hx : x ≠ c) : (cutB c (a ++ x :: b)).1 = a ++ x :: (cutB c b).1 := by
  induction a with
  | nil => simp [cutB, hx]
  | cons y a ih =>
    have h1 : y ≠ c := fun e => h (by simp [e])
    have h2 : c ∉ a := fun e => h (by simp [e])
    simp only [List.cons_append, cutB]
    rw [if_neg (by simpa using h1)]
    simp [ih h2]
def plainTo (a : List UInt8) (k : Nat) : Prop := ∀ j c, j < k → a[j]? = some c → c ≠ 58 ∧ ender c = false
theorem plainTo.all {a : List UInt8} (h : plainTo a a.length) : 58 ∉ a ∧ a.any ender = false := by
  refine ⟨fun hm => ?_, ?_⟩
  · obtain ⟨j, hj, e⟩ := List.getElem_of_mem hm
    exact (h j 58 hj (by rw [List.getElem?_eq_getElem hj, e])).1 rfl
  · rw [List.any_eq_false]
    intro x hx
    obtain ⟨j, hj, e⟩ := List.getElem_of_mem hx
    have := (h j x hj (by rw [List.getElem?_eq_getElem hj, e])).2
    simp [this]
theorem plainTo.next {a : List UInt8} {k : Nat} {c : UInt8} (h : plainTo a k) (hc : a[k]? = some c) (h1 : c ≠ 58) (h2 : ender c = false) : plainTo a (k + 1) := by
  intro j d hj hd
  rcases Nat.lt_or_ge j k with h3 | h3
  · exact h j d h3 hd
  · have : j = k := by omega
    subst this
    rw [hc] at hd
    cases hd
    exact ⟨h1, h2⟩
theorem scheme_colon {a : List UInt8} (b : List UInt8) (h : plainTo a a.length) : schemeB (a ++ 58 :: b) = (a.map smallB, true) := by
  unfold schemeB
  rw [cutB_at 58 a b h.all.1, if_pos (by simp [h.all.2])]
theorem scheme_ender {a : List UInt8} (b : List UInt8) (x : UInt8) (h : plainTo a a.length) (hx : x ≠ 58) (he : ender x = true) : schemeB (a ++ x :: b) = ([], false) := by
  unfold schemeB
  rw [cutB_past 58 x a b h.all.1 hx, if_neg (by simp [he])]

theorem scheme_none {l : List UInt8} (h : plainTo l l.length) : schemeB l = ([], false) := by
  unfold schemeB
  rw [if_neg]
  have h1 := h.all.1
  intro h2
  simp only [Bool.and_eq_true] at h2
  have := cutB_back 58 l
  rw [if_pos h2.1] at this
  exact h1 (by rw [← this]; simp)
theorem take_cons_drop (l : List UInt8) (k : Nat) (x : UInt8) (h : k < l.length) (hx : l[k] = x) : l = l.take k ++ x :: l.drop (k + 1) := by
  rw [← hx, ← List.drop_eq_getElem_cons h, List.take_append_drop]
theorem plainTo_take {l : List UInt8} {k : Nat} (h : plainTo l k) (hk : k ≤ l.length) : plainTo (l.take k) (l.take k).length := by
  intro j c hj hc
  rw [List.length_take] at hj
  rw [List.getElem?_take, if_pos (by omega)] at hc
  exact h j c (by omega) hc
def allowB (l : List UInt8) : Bool := l == [104, 116, 116, 112] || (l == [104, 116, 116, 112, 115] || l == [109, 97, 105, 108, 116, 111])
def markerL : List UInt8 := [35, 90, 103, 111, 116, 109, 112, 108, 90]
end Go.Proofs.YtdnmgpidfjkiaaaDoor

namespace Go.Proofs.YtdnmgpidfjkiaaaDoor
set_option linter.unusedVariables false

def hexd (d : Nat) : UInt8 := if d < 10 then UInt8.ofNat (48 + d) else UInt8.ofNat (87 + d)
def hexText : List UInt8 := [48, 49, 50, 51, 52, 53, 54, 55, 56, 57, 97, 98, 99, 100, 101, 102]
theorem hexText_at (d : Nat) (h : d < 16) : hexText[d]? = some (hexd d) := by
  revert h; revert d; decide
theorem hexText_cut (d : Nat) (h : d < 16) : (hexText.drop d).take (d + 1 - d) = [hexd d] := by
  revert h; revert d; decide
/-- The k lowest digits. -/
def hexs (u : Nat) : Nat → List UInt8
  | 0 => []
  | k + 1 => hexd (u / 16 ^ k % 16) :: hexs u k
theorem hexs_length (u k : Nat) : (hexs u k).length = k := by
  induction k with
  | zero => rfl
  | succ k ih => simp only [hexs, List.length_cons, ih]
/-- What octets.Hex answers. -/
def hexU (n : Int) : Nat := (n % 18446744073709551616).toNat
def hexSize (size : Int) : Nat := (min (max size 0) 16).toNat
def pHex (n size : Int) : List UInt8 := hexs (hexU n) (hexSize size)
theorem hexSize_le (s : Int) : hexSize s ≤ 16 := by unfold hexSize; omega
theorem hexU_lt (n : Int) : hexU n ≤ 18446744073709551615 := by unfold hexU; omega

/-- A digit's worth; -1: it is none. -/
def hexV (c : UInt8) : Int := if 48 ≤ c.toNat ∧ c.toNat ≤ 57 then (c.toNat : Int) - 48 else if 97 ≤ c.toNat ∧ c.toNat ≤ 102 then (c.toNat : Int) - 87 else if 65 ≤ c.toNat ∧ c.toNat ≤ 70 then (c.toNat : Int) - 55 else -1
theorem hexV_index (c : UInt8) : Lib.indexByte hexText (smallB c) = hexV c := by
  have := allBytes (fun c => Lib.indexByte hexText (smallB c) == hexV c) (by decide +kernel) c
  simpa using this
theorem hexV_range (c : UInt8) : -1 ≤ hexV c ∧ hexV c ≤ 15 := by
  have := allBytes (fun c => decide (-1 ≤ hexV c ∧ hexV c ≤ 15)) (by decide +kernel) c
  simpa using this
def hexFrom (n : Nat) (l : List UInt8) : Nat := l.foldl (fun n c => n * 16 + (hexV c).toNat) n
theorem hexFrom_nil (n : Nat) : hexFrom n [] = n := rfl
theorem hexFrom_cons (n : Nat) (c : UInt8) (r : List UInt8) : hexFrom n (c :: r) = hexFrom (n * 16 + (hexV c).toNat) r := by unfold hexFrom; rw [List.foldl_cons]
theorem hexFrom_append (n : Nat) (a b : List UInt8) : hexFrom n (a ++ b) = hexFrom (hexFrom n a) b := by unfold hexFrom; rw [List.foldl_append]
theorem hexFrom_lt (l : List UInt8) : ∀ n, hexFrom n l < (n + 1) * 16 ^ l.length := by
  induction l with
  | nil => intro n; rw [hexFrom_nil]; simp
  | cons c r ih =>
    intro n
    have hc := hexV_range c
    rw [hexFrom_cons, List.length_cons, Nat.pow_succ]
    have h1 := ih (n * 16 + (hexV c).toNat)
    have h2 : (n * 16 + (hexV c).toNat + 1) * 16 ^ r.length ≤ ((n + 1) * 16) * 16 ^ r.length := Nat.mul_le_mul_right _ (by omega)
    have h3 : ((n + 1) * 16) * 16 ^ r.length = (n + 1) * (16 ^ r.length * 16) := by rw [Nat.mul_assoc, Nat.mul_comm 16]
    omega
def isHex (c : UInt8) : Bool := decide (0 ≤ hexV c)
/-- What octets.Unhex answers. -/
def pUnhex (l : List UInt8) : Int × Int :=
  if l = [] then (0, 8) else if 8 < l.length then (0, 5) else if l.all isHex then ((hexFrom 0 l : Int), 0) else (0, 33)

/-- What holds at the head of both loops. -/
def HexRel (l : List UInt8) (k n : Nat) : Prop := (l.take k).all isHex = true ∧ n = hexFrom 0 (l.take k)
theorem HexRel.next {l : List UInt8} {k n : Nat} {c : UInt8} (h : HexRel l k n) (hc : l[k]? = some c) (hv : 0 ≤ hexV c) : HexRel l (k + 1) (n * 16 + (hexV c).toNat) := by
  unfold HexRel at *
  rw [List.take_add_one, hc, Option.toList_some, hexFrom_append, ← h.2, hexFrom_cons, hexFrom_nil, List.all_append, h.1]
  simp [isHex, hv]
theorem HexRel.lt {l : List UInt8} {k n : Nat} (h : HexRel l k n) (hk : k ≤ 7) : n < 268435456 := by
  have h2 := hexFrom_lt (l.take k) 0
  rw [← h.2] at h2
  have h3 : 16 ^ (l.take k).length ≤ 16 ^ 7 := Nat.pow_le_pow_right (by omega) (by rw [List.length_take]; omega)
  omega
theorem HexRel.bad {l : List UInt8} {k n : Nat} {c : UInt8} (h : HexRel l k n) (h1 : l ≠ []) (h2 : ¬ 8 < l.length) (hc : l[k]? = some c) (hv : hexV c < 0) : pUnhex l = (0, 33) := by
  unfold pUnhex
  rw [if_neg h1, if_neg h2, if_neg]
  intro ha
  have := List.all_eq_true.1 ha c (List.mem_of_getElem? hc)
  simp [isHex] at this
  omega
theorem HexRel.end_ {l : List UInt8} {k n : Nat} (h : HexRel l k n) (h1 : l ≠ []) (h2 : ¬ 8 < l.length) (hk : l.length ≤ k) : pUnhex l = ((n : Int), 0) := by
  unfold HexRel at h
  rw [List.take_of_length_le hk] at h
  unfold pUnhex
  rw [if_neg h1, if_neg h2, if_pos h.1, ← h.2]
end Go.Proofs.YtdnmgpidfjkiaaaDoor

namespace Go.Proofs.YtdnmgpidfjkiaaaDoor
set_option linter.unusedVariables false

def unresB (c : UInt8) : Bool := isLetter c || (isDig c || (c.toNat == 45 || (c.toNat == 46 || (c.toNat == 95 || c.toNat == 126))))
def resL : List UInt8 := [33, 35, 36, 38, 42, 43, 44, 47, 58, 59, 61, 63, 64, 91, 93]
def resB (c : UInt8) : Bool := resL.any (· == c)
def hexB (c : UInt8) : Bool := isDig c || ([97, 98, 99, 100, 101, 102, 65, 66, 67, 68, 69, 70] : List UInt8).any (· == c)
theorem hexB_V (c : UInt8) : hexB c = decide (0 ≤ hexV c) := by
  have := allBytes (fun c => hexB c == decide (0 ≤ hexV c)) (by decide +kernel) c
  simpa using this
/-- Does a % with two digits stand at the head? -/
def codedB : List UInt8 → Bool
  | c :: a :: b :: _ => c == 37 && (hexB a && hexB b)
  | _ => false
def pct2 (c : UInt8) : List UInt8 := 37 :: pHex (c.toNat : Int) 2
theorem pHex2_len (n : Int) : (pHex n 2).length = 2 := by unfold pHex; rw [hexs_length]; rfl
def keepB (nm : Bool) (c : UInt8) (r : List UInt8) : Bool := unresB c || (nm && (resB c || codedB (c :: r)))
def pctR (nm : Bool) : List UInt8 → List UInt8
  | [] => []
  | c :: r => (if keepB nm c r then [c] else pct2 c) ++ pctR nm r
theorem pctR_len (nm : Bool) (l : List UInt8) : (pctR nm l).length ≤ 3 * l.length := by
  induction l with
  | nil => simp [pctR]
  | cons c r ih =>
    simp only [pctR, List.length_append, List.length_cons]
    split
    · simp; omega
    · simp [pct2, pHex2_len]; omega
end Go.Proofs.YtdnmgpidfjkiaaaDoor

namespace Go.Proofs.YtdnmgpidfjkiaaaDoor
set_option linter.unusedVariables false

def hexOf : List UInt8 → Nat
  | a :: b :: _ => (hexV a).toNat * 16 + (hexV b).toNat
  | _ => 0
theorem hexOf_lt (l : List UInt8) : hexOf l < 256 := by
  match l with
  | [] => simp [hexOf]
  | [a] => simp [hexOf]
  | a :: b :: r =>
    have h1 := hexV_range a
    have h2 := hexV_range b
    show (hexV a).toNat * 16 + (hexV b).toNat < 256
    omega
theorem codedB_len {c : UInt8} {r : List UInt8} (h : codedB (c :: r) = true) : 2 ≤ r.length := by
  match r with
  | [] => cases h
  | [a] => cases h
  | a :: b :: r => simp
/-- What is decoded, how far, and whether all. -/
def unp (l : List UInt8) : List UInt8 × Nat × Bool :=
  match l with
  | [] => ([], 0, true)
  | c :: r =>
    if c != 37 then (c :: (unp r).1, (unp r).2.1 + 1, (unp r).2.2)
    else if codedB (c :: r) then (UInt8.ofNat (hexOf r) :: (unp (r.drop 2)).1, (unp (r.drop 2)).2.1 + 3, (unp (r.drop 2)).2.2)
    else ([], 0, false)
  termination_by l.length
  decreasing_by all_goals (simp; try omega)
theorem unp_nil : unp [] = ([], 0, true) := by rw [unp]
theorem unp_keep (c : UInt8) (r : List UInt8) (h : (c != 37) = true) : unp (c :: r) = (c :: (unp r).1, (unp r).2.1 + 1, (unp r).2.2) := by rw [unp, if_pos h]
theorem unp_code (c : UInt8) (r : List UInt8) (h : (c != 37) = false) (h2 : codedB (c :: r) = true) : unp (c :: r) = (UInt8.ofNat (hexOf r) :: (unp (r.drop 2)).1, (unp (r.drop 2)).2.1 + 3, (unp (r.drop 2)).2.2) := by rw [unp, if_neg (by rw [h]; exact Bool.false_ne_true), if_pos h2]
theorem unp_bad (c : UInt8) (r : List UInt8) (h : (c != 37) = false) (h2 : codedB (c :: r) = false) : unp (c :: r) = ([], 0, false) := by rw [unp, if_neg (by rw [h]; exact Bool.false_ne_true), if_neg (by rw [h2]; exact Bool.false_ne_true)]
def UnpRel (l : List UInt8) (k : Nat) (ys : List UInt8) : Prop := unp l = (ys ++ (unp (l.drop k)).1, (unp (l.drop k)).2.1 + k, (unp (l.drop k)).2.2)
theorem UnpRel.start (l : List UInt8) : UnpRel l 0 [] := by unfold UnpRel; simp
theorem drop_at_cons (l : List UInt8) (k : Nat) (c : UInt8) (h : k < l.length) (hc : l[k] = c) : l.drop k = c :: l.drop (k + 1) := by rw [← hc]; exact List.drop_eq_getElem_cons h
theorem UnpRel.keep {l : List UInt8} {k : Nat} {ys : List UInt8} {c : UInt8} (h : UnpRel l k ys) (hk : k < l.length) (hc : l[k] = c) (hn : (c != 37) = true) : UnpRel l (k + 1) (ys ++ [c]) := by
  unfold UnpRel at h ⊢
  rw [drop_at_cons l k c hk hc, unp_keep _ _ hn] at h
  rw [h]
  simp; omega
theorem UnpRel.code {l : List UInt8} {k : Nat} {ys : List UInt8} {c : UInt8} (h : UnpRel l k ys) (hk : k < l.length) (hc : l[k] = c) (hn : (c != 37) = false) (hd : codedB (c :: l.drop (k + 1)) = true) : UnpRel l (k + 3) (ys ++ [UInt8.ofNat (hexOf (l.drop (k + 1)))]) := by
  unfold UnpRel at h ⊢
  rw [drop_at_cons l k c hk hc, unp_code _ _ hn hd, show (l.drop (k + 1)).drop 2 = l.drop (k + 3) by rw [List.drop_drop]] at h
  rw [h]
  simp; omega
theorem UnpRel.bad {l : List UInt8} {k : Nat} {ys : List UInt8} {c : UInt8} (h : UnpRel l k ys) (hk : k < l.length) (hc : l[k] = c) (hn : (c != 37) = false) (hd : codedB (c :: l.drop (k + 1)) = false) : (unp l).2.1 = k ∧ (unp l).2.2 = false := by
  unfold UnpRel at h
  rw [drop_at_cons l k c hk hc, unp_bad _ _ hn hd] at h
  rw [h]; simp
theorem UnpRel.end_ {l : List UInt8} {k : Nat} {ys : List UInt8} (h : UnpRel l k ys) (hk : k = l.length) : (unp l).1 = ys ∧ (unp l).2.2 = true := by
  unfold UnpRel at h
  rw [hk, List.drop_length, unp_nil] at h
  rw [h]; simp
theorem pUnhex2 (a b : UInt8) : pUnhex [a, b] = show Int × Int from if hexB a && hexB b then ((hexOf [a, b] : Nat), 0) else (0, 33) := by
  have h1 := hexV_range a
  have h2 := hexV_range b
  rw [hexB_V, hexB_V]
  unfold pUnhex
  by_cases ha : 0 ≤ hexV a <;> by_cases hb : 0 ≤ hexV b <;> simp [ha, hb, hexFrom, hexOf, isHex]
/-- What plain says: what is decoded, or the text. -/
def plainP (l : List UInt8) : List UInt8 := if (unp l).2.2 then (unp l).1 else l
end Go.Proofs.YtdnmgpidfjkiaaaDoor

namespace Go.Proofs.YtdnmgpidfjkiaaaDoor
set_option linter.unusedVariables false

theorem pct2_good (c : UInt8) : ∃ a b, pct2 c = [37, a, b] ∧ hexB a = true ∧ hexB b = true ∧ UInt8.ofNat (hexOf [a, b]) = c := by
  have h := allBytes (fun c => match pHex (c.toNat : Int) 2 with
    | [a, b] => hexB a && (hexB b && UInt8.ofNat (hexOf [a, b]) == c)
    | _ => false) (by decide +kernel) c
  have hl := pHex2_len (c.toNat : Int)
  unfold pct2
  match hp : pHex (c.toNat : Int) 2 with
  | [a, b] =>
    rw [hp] at h
    simp only [Bool.and_eq_true, beq_iff_eq] at h
    exact ⟨a, b, rfl, h.1, h.2.1, h.2.2⟩
  | [] => rw [hp] at hl; simp at hl
  | [_] => rw [hp] at hl; simp at hl
  | _ :: _ :: _ :: _ => rw [hp] at hl; simp at hl
theorem unres_ne (c : UInt8) (h : unresB c = true) : (c != 37) = true := by
  have := allBytes (fun c => !unresB c || c != 37) (by decide +kernel) c
  rw [h] at this
  simpa using this
theorem unp_pct (r : List UInt8) : unp (pctR false r) = (r, (pctR false r).length, true) := by
  induction r with
  | nil => simp [pctR, unp_nil]
  | cons c r ih =>
    have hk : keepB false c r = unresB c := by simp [keepB]
    simp only [pctR, hk]
    rcases Bool.eq_false_or_eq_true (unresB c) with h | h
    · rw [h, if_pos rfl]
      show unp (c :: pctR false r) = _
      rw [unp_keep c _ (unres_ne c h), ih]
      simp
    · rw [h, if_neg Bool.false_ne_true]
      obtain ⟨a, b, e, ha, hb, hv⟩ := pct2_good c
      rw [e]
      show unp (37 :: a :: b :: pctR false r) = _
      rw [unp_code 37 _ rfl (by simp [codedB, ha, hb])]
      have h1 : hexOf (a :: b :: pctR false r) = hexOf [a, b] := rfl
      rw [h1, hv]
      simp [ih]
end Go.Proofs.YtdnmgpidfjkiaaaDoor

namespace Go.Proofs.YtdnmgpidfjkiaaaDoor
set_option linter.unusedVariables false

def sizeR (b : UInt8) : Nat := if b.toNat < 128 then 1 else if 194 ≤ b.toNat ∧ b.toNat < 224 then 2 else if 224 ≤ b.toNat ∧ b.toNat < 240 then 3 else if 240 ≤ b.toNat ∧ b.toNat < 245 then 4 else 0
theorem sizeR_le (b : UInt8) : sizeR b ≤ 4 := by unfold sizeR; (repeat' split) <;> omega
def badC (c : Int) : Bool := decide (c < 0) || decide (1114111 < c) || (decide (55296 ≤ c) && decide (c ≤ 57343))
def u8 (n : Nat) : UInt8 := UInt8.ofNat n
theorem u8_toNat {n : Nat} (h : n < 256) : (u8 n).toNat = n := by unfold u8; rw [UInt8.toNat_ofNat']; omega
def encR (c : Nat) : List UInt8 :=
  if c < 128 then [u8 c] else if c < 2048 then [u8 (192 + c / 64), u8 (128 + c % 64)]
  else if c < 65536 then [u8 (224 + c / 4096), u8 (128 + c / 64 % 64), u8 (128 + c % 64)]
  else [u8 (240 + c / 262144), u8 (128 + c / 4096 % 64), u8 (128 + c / 64 % 64), u8 (128 + c % 64)]
theorem encR_len (c : Nat) : 1 ≤ (encR c).length ∧ (encR c).length ≤ 4 := by
  unfold encR; (repeat' split) <;> simp
/-- What a number is written as; nothing if it is no character. -/
def encL (c : Int) : List UInt8 := if badC c then [] else encR c.toNat
def contB (x : UInt8) : Bool := decide (128 ≤ x.toNat) && decide (x.toNat ≤ 191)
def accR (m : Nat) (xs : List UInt8) : Nat := xs.foldl (fun c x => c * 64 + (x.toNat - 128)) m
theorem accR_snoc (m : Nat) (xs : List UInt8) (x : UInt8) : accR m (xs ++ [x]) = accR m xs * 64 + (x.toNat - 128) := by simp [accR]
theorem accR_lt (m : Nat) (hm : m < 128) : ∀ (n : Nat) (xs : List UInt8), xs.length ≤ n → xs.all contB = true → accR m xs < 128 * 64 ^ xs.length := by
  intro n
  induction n with
  | zero =>
    intro xs h _
    obtain rfl : xs = [] := List.eq_nil_of_length_eq_zero (by omega)
    simpa [accR] using hm
  | succ n ih =>
    intro xs h hc
    rcases List.eq_nil_or_concat xs with rfl | ⟨ys, y, rfl⟩
    · simpa [accR] using hm
    · simp at h
      simp only [List.concat_eq_append] at hc ⊢
      simp only [List.all_append, Bool.and_eq_true] at hc
      have h1 := ih ys (by omega) hc.1
      have h2 : y.toNat ≤ 191 := by have := hc.2; simp [contB] at this; exact this.2
      rw [accR_snoc]
      simp only [List.length_append, List.length_cons, List.length_nil, Nat.pow_succ, Nat.zero_add]
      omega
theorem accR_bd (m : Nat) (hm : m < 128) (xs : List UInt8) (h : xs.length ≤ 3) (hc : xs.all contB = true) : accR m xs < 33554432 := by
  have h1 := accR_lt m hm 3 xs h hc
  have h2 : (64 : Nat) ^ xs.length ≤ 64 ^ 3 := Nat.pow_le_pow_right (by omega) h
  have h3 : (64 : Nat) ^ 3 = 262144 := rfl
  omega
def maskR (n : Nat) : Nat := if n = 1 then 128 else if n = 2 then 32 else if n = 3 then 16 else 8
def decR : List UInt8 → Int × Nat
  | [] => (-1, 0)
  | b :: r =>
    if sizeR b = 0 ∨ r.length + 1 < sizeR b then (-1, 1)
    else if (r.take (sizeR b - 1)).all contB = false then (-1, 1)
    else if badC (accR (b.toNat % maskR (sizeR b)) (r.take (sizeR b - 1)) : Nat) = false ∧ encR (accR (b.toNat % maskR (sizeR b)) (r.take (sizeR b - 1))) = b :: r.take (sizeR b - 1)
      then ((accR (b.toNat % maskR (sizeR b)) (r.take (sizeR b - 1)) : Nat), sizeR b)
    else (-1, 1)
theorem decR_cons (b : UInt8) (r : List UInt8) : decR (b :: r) = show Int × Nat from
    if sizeR b = 0 ∨ r.length + 1 < sizeR b then (-1, 1)
    else if (r.take (sizeR b - 1)).all contB = false then (-1, 1)
    else if badC (accR (b.toNat % maskR (sizeR b)) (r.take (sizeR b - 1)) : Nat) = false ∧ encR (accR (b.toNat % maskR (sizeR b)) (r.take (sizeR b - 1))) = b :: r.take (sizeR b - 1)
      then ((accR (b.toNat % maskR (sizeR b)) (r.take (sizeR b - 1)) : Nat), sizeR b)
    else (-1, 1) := rfl
theorem decR_pos (l : List UInt8) (h : l ≠ []) : 1 ≤ (decR l).2 ∧ (decR l).2 ≤ l.length := by
  match l with
  | [] => exact absurd rfl h
  | b :: r =>
    rw [decR_cons]
    split
    · simp
    · split
      · simp
      · split
        · rename_i h1 _ _
          simp only [List.length_cons]
          omega
        · simp
def fixC (c : Int) : Int := if c ≤ 0 then 65533 else c
def charsR (l : List UInt8) : List Int := if h : l = [] then [] else fixC (decR l).1 :: charsR (l.drop (decR l).2)
  termination_by l.length
  decreasing_by
    have := decR_pos l h
    rw [List.length_drop]; omega
theorem charsR_nil : charsR [] = [] := by rw [charsR]; simp
theorem charsR_cons (l : List UInt8) (h : l ≠ []) : charsR l = fixC (decR l).1 :: charsR (l.drop (decR l).2) := by rw [charsR, dif_neg h]
theorem decR_good (l : List UInt8) : badC (fixC (decR l).1) = false := by
  unfold fixC
  split
  · decide
  · rename_i h
    match l with
    | [] => simp [decR] at h
    | b :: r =>
      rw [decR_cons] at h ⊢
      split at h
      · simp at h
      · rename_i h1
        rw [if_neg h1]
        split at h
        · simp at h
        · rename_i h2
          rw [if_neg h2]
          split at h
          · rename_i h3
            rw [if_pos h3]
            exact h3.1
          · simp at h
theorem charsR_len (l : List UInt8) : (charsR l).length ≤ l.length := by
  induction hn : l.length using Nat.strongRecOn generalizing l with
  | _ n ih =>
    by_cases h : l = []
    · subst h; simp [charsR_nil]
    · rw [charsR_cons l h]
      have hp := decR_pos l h
      have := ih (l.length - (decR l).2) (by omega) (l.drop (decR l).2) (by rw [List.length_drop])
      simp
      omega
def repairR (l : List UInt8) : List UInt8 := (charsR l).flatMap encL
theorem encL_len (c : Int) : (encL c).length ≤ 4 := by
  unfold encL; split
  · simp
  · exact (encR_len _).2
theorem flat_len (xs : List Int) : (xs.flatMap encL).length ≤ 4 * xs.length := by
  induction xs with
  | nil => simp
  | cons x xs ih => simp only [List.flatMap_cons, List.length_append, List.length_cons]; have := encL_len x; omega
theorem repairR_len (l : List UInt8) : (repairR l).length ≤ 4 * l.length := by
  have := flat_len (charsR l); have := charsR_len l; unfold repairR; omega
theorem charsR_good (l : List UInt8) : ∀ c ∈ charsR l, badC c = false := by
  induction hn : l.length using Nat.strongRecOn generalizing l with
  | _ n ih =>
    by_cases h : l = []
    · subst h; simp [charsR_nil]
    · rw [charsR_cons l h]
      have hp := decR_pos l h
      intro c hc
      rcases List.mem_cons.1 hc with rfl | hc
      · exact decR_good l
      · exact ih (l.length - (decR l).2) (by omega) (l.drop (decR l).2) (by rw [List.length_drop]) c hc
theorem good_nat {c : Int} (h : badC c = false) : ((c.toNat : Nat) : Int) = c ∧ c ≤ 1114111 := by
  have : 0 ≤ c ∧ c ≤ 1114111 := by simp [badC] at h; omega
  omega
theorem encL_good {c : Int} (h : badC c = false) : encL c = encR c.toNat := by unfold encL; rw [h]; rfl
/-- Are these characters' octets? -/
def validR (l : List UInt8) : Bool := if h : l = [] then true else if (decR l).1 < 0 then false else validR (l.drop (decR l).2)
  termination_by l.length
  decreasing_by
    have := decR_pos l h
    rw [List.length_drop]; omega
theorem validR_nil : validR [] = true := by rw [validR]; simp
theorem validR_cons (l : List UInt8) (h : l ≠ []) : validR l = if (decR l).1 < 0 then false else validR (l.drop (decR l).2) := by rw [validR, dif_neg h]
end Go.Proofs.YtdnmgpidfjkiaaaDoor

namespace Go.Proofs.YtdnmgpidfjkiaaaDoor
set_option linter.unusedVariables false

theorem u8_self (c : UInt8) : u8 c.toNat = c := by unfold u8; simp
theorem decR_ascii (c : UInt8) (r : List UInt8) (h : c.toNat < 128) : decR (c :: r) = ((c.toNat : Int), 1) := by
  have hs : sizeR c = 1 := by unfold sizeR; rw [if_pos h]
  have ha : accR (c.toNat % maskR 1) (r.take (1 - 1)) = c.toNat := by
    simp [accR, maskR]; omega
  rw [decR_cons, hs, if_neg (by omega), if_neg (by simp), ha, if_pos]
  · refine ⟨by simp [badC]; omega, ?_⟩
    unfold encR
    rw [if_pos h, u8_self]
    simp
theorem decR_great (c : UInt8) (r : List UInt8) (h : 128 ≤ c.toNat) :
    (decR (c :: r) = (-1, 1)) ∨ (0 < (decR (c :: r)).1 ∧ encL (decR (c :: r)).1 = (c :: r).take (decR (c :: r)).2 ∧ 2 ≤ (decR (c :: r)).2 ∧ ∀ x ∈ (c :: r).take (decR (c :: r)).2, 128 ≤ x.toNat) := by
  rw [decR_cons]
  split
  · exact .inl rfl
  · rename_i h1
    split
    · exact .inl rfl
    · rename_i h2
      split
      · rename_i h3
        right
        have hs : 2 ≤ sizeR c := by
          have h0 : sizeR c ≠ 1 := by unfold sizeR; rw [if_neg (by omega)]; (repeat' split) <;> omega
          omega
        have htk : (c :: r).take (sizeR c) = c :: r.take (sizeR c - 1) := by
          obtain ⟨n, hn⟩ : ∃ n, sizeR c = n + 1 := ⟨sizeR c - 1, by omega⟩
          rw [hn]; rfl
        obtain ⟨h4, h5⟩ := h3
        generalize hA : accR (c.toNat % maskR (sizeR c)) (r.take (sizeR c - 1)) = A at h4 h5 ⊢
        have hpos : 0 < A := by
          rcases Nat.eq_zero_or_pos A with h0 | h0
          · subst h0
            have : encR 0 = [0] := by decide
            rw [this] at h5
            have := List.cons.inj h5
            rw [← this.1] at h
            exact absurd h (by decide)
          · exact h0
        refine ⟨by simp; omega, ?_, hs, ?_⟩
        · show encL (A : Int) = _
          rw [encL_good h4, htk]
          simpa using h5
        · show ∀ x ∈ (c :: r).take (sizeR c), _
          rw [htk]
          intro x hx
          rcases List.mem_cons.1 hx with rfl | hx
          · exact h
          · have h6 : (r.take (sizeR c - 1)).all contB = true := by simpa using h2
            have := List.all_eq_true.1 h6 x hx
            simp [contB] at this
            exact this.1
      · exact .inl rfl
theorem codedB_ne (c : UInt8) (l : List UInt8) (h : (c == 37) = false) : codedB (c :: l) = false := by
  match l with
  | [] => rfl
  | [a] => rfl
  | a :: b :: r =>
    show (c == 37 && _) = false
    rw [h]; rfl
theorem pct_high (nm : Bool) (q R : List UInt8) (h : ∀ x ∈ q, 128 ≤ x.toNat) : pctR nm (q ++ R) = q.flatMap pct2 ++ pctR nm R := by
  induction q with
  | nil => rfl
  | cons c q ih =>
    have hc := h c (by simp)
    have hk : keepB nm c (q ++ R) = false := by
      have h1 : unresB c = false ∧ resB c = false ∧ (c == 37) = false := by
        have := allBytes (fun c => !decide (128 ≤ c.toNat) || (!unresB c && !resB c && !(c == 37))) (by decide +kernel) c
        simp [hc] at this
        simpa [and_assoc] using this
      have h2 : codedB (c :: (q ++ R)) = false := codedB_ne c _ h1.2.2
      unfold keepB
      rw [h1.1, h1.2.1, h2]; cases nm <;> rfl
    simp only [List.cons_append, pctR, hk, List.flatMap_cons]
    rw [ih fun x hx => h x (by simp [hx])]
    simp
theorem peel {x V sch rest : List UInt8} (h : x ++ V = sch ++ 58 :: rest) (hx : 58 ∉ x) : ∃ sch', sch = x ++ sch' ∧ V = sch' ++ 58 :: rest := by
  induction x generalizing sch with
  | nil => exact ⟨sch, rfl, h⟩
  | cons y x ih =>
    match sch with
    | [] =>
      simp at h
      exact absurd h.1.symm (by intro e; exact hx (by simp [e]))
    | z :: sch =>
      simp only [List.cons_append, List.cons.injEq] at h
      obtain ⟨s', h1, h2⟩ := ih h.2 (by intro e; exact hx (by simp [e]))
      exact ⟨s', by rw [h1, h.1]; rfl, h2⟩
theorem pct2_no (c : UInt8) : 58 ∉ pct2 c := by
  have := allBytes (fun c => !(pct2 c).any (· == 58)) (by decide +kernel) c
  simp at this
  intro h
  exact absurd rfl (this 58 h)
def calm (sch : List UInt8) : Prop := 58 ∉ sch ∧ sch.any ender = false
theorem calm_cons {c : UInt8} {s : List UInt8} (h : calm (c :: s)) : c ≠ 58 ∧ ender c = false ∧ calm s := by
  obtain ⟨h1, h2⟩ := h
  simp only [List.any_cons, Bool.or_eq_false_iff] at h2
  exact ⟨fun e => h1 (by simp [e]), h2.1, fun e => h1 (by simp [e]), h2.2⟩
theorem calm_app {a b : List UInt8} (h : calm (a ++ b)) : calm b := by
  obtain ⟨h1, h2⟩ := h
  rw [List.any_append, Bool.or_eq_false_iff] at h2
  exact ⟨fun e => h1 (by simp [e]), h2.2⟩
theorem calm_join {a b : List UInt8} (ha : calm a) (hb : calm b) : calm (a ++ b) :=
  ⟨by simp [ha.1, hb.1], by rw [List.any_append, ha.2, hb.2]; rfl⟩
theorem calm_high {p : List UInt8} (h : ∀ x ∈ p, 128 ≤ x.toNat ∨ x = 0) : calm p := by
  have hx : ∀ x : UInt8, (128 ≤ x.toNat ∨ x = 0) → x ≠ 58 ∧ ender x = false := by
    intro x h
    have := allBytes (fun x => !(decide (128 ≤ x.toNat) || x == 0) || (!(x == 58) && !ender x)) (by decide +kernel) x
    rcases h with h | h
    · simpa [h] using this
    · subst h; decide
  refine ⟨fun hm => (hx 58 (h 58 hm)).1 rfl, ?_⟩
  rw [List.any_eq_false]
  intro x hxm
  rw [(hx x (h x hxm)).2]; decide
theorem repairR_cons (l : List UInt8) (h : l ≠ []) : repairR l = encL (fixC (decR l).1) ++ repairR (l.drop (decR l).2) := by
  unfold repairR; rw [charsR_cons l h, List.flatMap_cons]
/-- THE IDEA: what a normal text has ahead of a : stands so, or encoded, in the text. -/
theorem normal_scheme : ∀ (n : Nat) (l sch rest : List UInt8), l.length ≤ n → pctR true (repairR l) = sch ++ 58 :: rest → calm sch →
    ∃ a b, l = a ++ 58 :: b ∧ calm a ∧ (a.all isLetter = true → sch = a) := by
  intro n
  induction n with
  | zero =>
    intro l sch rest hl h _
    obtain rfl : l = [] := List.eq_nil_of_length_eq_zero (by omega)
    simp [repairR, charsR_nil, pctR] at h
  | succ n ih =>
    intro l sch rest hl h hs
    match l with
    | [] => simp [repairR, charsR_nil, pctR] at h
    | c :: r =>
      have hlr : r.length ≤ n := by simp at hl; omega
      by_cases hc : c.toNat < 128
      · by_cases hc0 : c = 0
        · subst hc0
          have hd : decR (0 :: r) = (0, 1) := decR_ascii 0 r (by decide)
          have hrep : repairR (0 :: r) = [239, 191, 189] ++ repairR r := by
            rw [repairR_cons _ (by simp), hd]
            show encL (fixC 0) ++ repairR r = _
            rw [show encL (fixC 0) = [239, 191, 189] by decide]
          rw [hrep, pct_high true _ _ (by decide)] at h
          obtain ⟨s', e1, e2⟩ := peel h (by decide)
          obtain ⟨a, b, h1, h2, h3⟩ := ih r s' rest hlr e2 (by rw [e1] at hs; exact calm_app hs)
          exact ⟨0 :: a, b, by rw [h1]; rfl, calm_join (a := [0]) (calm_high (by simp)) h2, fun h => by simp [isLetter] at h⟩
        · have hcp : ¬ (c.toNat : Int) ≤ 0 := by
            intro h0
            apply hc0
            apply UInt8.toNat_inj.1
            show c.toNat = 0
            omega
          have hrep : repairR (c :: r) = c :: repairR r := by
            rw [repairR_cons _ (by simp), decR_ascii c r hc]
            show encL (fixC c.toNat) ++ repairR r = _
            unfold fixC
            rw [if_neg hcp, encL_good (by simp [badC]; omega)]
            unfold encR
            rw [if_pos (by simpa using hc)]
            simp [u8_self]
          rw [hrep] at h
          simp only [pctR] at h
          by_cases hk : keepB true c (repairR r) = true
          · rw [hk, if_pos rfl] at h
            by_cases h58 : c = 58
            · refine ⟨[], r, by rw [h58]; rfl, ⟨by simp, rfl⟩, fun _ => ?_⟩
              match sch with
              | [] => rfl
              | z :: s' =>
                simp at h
                exact absurd (h.1.symm.trans h58) (calm_cons hs).1
            · obtain ⟨s', e1, e2⟩ := peel h (by simpa using Ne.symm h58)
              rw [e1] at hs
              obtain ⟨g1, g2, g3⟩ := calm_cons hs
              obtain ⟨a, b, h1, h2, h3⟩ := ih r s' rest hlr e2 g3
              refine ⟨c :: a, b, by rw [h1]; rfl, calm_join (a := [c]) ⟨by simpa using Ne.symm g1, by simp [g2]⟩ h2, fun hL => ?_⟩
              simp only [List.all_cons, Bool.and_eq_true] at hL
              rw [e1, h3 hL.2]; rfl
          · have hkf : keepB true c (repairR r) = false := by simpa using hk
            rw [hkf] at h
            simp only [Bool.false_eq_true, if_false] at h
            obtain ⟨s', e1, e2⟩ := peel h (pct2_no c)
            rw [e1] at hs
            have hnu : unresB c = false ∧ resB c = false := by
              unfold keepB at hkf
              simp only [Bool.true_and, Bool.or_eq_false_iff] at hkf
              exact ⟨hkf.1, hkf.2.1⟩
            have hne : c ≠ 58 ∧ ender c = false ∧ isLetter c = false := by
              have := allBytes (fun c => unresB c || resB c || (!(c == 58) && !ender c && !isLetter c)) (by decide +kernel) c
              simp [hnu.1, hnu.2] at this
              simpa [and_assoc] using this
            obtain ⟨a, b, h1, h2, h3⟩ := ih r s' rest hlr e2 (calm_app hs)
            refine ⟨c :: a, b, by rw [h1]; rfl, calm_join (a := [c]) ⟨by simpa using Ne.symm hne.1, by simp [hne.2.1]⟩ h2, fun hL => ?_⟩
            simp [hne.2.2] at hL
      · have hc' : 128 ≤ c.toNat := by omega
        rcases decR_great c r hc' with hd | ⟨g1, g2, g3, g4⟩
        · have hrep : repairR (c :: r) = [239, 191, 189] ++ repairR r := by
            rw [repairR_cons _ (by simp), hd]
            show encL (fixC (-1)) ++ repairR r = _
            rw [show encL (fixC (-1)) = [239, 191, 189] by decide]
          rw [hrep, pct_high true _ _ (by decide)] at h
          obtain ⟨s', e1, e2⟩ := peel h (by decide)
          obtain ⟨a, b, h1, h2, h3⟩ := ih r s' rest hlr e2 (by rw [e1] at hs; exact calm_app hs)
          refine ⟨c :: a, b, by rw [h1]; rfl, calm_join (a := [c]) (calm_high (by simp [hc'])) h2, fun hL => ?_⟩
          have : isLetter c = false := by
            have := allBytes (fun c => !decide (128 ≤ c.toNat) || !isLetter c) (by decide +kernel) c
            simpa [hc'] using this
          simp [this] at hL
        · have hp := decR_pos (c :: r) (by simp)
          have hrep := repairR_cons (c :: r) (by simp)
          rw [show fixC (decR (c :: r)).1 = (decR (c :: r)).1 by unfold fixC; rw [if_neg (by omega)], g2] at hrep
          rw [hrep, pct_high true _ _ g4] at h
          obtain ⟨s', e1, e2⟩ := peel h (by
            intro hm
            obtain ⟨y, _, hy⟩ := List.mem_flatMap.1 hm
            exact pct2_no y hy)
          have hdl : ((c :: r).drop (decR (c :: r)).2).length ≤ n := by
            rw [List.length_drop]; simp only [List.length_cons] at hl ⊢; omega
          obtain ⟨a, b, h1, h2, h3⟩ := ih _ s' rest hdl e2 (by rw [e1] at hs; exact calm_app hs)
          refine ⟨(c :: r).take (decR (c :: r)).2 ++ a, b, ?_, calm_join (calm_high fun x hx => .inl (g4 x hx)) h2, fun hL => ?_⟩
          · rw [List.append_assoc, ← h1, List.take_append_drop]
          · rw [List.all_append, Bool.and_eq_true] at hL
            have hm : c ∈ (c :: r).take (decR (c :: r)).2 := by
              obtain ⟨m, hm⟩ : ∃ m, (decR (c :: r)).2 = m + 1 := ⟨(decR (c :: r)).2 - 1, by omega⟩
              rw [hm]; simp
            have h5 := List.all_eq_true.1 hL.1 c hm
            have : isLetter c = false := by
              have := allBytes (fun c => !decide (128 ≤ c.toNat) || !isLetter c) (by decide +kernel) c
              simpa [hc'] using this
            rw [this] at h5; cases h5
def filterB (l : List UInt8) : List UInt8 := if (schemeB l).2 && !allowB (schemeB l).1 then markerL else pctR true (repairR l)
theorem calm_plain {a : List UInt8} (h : calm a) : plainTo a a.length := by
  intro j c hj hc
  have hm := List.mem_of_getElem? hc
  exact ⟨fun e => h.1 (by rw [← e]; exact hm), by have := List.any_eq_false.1 h.2 c hm; simpa using this⟩
theorem small_letter (c : UInt8) (h : smallB c ∈ ([104, 116, 112, 115, 109, 97, 105, 108, 111] : List UInt8)) : isLetter c = true := by
  have := allBytes (fun c => !([104, 116, 112, 115, 109, 97, 105, 108, 111] : List UInt8).any (· == smallB c) || isLetter c) (by decide +kernel) c
  have h2 : ([104, 116, 112, 115, 109, 97, 105, 108, 111] : List UInt8).any (· == smallB c) = true := by
    rw [List.any_eq_true]; exact ⟨smallB c, h, by simp⟩
  rw [h2] at this
  simpa using this
theorem allow_letters {a : List UInt8} (h : allowB (a.map smallB) = true) : a.all isLetter = true := by
  rw [List.all_eq_true]
  intro c hc
  apply small_letter
  have hm : smallB c ∈ a.map smallB := List.mem_map_of_mem hc
  unfold allowB at h
  simp only [Bool.or_eq_true, beq_iff_eq] at h
  rcases h with h | h | h
  · rw [h] at hm; exact (by decide : ∀ x ∈ ([104, 116, 116, 112] : List UInt8), x ∈ ([104, 116, 112, 115, 109, 97, 105, 108, 111] : List UInt8)) _ hm
  · rw [h] at hm; exact (by decide : ∀ x ∈ ([104, 116, 116, 112, 115] : List UInt8), x ∈ ([104, 116, 112, 115, 109, 97, 105, 108, 111] : List UInt8)) _ hm
  · rw [h] at hm; exact (by decide : ∀ x ∈ ([109, 97, 105, 108, 116, 111] : List UInt8), x ∈ ([104, 116, 112, 115, 109, 97, 105, 108, 111] : List UInt8)) _ hm
theorem split_scheme_calm {l : List UInt8} (h : (splitB l).hs = true) : ∃ rest, l = (splitB l).scheme ++ 58 :: rest ∧ calm (splitB l).scheme := by
  have key : ∀ m fr qu hf hq, (splitScheme fr qu hf hq m).hs = true → ∃ rest, m = (splitScheme fr qu hf hq m).scheme ++ 58 :: rest ∧ calm (splitScheme fr qu hf hq m).scheme := by
    intro m fr qu hf hq hh
    have hsp : ∀ sc hs x, (splitPath fr qu hf hq sc hs x).hs = hs ∧ (splitPath fr qu hf hq sc hs x).scheme = sc := by
      intro sc hs x; unfold splitPath; split <;> exact ⟨rfl, rfl⟩
    unfold splitScheme at hh ⊢
    split at hh
    · rename_i h1
      rw [if_pos h1, (hsp _ _ _).2]
      have h2 := h1
      unfold schemeB at h2
      split at h2
      · rename_i h3
        simp only [Bool.and_eq_true, Bool.not_eq_true'] at h3
        have := cutB_back 58 m
        rw [if_pos h3.1] at this
        exact ⟨_, this.symm, cutB_ahead 58 m, h3.2⟩
      · cases h2
    · rw [(hsp _ _ _).1] at hh; cases hh
  unfold splitB at h ⊢
  obtain ⟨rest, h1, h2⟩ := key _ _ _ _ _ h
  have e1 := cutB_back 35 l
  have e2 := cutB_back 63 (cutB 35 l).1
  refine ⟨rest ++ (if (cutB 63 (cutB 35 l).1).2.2 then 63 :: (cutB 63 (cutB 35 l).1).2.1 else []) ++ (if (cutB 35 l).2.2 then 35 :: (cutB 35 l).2.1 else []), ?_, h2⟩
  conv => lhs; rw [← e1, ← e2]
  conv => lhs; rw [h1]
  simp
theorem filter_allowed (l : List UInt8) (h : (splitB (filterB l)).hs = true) : allowB ((splitB (filterB l)).scheme.map smallB) = true := by
  unfold filterB at h ⊢
  split at h
  · exact absurd h (by decide +kernel)
  · rename_i hn
    rw [if_neg hn]
    obtain ⟨rest, e1, e2⟩ := split_scheme_calm h
    obtain ⟨a, b, h1, h2, h3⟩ := normal_scheme l.length l _ rest (Nat.le_refl _) e1 e2
    have hsc : schemeB l = (a.map smallB, true) := by rw [h1]; exact scheme_colon b (calm_plain h2)
    rw [hsc] at hn
    simp only [Bool.true_and, Bool.not_eq_true', Bool.not_eq_false] at hn
    have hn' : allowB (a.map smallB) = true := by simpa using hn
    rw [h3 (allow_letters hn')]
    exact hn'
end Go.Proofs.YtdnmgpidfjkiaaaDoor

namespace Go.Proofs.YtdnmgpidfjkiaaaDoor
set_option linter.unusedVariables false

/-- Octets that may be, and three of what is encoded. -/
inductive NormT : List UInt8 → Prop
  | nil : NormT []
  | one (c : UInt8) (r : List UInt8) : (unresB c || resB c) = true → NormT r → NormT (c :: r)
  | pct (a b : UInt8) (r : List UInt8) : hexB a = true → hexB b = true → NormT r → NormT (37 :: a :: b :: r)
theorem hexB_unres (c : UInt8) (h : hexB c = true) : unresB c = true := by
  have := allBytes (fun c => !hexB c || unresB c) (by decide +kernel) c
  rw [h] at this
  simpa using this
theorem keep_unres {nm : Bool} {c : UInt8} {r : List UInt8} (h : unresB c = true) : keepB nm c r = true := by simp [keepB, h]
theorem normT_pct (l : List UInt8) : NormT (pctR true l) := by
  induction hn : l.length using Nat.strongRecOn generalizing l with
  | _ n ih =>
    match l with
    | [] => exact .nil
    | c :: r =>
      have hr : NormT (pctR true r) := ih r.length (by simp at hn; omega) r rfl
      simp only [pctR]
      by_cases h1 : (unresB c || resB c) = true
      · have hk : keepB true c r = true := by
          simp only [Bool.or_eq_true] at h1
          rcases h1 with h | h <;> simp [keepB, h]
        rw [hk, if_pos rfl]
        exact .one c _ h1 hr
      · by_cases h2 : codedB (c :: r) = true
        · have hk : keepB true c r = true := by simp [keepB, h2]
          rw [hk, if_pos rfl]
          match r with
          | [] => cases h2
          | [a] => cases h2
          | a :: b :: r' =>
            simp only [codedB, Bool.and_eq_true, beq_iff_eq] at h2
            obtain ⟨rfl, ha, hb⟩ := h2
            have hr' : NormT (pctR true r') := ih r'.length (by simp at hn; omega) r' rfl
            simp only [pctR, keep_unres (nm := true) (hexB_unres a ha), keep_unres (nm := true) (hexB_unres b hb), if_true]
            exact .pct a b _ ha hb hr'
        · have hk : keepB true c r = false := by
            simp only [Bool.not_eq_true] at h1 h2
            simp only [Bool.or_eq_false_iff] at h1
            simp [keepB, h1.1, h1.2, h2]
          rw [hk, if_neg Bool.false_ne_true]
          obtain ⟨a, b, e, ha, hb, _⟩ := pct2_good c
          rw [e]
          exact .pct a b _ ha hb hr
theorem norm_self {l : List UInt8} (h : NormT l) : pctR true l = l := by
  induction h with
  | nil => rfl
  | one c r h1 _ ih =>
    have hk : keepB true c r = true := by
      simp only [Bool.or_eq_true] at h1
      rcases h1 with h | h <;> simp [keepB, h]
    simp only [pctR, hk, if_true, ih]; rfl
  | pct a b r ha hb _ ih =>
    have hk : keepB true 37 (a :: b :: r) = true := by simp [keepB, codedB, ha, hb]
    simp only [pctR, hk, keep_unres (nm := true) (hexB_unres a ha), keep_unres (nm := true) (hexB_unres b hb), if_true, ih]; rfl
theorem norm_ne (c : UInt8) (h : (unresB c || resB c) = true) : (c != 37) = true := by
  have := allBytes (fun c => !(unresB c || resB c) || c != 37) (by decide +kernel) c
  rw [h] at this
  simpa using this
theorem norm_unp {l : List UInt8} (h : NormT l) : (unp l).2.2 = true := by
  induction h with
  | nil => rw [unp_nil]
  | one c r h1 _ ih => rw [unp_keep c r (norm_ne c h1)]; exact ih
  | pct a b r ha hb _ ih =>
    rw [unp_code 37 _ rfl (by simp [codedB, ha, hb])]
    exact ih
theorem norm_ascii {l : List UInt8} (h : NormT l) : ∀ c ∈ l, 0 < c.toNat ∧ c.toNat < 128 := by
  have key : ∀ c : UInt8, (unresB c || (resB c || c == 37)) = true → 0 < c.toNat ∧ c.toNat < 128 := by
    intro c h
    have := allBytes (fun c => !(unresB c || (resB c || c == 37)) || (decide (0 < c.toNat) && decide (c.toNat < 128))) (by decide +kernel) c
    rw [h] at this
    simpa using this
  induction h with
  | nil => simp
  | one c r h1 _ ih =>
    intro x hx
    rcases List.mem_cons.1 hx with rfl | hx
    · exact key _ (by simp only [Bool.or_eq_true] at h1 ⊢; rcases h1 with h | h <;> simp [h])
    · exact ih x hx
  | pct a b r ha hb _ ih =>
    intro x hx
    simp only [List.mem_cons] at hx
    rcases hx with rfl | rfl | rfl | hx
    · exact key _ (by decide)
    · exact key _ (by simp [hexB_unres _ ha])
    · exact key _ (by simp [hexB_unres _ hb])
    · exact ih x hx
theorem norm_mem {l : List UInt8} (h : NormT l) : ∀ c ∈ l, (c == 37 || (resB c || unresB c)) = true := by
  induction h with
  | nil => simp
  | one c r h1 _ ih =>
    intro x hx
    rcases List.mem_cons.1 hx with rfl | hx
    · simp only [Bool.or_eq_true] at h1 ⊢; rcases h1 with h | h <;> simp [h]
    · exact ih x hx
  | pct a b r ha hb _ ih =>
    intro x hx
    simp only [List.mem_cons] at hx
    rcases hx with rfl | rfl | rfl | hx
    · rfl
    · simp [hexB_unres _ ha]
    · simp [hexB_unres _ hb]
    · exact ih x hx
theorem repairR_ascii_cons (c : UInt8) (r : List UInt8) (h : 0 < c.toNat ∧ c.toNat < 128) : repairR (c :: r) = c :: repairR r := by
  rw [repairR_cons _ (by simp), decR_ascii c r h.2]
  show encL (fixC c.toNat) ++ repairR r = _
  unfold fixC
  rw [if_neg (by omega), encL_good (by simp [badC]; omega)]
  unfold encR
  rw [if_pos (by simpa using h.2)]
  simp [u8_self]
theorem repairR_ascii {l : List UInt8} (h : ∀ c ∈ l, 0 < c.toNat ∧ c.toNat < 128) : repairR l = l := by
  induction l with
  | nil => simp [repairR, charsR_nil]
  | cons c r ih => rw [repairR_ascii_cons c r (h c (by simp)), ih fun x hx => h x (by simp [hx])]
/-- Normal again: the text. -/
theorem normal_again (l : List UInt8) : pctR true (repairR (pctR true l)) = pctR true l := by
  rw [repairR_ascii (norm_ascii (normT_pct l)), norm_self (normT_pct l)]
/-- A first character of a text is the first one of more. -/
theorem decR_app {a : List UInt8} (b : List UInt8) (h : 0 ≤ (decR a).1) : decR (a ++ b) = decR a := by
  match a with
  | [] => simp [decR] at h
  | c :: r =>
    rw [decR_cons] at h
    split at h
    · exact absurd h (by decide)
    · rename_i h1
      have ht : (r ++ b).take (sizeR c - 1) = r.take (sizeR c - 1) := List.take_append_of_le_length (by omega)
      rw [List.cons_append, decR_cons, decR_cons, ht, if_neg (by rw [List.length_append]; omega), if_neg h1]
theorem repairR_app : ∀ (n : Nat) (a b : List UInt8), a.length ≤ n → validR a = true → repairR (a ++ b) = repairR a ++ repairR b := by
  intro n
  induction n with
  | zero =>
    intro a b ha _
    obtain rfl : a = [] := List.eq_nil_of_length_eq_zero (by omega)
    simp [repairR, charsR_nil]
  | succ n ih =>
    intro a b ha hv
    by_cases h : a = []
    · subst h; simp [repairR, charsR_nil]
    · rw [validR_cons a h] at hv
      by_cases hd : (decR a).1 < 0
      · rw [if_pos hd] at hv; cases hv
      · rw [if_neg hd] at hv
        have hp := decR_pos a h
        rw [repairR_cons (a ++ b) (by simp [h]), repairR_cons a h, decR_app b (by omega), List.drop_append_of_le_length hp.2,
          ih (a.drop (decR a).2) b (by rw [List.length_drop]; omega) hv, List.append_assoc]
theorem pctR_false_app (a b : List UInt8) : pctR false (a ++ b) = pctR false a ++ pctR false b := by
  induction a with
  | nil => rfl
  | cons c r ih =>
    have hk : ∀ x : List UInt8, keepB false c x = unresB c := fun x => by simp [keepB]
    simp only [List.cons_append, pctR, hk, ih, List.append_assoc]
/-- Two texts, the first one valid, are encoded one behind the other. -/
theorem encode_app (a b : List UInt8) (h : validR a = true) : pctR false (repairR (a ++ b)) = pctR false (repairR a) ++ pctR false (repairR b) := by
  rw [repairR_app a.length a b (Nat.le_refl _) h, pctR_false_app]
/-- A scheme is what stands ahead of the first : . -/
theorem schemeB_calm {l : List UInt8} (h : (schemeB l).2 = true) : ∃ a rest, l = a ++ 58 :: rest ∧ calm a ∧ (schemeB l).1 = a.map smallB := by
  unfold schemeB at h ⊢
  split at h
  · rename_i h1
    rw [if_pos h1]
    simp only [Bool.and_eq_true, Bool.not_eq_true'] at h1
    have := cutB_back 58 l
    rw [if_pos h1.1] at this
    exact ⟨_, _, this.symm, ⟨cutB_ahead 58 l, h1.2⟩, rfl⟩
  · cases h
theorem filter_scheme (l : List UInt8) (h : (schemeB (filterB l)).2 = true) : allowB (schemeB (filterB l)).1 = true := by
  unfold filterB at h ⊢
  split at h
  · exact absurd h (by decide +kernel)
  · rename_i hn
    rw [if_neg hn]
    obtain ⟨sch, rest, e1, e2, e3⟩ := schemeB_calm h
    obtain ⟨a, b, h1, h2, h3⟩ := normal_scheme l.length l _ rest (Nat.le_refl _) e1 e2
    have hsc : schemeB l = (a.map smallB, true) := by rw [h1]; exact scheme_colon b (calm_plain h2)
    rw [hsc] at hn
    have hn' : allowB (a.map smallB) = true := by simpa using hn
    rw [e3, h3 (allow_letters hn')]
    exact hn'
theorem filter_again (l : List UInt8) : filterB (filterB l) = filterB l := by
  have hs := filter_scheme l
  have hf : filterB l = markerL ∨ filterB l = pctR true (repairR l) := by
    unfold filterB; split
    · exact .inl rfl
    · exact .inr rfl
  have hc : ((schemeB (filterB l)).2 && !allowB (schemeB (filterB l)).1) = false := by
    rcases Bool.eq_false_or_eq_true (schemeB (filterB l)).2 with h | h
    · rw [hs h]; simp
    · rw [h]; rfl
  show (if ((schemeB (filterB l)).2 && !allowB (schemeB (filterB l)).1) = true then markerL else pctR true (repairR (filterB l))) = _
  rw [hc, if_neg Bool.false_ne_true]
  rcases hf with h | h
  · rw [h]; decide +kernel
  · rw [h, normal_again]
end Go.Proofs.YtdnmgpidfjkiaaaDoor

namespace Go.Proofs.YtdnmgpidfjkiaaaDoor
set_option linter.unusedVariables false

/-- Does a character stand as it is? -/
def plainC (c : Nat) : Bool := decide (c < 128) && (isLetter (u8 c) || (isDig (u8 c) || ([32, 95, 46, 44] : List UInt8).any (· == u8 c)))
def uniR (n : Nat) : List UInt8 := [92, 117] ++ pHex (n : Int) 4
/-- A character as literal.Quote writes it. -/
def quoteC (c : Nat) : List UInt8 :=
  if plainC c then [u8 c] else if 65535 < c then uniR (55296 + (c - 65536) / 1024) ++ uniR (56320 + (c - 65536) % 1024) else uniR c
def quoteI (c : Int) : List UInt8 := quoteC c.toNat
/-- A text, escaped. -/
def escR (l : List UInt8) : List UInt8 := (charsR l).flatMap quoteI
theorem pHex4_len (n : Int) : (pHex n 4).length = 4 := by unfold pHex; rw [hexs_length]; rfl
theorem uniR_len (n : Nat) : (uniR n).length = 6 := by unfold uniR; simp [pHex4_len]
theorem quoteC_len (c : Nat) : 1 ≤ (quoteC c).length ∧ (quoteC c).length ≤ 12 := by
  unfold quoteC
  split
  · simp
  · split
    · rw [List.length_append, uniR_len, uniR_len]; omega
    · rw [uniR_len]; omega
theorem flatQ_len (xs : List Int) : (xs.flatMap quoteI).length ≤ 12 * xs.length := by
  induction xs with
  | nil => simp
  | cons x xs ih => simp only [List.flatMap_cons, List.length_append, List.length_cons]; have := (quoteC_len x.toNat).2; unfold quoteI at ih ⊢; omega
theorem escR_len (l : List UInt8) : (escR l).length ≤ 12 * l.length := by
  have := flatQ_len (charsR l); have := charsR_len l; unfold escR; omega
theorem charsR_app : ∀ (n : Nat) (a b : List UInt8), a.length ≤ n → validR a = true → charsR (a ++ b) = charsR a ++ charsR b := by
  intro n
  induction n with
  | zero =>
    intro a b ha _
    obtain rfl : a = [] := List.eq_nil_of_length_eq_zero (by omega)
    simp [charsR_nil]
  | succ n ih =>
    intro a b ha hv
    by_cases h : a = []
    · subst h; simp [charsR_nil]
    · rw [validR_cons a h] at hv
      by_cases hd : (decR a).1 < 0
      · rw [if_pos hd] at hv; cases hv
      · rw [if_neg hd] at hv
        have hp := decR_pos a h
        rw [charsR_cons (a ++ b) (by simp [h]), charsR_cons a h, decR_app b (by omega), List.drop_append_of_le_length hp.2,
          ih (a.drop (decR a).2) b (by rw [List.length_drop]; omega) hv, List.cons_append]
/-- Two texts, the first one valid, are escaped one behind the other. -/
theorem escR_app (a b : List UInt8) (h : validR a = true) : escR (a ++ b) = escR a ++ escR b := by
  unfold escR
  rw [charsR_app a.length a b (Nat.le_refl _) h, List.flatMap_append]
theorem hexV_digit (d : Nat) (h : d < 16) : hexV (hexd d) = (d : Int) := by
  revert h; revert d; decide
theorem hexFrom_digits (u : Nat) : ∀ k n, hexFrom n (hexs u k) = n * 16 ^ k + u % 16 ^ k := by
  intro k
  induction k with
  | zero => intro n; simp [hexs, hexFrom_nil, Nat.mod_one]
  | succ k ih =>
    intro n
    have hd : u / 16 ^ k % 16 < 16 := Nat.mod_lt _ (by omega)
    show hexFrom n (hexd (u / 16 ^ k % 16) :: hexs u k) = _
    rw [hexFrom_cons, hexV_digit _ hd, Int.toNat_natCast, ih, Nat.add_mul, Nat.mul_assoc, ← Nat.pow_succ', Nat.add_assoc]
    congr 1
    rw [Nat.pow_succ, Nat.mod_mul, Nat.mul_comm (u / 16 ^ k % 16), Nat.add_comm]
theorem hexs_all (u : Nat) : ∀ k, (hexs u k).all isHex = true := by
  intro k
  induction k with
  | zero => rfl
  | succ k ih =>
    have hd : u / 16 ^ k % 16 < 16 := Nat.mod_lt _ (by omega)
    show (hexd (u / 16 ^ k % 16) :: hexs u k).all isHex = true
    rw [List.all_cons, ih, isHex, hexV_digit _ hd, decide_eq_true (Int.natCast_nonneg _)]
    rfl
theorem pHex4 (n : Nat) (h : n < 65536) : pHex (n : Int) 4 = hexs n 4 := by
  unfold pHex
  have h1 : hexU (n : Int) = n := by unfold hexU; omega
  rw [h1]; rfl
/-- Four digits are read back. -/
theorem pUnhex4 (n : Nat) (h : n < 65536) : pUnhex (pHex (n : Int) 4) = ((n : Int), 0) := by
  rw [pHex4 n h]
  have hl := hexs_length n 4
  unfold pUnhex
  rw [if_neg (by intro e; rw [e] at hl; simp at hl), if_neg (by omega), if_pos (hexs_all n 4), hexFrom_digits]
  simp
  omega
/-- A plain character stands as itself, ends nothing, and is its octets. -/
theorem plainC_octet (c : Nat) (h : plainC c = true) : quoteC c = [u8 c] ∧ encR c = [u8 c] ∧ c < 128 ∧ ((u8 c).toNat = c) ∧ c ≠ 92 ∧ c ≠ 10 ∧ c ≠ 13 ∧ c ≠ 34 ∧ c ≠ 39 := by
  have hc : c < 128 := by unfold plainC at h; simp only [Bool.and_eq_true, decide_eq_true_eq] at h; exact h.1
  refine ⟨by unfold quoteC; rw [if_pos h], by unfold encR; rw [if_pos hc], hc, u8_toNat (by omega), ?_⟩
  have key : ∀ c, c < 128 → plainC c = true → c ≠ 92 ∧ c ≠ 10 ∧ c ≠ 13 ∧ c ≠ 34 ∧ c ≠ 39 := by decide +kernel
  exact key c hc h
/-- Octets that end nothing. -/
def quietB (c : UInt8) : Bool := !(([60, 62, 38, 39, 34, 47, 33, 45, 96, 10, 13, 0] : List UInt8).any (· == c))
theorem hexd_quiet (d : Nat) (h : d < 16) : quietB (hexd d) = true := by
  revert h; revert d; decide
theorem hexs_quiet (u k : Nat) : (hexs u k).all quietB = true := by
  induction k with
  | zero => rfl
  | succ k ih =>
    show (hexd (u / 16 ^ k % 16) :: hexs u k).all quietB = true
    rw [List.all_cons, ih, hexd_quiet _ (Nat.mod_lt _ (by omega))]; rfl
theorem uniR_quiet (n : Nat) : (uniR n).all quietB = true := by
  unfold uniR pHex
  rw [List.all_append, hexs_quiet]; rfl
theorem quoteC_quiet (c : Nat) : (quoteC c).all quietB = true := by
  unfold quoteC
  split
  · rename_i h
    have hc : c < 128 := by unfold plainC at h; simp only [Bool.and_eq_true, decide_eq_true_eq] at h; exact h.1
    have key : ∀ c, c < 128 → plainC c = true → quietB (u8 c) = true := by decide +kernel
    simp [key c hc h]
  · split
    · rw [List.all_append, uniR_quiet, uniR_quiet]; rfl
    · exact uniR_quiet c
theorem escR_quiet (l : List UInt8) : (escR l).all quietB = true := by
  unfold escR
  rw [List.all_flatMap]
  rw [List.all_eq_true]
  intro c _
  exact quoteC_quiet _
end Go.Proofs.YtdnmgpidfjkiaaaDoor

namespace Go.Proofs.YtdnmgpidfjkiaaaDoor
set_option linter.unusedVariables false

def wordyB (c : UInt8) : Bool := isLetter c || (isDig c || (c == 95 || (c == 36 || decide (127 < c.toNat))))
def newlB (c : UInt8) : Bool := c == 10 || c == 13
/-- The words behind which a value may come. -/
def wordsL : List (List UInt8) :=
  [[114, 101, 116, 117, 114, 110], [116, 121, 112, 101, 111, 102], [99, 97, 115, 101], [105, 110], [111, 102], [100, 101, 108, 101, 116, 101], [118, 111, 105, 100], [116, 104, 114, 111, 119], [110, 101, 119], [101, 108, 115, 101], [100, 111], [105, 110, 115, 116, 97, 110, 99, 101, 111, 102]]
def endedB (part : Nat) (word : List UInt8) : Nat := if !(word == []) && wordsL.any (· == word) then 0 else part
def blankB (c : UInt8) : Bool := c == 32 || (c == 9 || (c == 10 || (c == 12 || c == 13)))
abbrev Pos := Nat × List UInt8
/-- The sign behind a word that has ended. -/
def signB (p : Nat) (c : UInt8) : Nat :=
  if blankB c then p else if c == 34 then 2 else if c == 39 then 3 else if c == 96 then 15
  else if c == 47 then (if p == 0 then 13 else 14) else if c == 41 || (c == 93 || c == 125) then 1 else 0
def codeB (part : Nat) (word : List UInt8) (c : UInt8) : Pos :=
  if wordyB c then (1, if word.length < 16 then word ++ [c] else word) else (signB (endedB part word) c, [])
def quotedB (part : Nat) (c : UInt8) : Nat :=
  if c == (if part == 3 then 39 else 34) then 1 else if c == 92 then (if part == 3 then 5 else 4) else if newlB c then 15 else part
def matchedB (part : Nat) (c : UInt8) : Nat :=
  if newlB c then 15 else if c == 92 then part + 1 else if part == 9 && c == 47 then 1 else if part == 9 && c == 91 then 11 else if part == 11 && c == 93 then 9 else part
def remarkB (part : Nat) (c : UInt8) : Nat := if c == 42 then 8 else if part == 8 && c == 47 then 0 else 7
def slashedB (part : Nat) (c : UInt8) : Pos :=
  if c == 47 then (6, []) else if c == 42 then (7, []) else if part == 13 then (matchedB 9 c, []) else codeB 0 [] c
/-- An octet more. -/
def stepB (p : Pos) (c : UInt8) : Pos :=
  match p.1 with
  | 0 | 1 => codeB p.1 p.2 c
  | 2 | 3 => (quotedB p.1 c, [])
  | 4 | 5 => (p.1 - 2, [])
  | 6 => (if newlB c then 0 else 6, [])
  | 7 | 8 => (remarkB p.1 c, [])
  | 9 | 11 => (matchedB p.1 c, [])
  | 10 | 12 => (p.1 - 1, [])
  | 13 | 14 => slashedB p.1 c
  | _ => (15, [])
def feedB (p : Pos) (l : List UInt8) : Pos := l.foldl stepB p
theorem feedB_app (p : Pos) (a b : List UInt8) : feedB p (a ++ b) = feedB (feedB p a) b := by unfold feedB; rw [List.foldl_append]
theorem feedB_cons (p : Pos) (c : UInt8) (b : List UInt8) : feedB p (c :: b) = feedB (stepB p c) b := rfl
theorem feedB_barred (w : List UInt8) (l : List UInt8) : (feedB (15, w) l).1 = 15 := by
  induction l generalizing w with
  | nil => rfl
  | cons c r ih => rw [feedB_cons]; exact ih []
theorem signB_le (p : Nat) (c : UInt8) (h : p ≤ 15) : signB p c ≤ 15 := by unfold signB; (repeat' split) <;> omega
theorem endedB_le (p : Nat) (w : List UInt8) (h : p ≤ 15) : endedB p w ≤ 15 := by unfold endedB; split <;> omega
theorem codeB_le (p : Nat) (w : List UInt8) (c : UInt8) (h : p ≤ 15) : (codeB p w c).1 ≤ 15 := by
  unfold codeB; split
  · simp
  · exact signB_le _ _ (endedB_le p w h)
theorem codeB_word (p : Nat) (w : List UInt8) (c : UInt8) (h : w.length ≤ 16) : (codeB p w c).2.length ≤ 16 := by
  unfold codeB; split
  · split
    · simp; omega
    · exact h
  · simp
theorem matchedB_le (p : Nat) (c : UInt8) (h : p ≤ 14) : matchedB p c ≤ 15 := by unfold matchedB; (repeat' split) <;> omega
theorem stepB_le (p : Pos) (c : UInt8) (h : p.1 ≤ 15) (hw : p.2.length ≤ 16) : (stepB p c).1 ≤ 15 ∧ (stepB p c).2.length ≤ 16 := by
  obtain ⟨n, w⟩ := p
  simp only at h hw
  have hq : ∀ k, quotedB k c ≤ 15 ∨ k > 15 := fun k => by unfold quotedB; (repeat' split) <;> omega
  have hr : ∀ k, remarkB k c ≤ 15 := fun k => by unfold remarkB; (repeat' split) <;> omega
  have hs : ∀ k, k = 13 ∨ k = 14 → (slashedB k c).1 ≤ 15 ∧ (slashedB k c).2.length ≤ 16 := fun k hk => by
    unfold slashedB
    split
    · exact ⟨by decide, Nat.zero_le _⟩
    · split
      · exact ⟨by decide, Nat.zero_le _⟩
      · split
        · exact ⟨matchedB_le _ _ (by decide), Nat.zero_le _⟩
        · exact ⟨codeB_le _ _ _ (by decide), codeB_word _ _ _ (by decide)⟩
  have hn : n = 0 ∨ n = 1 ∨ n = 2 ∨ n = 3 ∨ n = 4 ∨ n = 5 ∨ n = 6 ∨ n = 7 ∨ n = 8 ∨ n = 9 ∨ n = 10 ∨ n = 11 ∨ n = 12 ∨ n = 13 ∨ n = 14 ∨ n = 15 := by omega
  rcases hn with rfl | rfl | rfl | rfl | rfl | rfl | rfl | rfl | rfl | rfl | rfl | rfl | rfl | rfl | rfl | rfl
  · exact ⟨codeB_le 0 w c (by decide), codeB_word 0 w c hw⟩
  · exact ⟨codeB_le 1 w c (by decide), codeB_word 1 w c hw⟩
  · exact ⟨(hq 2).resolve_right (by decide), Nat.zero_le _⟩
  · exact ⟨(hq 3).resolve_right (by decide), Nat.zero_le _⟩
  · exact ⟨by show 2 ≤ 15; decide, Nat.zero_le _⟩
  · exact ⟨by show 3 ≤ 15; decide, Nat.zero_le _⟩
  · refine ⟨?_, Nat.zero_le _⟩
    show (if newlB c then 0 else 6) ≤ 15
    split <;> omega
  · exact ⟨hr 7, Nat.zero_le _⟩
  · exact ⟨hr 8, Nat.zero_le _⟩
  · exact ⟨matchedB_le 9 c (by decide), Nat.zero_le _⟩
  · exact ⟨by show 9 ≤ 15; decide, Nat.zero_le _⟩
  · exact ⟨matchedB_le 11 c (by decide), Nat.zero_le _⟩
  · exact ⟨by show 11 ≤ 15; decide, Nat.zero_le _⟩
  · exact hs 13 (.inl rfl)
  · exact hs 14 (.inr rfl)
  · exact ⟨by show 15 ≤ 15; decide, Nat.zero_le _⟩
theorem feedB_le (p : Pos) (l : List UInt8) (h : p.1 ≤ 15) (hw : p.2.length ≤ 16) : (feedB p l).1 ≤ 15 ∧ (feedB p l).2.length ≤ 16 := by
  induction l generalizing p with
  | nil => exact ⟨h, hw⟩
  | cons c r ih => rw [feedB_cons]; obtain ⟨h1, h2⟩ := stepB_le p c h hw; exact ih _ h1 h2
/-- Remarks. -/
def calmB (c : UInt8) : Bool := !(c == 10) && (!(c == 13) && !(c == 42))
theorem feed_line (w : List UInt8) (l : List UInt8) (h : l.all calmB = true) : (feedB (6, w) l).1 = 6 := by
  induction l generalizing w with
  | nil => rfl
  | cons c r ih =>
    simp only [List.all_cons, Bool.and_eq_true] at h
    have hn : newlB c = false := by
      have := h.1
      unfold calmB at this
      simp at this
      simp [newlB, this]
    rw [feedB_cons]
    show (feedB (if newlB c then 0 else 6, []) r).1 = 6
    rw [hn]
    exact ih [] h.2
theorem feed_block (w : List UInt8) (l : List UInt8) (h : l.all calmB = true) : (feedB (7, w) l).1 = 7 := by
  induction l generalizing w with
  | nil => rfl
  | cons c r ih =>
    simp only [List.all_cons, Bool.and_eq_true] at h
    have hn : (c == 42) = false := by
      have := h.1
      unfold calmB at this
      simp at this
      simp [this]
    rw [feedB_cons]
    show (feedB (remarkB 7 c, []) r).1 = 7
    have : remarkB 7 c = 7 := by unfold remarkB; rw [hn]; rfl
    rw [this]
    exact ih [] h.2
theorem remark_line (s : List UInt8) (h : s.all calmB = true) : (feedB (0, []) ([47, 47] ++ s ++ [10])).1 = 0 := by
  rw [feedB_app, feedB_app]
  have h1 : feedB (0, []) [47, 47] = (6, []) := by decide
  rw [h1]
  have h2 := feed_line [] s h
  generalize feedB (6, []) s = p at h2
  obtain ⟨n, w⟩ := p
  simp only at h2
  subst h2
  rfl
theorem remark_block (s : List UInt8) (h : s.all calmB = true) : (feedB (1, []) ([47, 42] ++ s ++ [42, 47])).1 = 0 := by
  rw [feedB_app, feedB_app]
  have h1 : feedB (1, []) [47, 42] = (7, []) := by decide
  rw [h1]
  have h2 := feed_block [] s h
  generalize feedB (7, []) s = p at h2
  obtain ⟨n, w⟩ := p
  simp only at h2
  subst h2
  rfl
/-- An escaped text stays in its string. -/
def tameB (c : UInt8) : Bool := !(c == 34) && (!(c == 39) && (!(c == 92) && (!(c == 10) && !(c == 13))))
theorem step_tame (q : Nat) (hq : q = 2 ∨ q = 3) (w : List UInt8) (c : UInt8) (h : tameB c = true) : stepB (q, w) c = (q, []) := by
  have hn : quotedB q c = q := by
    unfold tameB at h
    simp at h
    rcases hq with rfl | rfl <;> simp [quotedB, newlB, h]
  rcases hq with rfl | rfl <;> (show (quotedB _ c, []) = _; rw [hn])
theorem feed_tame (q : Nat) (hq : q = 2 ∨ q = 3) (l : List UInt8) (h : l.all tameB = true) : ∀ w, (feedB (q, w) l).1 = q := by
  induction l with
  | nil => intro w; rfl
  | cons c r ih =>
    intro w
    simp only [List.all_cons, Bool.and_eq_true] at h
    rw [feedB_cons, step_tame q hq w c h.1]
    exact ih h.2 []
theorem hexd_tame (d : Nat) (h : d < 16) : tameB (hexd d) = true := by
  revert h; revert d; decide
theorem hexs_tame (u k : Nat) : (hexs u k).all tameB = true := by
  induction k with
  | zero => rfl
  | succ k ih =>
    show (hexd (u / 16 ^ k % 16) :: hexs u k).all tameB = true
    rw [List.all_cons, ih, hexd_tame _ (Nat.mod_lt _ (by omega))]; rfl
theorem feed_uni (q : Nat) (hq : q = 2 ∨ q = 3) (n : Nat) (w : List UInt8) : (feedB (q, w) (uniR n)).1 = q := by
  unfold uniR
  rw [feedB_app]
  have h1 : feedB (q, w) [92, 117] = (q, []) := by
    rcases hq with rfl | rfl <;> rfl
  rw [h1]
  exact feed_tame q hq _ (by unfold pHex; exact hexs_tame _ _) []
theorem feed_quote (q : Nat) (hq : q = 2 ∨ q = 3) (m : Nat) (w : List UInt8) : (feedB (q, w) (quoteC m)).1 = q := by
  unfold quoteC
  split
  · rename_i h
    have hc : m < 128 := by unfold plainC at h; simp only [Bool.and_eq_true, decide_eq_true_eq] at h; exact h.1
    have key : ∀ c, c < 128 → plainC c = true → tameB (u8 c) = true := by decide +kernel
    exact feed_tame q hq _ (by simp [key m hc h]) w
  · split
    · rw [feedB_app]
      have h1 := feed_uni q hq (55296 + (m - 65536) / 1024) w
      generalize feedB (q, w) (uniR (55296 + (m - 65536) / 1024)) = p at h1
      obtain ⟨n, v⟩ := p
      simp only at h1
      subst h1
      exact feed_uni n hq _ v
    · exact feed_uni q hq m w
theorem feed_esc (q : Nat) (hq : q = 2 ∨ q = 3) (cs : List Int) (w : List UInt8) : (feedB (q, w) (cs.flatMap quoteI)).1 = q := by
  induction cs generalizing w with
  | nil => rfl
  | cons c r ih =>
    rw [List.flatMap_cons, feedB_app]
    have h1 := feed_quote q hq c.toNat w
    show (feedB (feedB (q, w) (quoteC c.toNat)) _).1 = q
    generalize feedB (q, w) (quoteC c.toNat) = p at h1
    obtain ⟨n, v⟩ := p
    simp only at h1
    subst h1
    exact ih v
theorem feed_end (q : Nat) (x : UInt8) (hq : (q = 2 ∧ x = 34) ∨ (q = 3 ∧ x = 39)) (s : List UInt8) : (feedB (q, []) (escR s ++ [x])).1 = 1 := by
  rw [feedB_app]
  have h1 := feed_esc q (by rcases hq with ⟨h, _⟩ | ⟨h, _⟩ <;> simp [h]) (charsR s) []
  unfold escR
  generalize feedB (q, []) ((charsR s).flatMap quoteI) = p at h1
  obtain ⟨n, v⟩ := p
  simp only at h1
  subst h1
  rcases hq with ⟨rfl, rfl⟩ | ⟨rfl, rfl⟩ <;> rfl
end Go.Proofs.YtdnmgpidfjkiaaaDoor

namespace Go.Proofs.YtdnmgpidfjkiaaaDoor
set_option linter.unusedVariables false

/-- A piece: its kind, its text, where it stands. -/
structure Pc where
  k : Int
  t : List UInt8
  p : Nat
/-- How many octets are passed up to a text's end, that one too. -/
def endsG (q : UInt8) : List UInt8 → Bool → Bool → Option Nat
  | [], _, _ => none
  | c :: r, esc, cl =>
    if esc then (endsG q r false cl).map (· + 1)
    else if c == 92 then (endsG q r true cl).map (· + 1)
    else if newlB c then none
    else if q == 47 && c == 91 then (endsG q r false true).map (· + 1)
    else if c == 93 then (endsG q r false false).map (· + 1)
    else if c == q && !cl then some 1
    else (endsG q r false cl).map (· + 1)
def outI (i : Nat) : Option Nat → Int
  | none => -1
  | some n => ((i + n : Nat) : Int)
theorem outI_map (i : Nat) (o : Option Nat) : outI i (o.map (· + 1)) = outI (i + 1) o := by
  cases o <;> simp [outI]; omega
def endsI (q : UInt8) (s : List UInt8) (a : Nat) : Int := outI (a + 1) (endsG q (s.drop (a + 1)) false false)
theorem endsG_nil (q : UInt8) (e c : Bool) : endsG q [] e c = none := by unfold endsG; rfl
theorem endsG_cons (q c : UInt8) (r : List UInt8) (esc cl : Bool) : endsG q (c :: r) esc cl =
    if esc then (endsG q r false cl).map (· + 1)
    else if c == 92 then (endsG q r true cl).map (· + 1)
    else if newlB c then none
    else if q == 47 && c == 91 then (endsG q r false true).map (· + 1)
    else if c == 93 then (endsG q r false false).map (· + 1)
    else if c == q && !cl then some 1
    else (endsG q r false cl).map (· + 1) := by rw [endsG]
theorem endsG_le (q : UInt8) (r : List UInt8) : ∀ (e c : Bool) (n : Nat), endsG q r e c = some n → 1 ≤ n ∧ n ≤ r.length := by
  induction r with
  | nil => intro e c n h; rw [endsG_nil] at h; cases h
  | cons x r ih =>
    have step : ∀ (e c : Bool) (n : Nat), (endsG q r e c).map (· + 1) = some n → 1 ≤ n ∧ n ≤ (x :: r).length := by
      intro e c n h
      cases g : endsG q r e c with
      | none => rw [g] at h; cases h
      | some m =>
        rw [g] at h
        have := ih e c m g
        simp at h
        simp; omega
    intro e c n h
    rw [endsG_cons] at h
    split at h
    · exact step _ _ _ h
    · split at h
      · exact step _ _ _ h
      · split at h
        · cases h
        · split at h
          · exact step _ _ _ h
          · split at h
            · exact step _ _ _ h
            · split at h
              · simp at h; subst h; simp
              · exact step _ _ _ h
theorem endsI_range (q : UInt8) (s : List UInt8) (a : Nat) (ha : a < s.length) : endsI q s a = -1 ∨ ((a : Int) + 1 < endsI q s a ∧ endsI q s a ≤ s.length) := by
  unfold endsI
  cases g : endsG q (s.drop (a + 1)) false false with
  | none => exact .inl rfl
  | some n =>
    have := endsG_le q _ _ _ n g
    simp at this
    right
    simp [outI]; omega
/-- May a value come behind what was cut? -/
def freshPc (P : List Pc) : Bool :=
  match P.getLast? with
  | none => true
  | some p => if p.k = 1 then wordsL.any (· == p.t) else if p.k = 2 ∨ p.k = 3 then false else if p.k = 5 then !(Lib.contains [41, 93, 125] p.t) else true
def wordE (s : List UInt8) (a : Nat) : Nat := a + ((s.drop a).takeWhile wordyB).length
/-- Where a remark up to the line's end ends; where one of more lines; where one ends. -/
def lineI (s : List UInt8) (a : Nat) : Int := if Lib.indexAny (s.drop a) [10, 13] < 0 then (s.length : Int) else (a : Int) + Lib.indexAny (s.drop a) [10, 13]
def moreI (s : List UInt8) (a : Nat) : Int := if Lib.index (s.drop (a + 2)) [42, 47] < 0 then -1 else (a : Int) + Lib.index (s.drop (a + 2)) [42, 47] + 4
def remI (s : List UInt8) (a : Nat) : Int := if Lib.hasPrefix (s.drop a) [47, 47] then lineI s a else moreI s a
theorem indexAny_ltS (chars : List UInt8) : ∀ l : List UInt8, Lib.indexAny l chars < l.length
  | [] => by show (-1 : Int) < ((0 : Nat) : Int); decide
  | b :: l => by
    have ih := indexAny_ltS chars l
    unfold Lib.indexAny
    split
    · first | (simp; done) | (simp; omega)
    · split
      · first | (simp; done) | (simp; omega)
      · simp; omega
theorem prefix_drop {s : List UInt8} {a : Nat} {x : UInt8} (h : Lib.hasPrefix (s.drop a) [47, x] = true) : a + 2 ≤ s.length ∧ ∃ r, s.drop a = 47 :: x :: r := by
  have h1 := List.isPrefixOf_iff_prefix.1 h
  have := List.IsPrefix.length_le h1
  simp at this
  obtain ⟨r, hr⟩ := h1
  exact ⟨by omega, r, hr.symm⟩
theorem remI_range {s : List UInt8} {a : Nat} (h : (Lib.hasPrefix (s.drop a) [47, 47] || Lib.hasPrefix (s.drop a) [47, 42]) = true) : remI s a = -1 ∨ ((a : Int) < remI s a ∧ remI s a ≤ s.length) := by
  unfold remI
  rcases Bool.eq_false_or_eq_true (Lib.hasPrefix (s.drop a) [47, 47]) with g | g
  · rw [if_pos g]
    obtain ⟨h2, r, hr⟩ := prefix_drop g
    have h1 := indexAny_ltS [10, 13] (s.drop a)
    have hz : Lib.indexAny (s.drop a) [10, 13] ≠ 0 := by
      rw [hr]
      unfold Lib.indexAny
      rw [if_neg (by decide)]
      have := Lib.indexAny_ge [10, 13] (47 :: r)
      split
      · decide
      · rename_i h6
        simp at h6
        omega
    have hge := Lib.indexAny_ge [10, 13] (s.drop a)
    simp at h1
    unfold lineI
    right
    split <;> omega
  · rw [if_neg (by rw [g]; decide)]
    rw [g, Bool.false_or] at h
    obtain ⟨h2, _⟩ := prefix_drop h
    have hr := Lib.index_room (s.drop (a + 2)) [42, 47]
    simp at hr
    unfold moreI
    split
    · exact .inl rfl
    · right; omega
/-- A piece's kind, and where it ends. -/
def oneR (s : List UInt8) (P : List Pc) (a : Nat) (c : UInt8) (k to : Int) : Prop :=
  if wordyB c then k = 1 ∧ to = wordE s a
  else if c == 34 || c == 39 then k = 2 ∧ to = endsI c s a
  else if c == 47 then
    (if Lib.hasPrefix (s.drop a) [47, 47] || Lib.hasPrefix (s.drop a) [47, 42] then k = 4 ∧ to = remI s a
     else if freshPc P then k = 3 ∧ to = endsI 47 s a else k = 5 ∧ to = (a : Int) + 1)
  else if c == 96 then k = 5 ∧ to = -1
  else k = 5 ∧ to = (a : Int) + 1
theorem wordE_range (s : List UInt8) (a : Nat) (c : UInt8) (hc : s[a]? = some c) (hw : wordyB c = true) : a < wordE s a ∧ wordE s a ≤ s.length := by
  have hlt : a < s.length := by
    rcases Nat.lt_or_ge a s.length with h | h
    · exact h
    · rw [List.getElem?_eq_none h] at hc; cases hc
  have hd : s.drop a = c :: s.drop (a + 1) := by
    rw [List.drop_eq_getElem_cons hlt]
    rw [List.getElem?_eq_getElem hlt] at hc
    injection hc with hc; rw [hc]
  unfold wordE
  have h2 : ((s.drop a).takeWhile wordyB).length ≤ (s.drop a).length := (List.takeWhile_sublist _).length_le
  rw [hd, List.takeWhile_cons_of_pos hw] at *
  simp at h2 ⊢
  omega
theorem oneR_range {s : List UInt8} {P : List Pc} {a : Nat} {c : UInt8} {k to : Int} (hc : s[a]? = some c) (h : oneR s P a c k to) : (1 ≤ k ∧ k ≤ 5) ∧ (to = -1 ∨ ((a : Int) < to ∧ to ≤ s.length)) := by
  have hlt : a < s.length := by
    rcases Nat.lt_or_ge a s.length with h | h
    · exact h
    · rw [List.getElem?_eq_none h] at hc; cases hc
  unfold oneR at h
  split at h
  next hw =>
    obtain ⟨rfl, rfl⟩ := h
    have := wordE_range s a c hc hw
    exact ⟨by omega, .inr (by omega)⟩
  next =>
    split at h
    next =>
      obtain ⟨rfl, rfl⟩ := h
      have := endsI_range c s a hlt
      exact ⟨by omega, by omega⟩
    next =>
      split at h
      next =>
        split at h
        next hpp =>
          obtain ⟨rfl, rfl⟩ := h
          exact ⟨by omega, remI_range hpp⟩
        next =>
          split at h
          next =>
            obtain ⟨rfl, rfl⟩ := h
            have := endsI_range 47 s a hlt
            exact ⟨by omega, by omega⟩
          next => exact ⟨by omega, .inr (by omega)⟩
      next =>
        split at h
        next => exact ⟨by omega, .inl h.2⟩
        next => exact ⟨by omega, .inr (by omega)⟩
/-- What holds at the start and from round to round holds at this place, with these pieces cut. -/
def Came (s : List UInt8) (a : Nat) (P : List Pc) : Prop :=
  ∀ Q : Nat → List Pc → Prop, Q 0 [] →
    (∀ a P c, Q a P → s[a]? = some c → isBlank c = true → Q (a + 1) P) →
    (∀ a P c k (to : Nat), Q a P → s[a]? = some c → isBlank c = false → oneR s P a c k (to : Int) → P.length < 4096 → Q to (P ++ [⟨k, (s.take to).drop a, a⟩])) →
    Q a P
theorem Came.start (s : List UInt8) : Came s 0 [] := fun Q h _ _ => h
theorem Came.blank {s : List UInt8} {a : Nat} {P : List Pc} {c : UInt8} (h : Came s a P) (hc : s[a]? = some c) (hb : isBlank c = true) : Came s (a + 1) P :=
  fun Q h0 h1 h2 => h1 a P c (h Q h0 h1 h2) hc hb
theorem Came.one {s : List UInt8} {a : Nat} {P : List Pc} {c : UInt8} {k : Int} {to : Nat} (h : Came s a P) (hc : s[a]? = some c) (hb : isBlank c = false) (ho : oneR s P a c k (to : Int)) (hn : P.length < 4096) : Came s to (P ++ [⟨k, (s.take to).drop a, a⟩]) :=
  fun Q h0 h1 h2 => h2 a P c k to (h Q h0 h1 h2) hc hb ho hn
/-- What Pieces tells: the pieces, a place, an error. -/
def Told (s : List UInt8) (P : List Pc) (n e : Int) : Prop :=
  (65536 < s.length ∧ P = [] ∧ n = 0 ∧ e = 5) ∨
  (s.length ≤ 65536 ∧ Came s s.length P ∧ n = s.length ∧ e = 0) ∨
  (s.length ≤ 65536 ∧ P = [] ∧ ∃ a c R k to, Came s a R ∧ s[a]? = some c ∧ isBlank c = false ∧ oneR s R a c k to ∧ n = (a : Nat) ∧ ((to < 0 ∧ e = 33) ∨ (0 ≤ to ∧ 4096 ≤ R.length ∧ e = 3)))
end Go.Proofs.YtdnmgpidfjkiaaaDoor

namespace Go.Proofs.YtdnmgpidfjkiaaaDoor
set_option linter.unusedVariables false

def endA (P : List Pc) : Nat := match P.getLast? with | none => 0 | some q => q.p + q.t.length
def Blanks (s : List UInt8) (a b : Nat) : Prop := ∀ j, a ≤ j → j < b → ∃ c, s[j]? = some c ∧ isBlank c = true
structure GoodAt (s : List UInt8) (a : Nat) (q : Pc) : Prop where
  le : a ≤ q.p
  blanks : Blanks s a q.p
  some_ : q.t ≠ []
  fits : q.p + q.t.length ≤ s.length
  same : (s.take (q.p + q.t.length)).drop q.p = q.t
  kind : 1 ≤ q.k ∧ q.k ≤ 5
structure Cut (s : List UInt8) (a : Nat) (P : List Pc) : Prop where
  le : a ≤ s.length
  ends : endA P ≤ a
  blanks : Blanks s (endA P) a
  each : ∀ i q, P[i]? = some q → GoodAt s (endA (P.take i)) q
theorem endA_snoc (P : List Pc) (q : Pc) : endA (P ++ [q]) = q.p + q.t.length := by simp [endA]
theorem some_lt {s : List UInt8} {a : Nat} {c : UInt8} (hc : s[a]? = some c) : a < s.length := by
  rcases Nat.lt_or_ge a s.length with h | h
  · exact h
  · rw [List.getElem?_eq_none h] at hc; cases hc
theorem came_cut {s : List UInt8} {a : Nat} {P : List Pc} (h : Came s a P) : Cut s a P := by
  refine h (Cut s) ⟨Nat.zero_le _, Nat.le_refl _, fun j h1 h2 => by omega, fun i q h => by simp at h⟩ ?_ ?_
  · intro a P c h hc hb
    refine ⟨some_lt hc, by have := h.ends; omega, fun j h1 h2 => ?_, h.each⟩
    rcases Nat.lt_or_ge j a with h3 | h3
    · exact h.blanks j h1 h3
    · obtain rfl : j = a := by omega
      exact ⟨c, hc, hb⟩
  · intro a P c k to h hc hb ho hn
    have hr := oneR_range hc ho
    have hlt := some_lt hc
    have hto : a < to ∧ to ≤ s.length := by omega
    have hl : ((s.take to).drop a).length = to - a := by simp; omega
    have he : endA (P ++ [⟨k, (s.take to).drop a, a⟩]) = to := by rw [endA_snoc]; simp only [hl]; omega
    refine ⟨hto.2, by omega, fun j h1 h2 => by omega, fun i q hq => ?_⟩
    rcases Nat.lt_or_ge i P.length with h3 | h3
    · rw [List.getElem?_append_left h3] at hq
      rw [List.take_append_of_le_length (by omega)]
      exact h.each i q hq
    · rw [List.getElem?_append_right h3] at hq
      obtain h4 : i = P.length := by
        rcases Nat.lt_or_ge (i - P.length) 1 with h5 | h5
        · omega
        · rw [List.getElem?_eq_none (by simpa using h5)] at hq; cases hq
      subst h4
      simp at hq
      subst hq
      rw [List.take_left]
      exact ⟨h.ends, h.blanks, by intro e; have := congrArg List.length e; simp only [hl] at this; simp at this; omega, by simp only [hl]; omega, by simp only [hl]; rw [show a + (to - a) = to by omega], hr.1⟩
theorem told_cut {s : List UInt8} {P : List Pc} {n e : Int} (h : Told s P n e) (hl : s.length ≤ 65536) (he : e = 0) : n = s.length ∧ Cut s s.length P := by
  rcases h with ⟨h, _⟩ | ⟨_, hC, rfl, _⟩ | ⟨_, _, a, c, R, k, to, _, _, _, _, _, h⟩
  · omega
  · exact ⟨rfl, came_cut hC⟩
  · omega
theorem told_bad {s : List UInt8} {P : List Pc} {n e : Int} (h : Told s P n e) (hl : s.length ≤ 65536) (he : e ≠ 0) : P = [] ∧ 0 ≤ n ∧ n < s.length ∧ (e = 33 ∨ e = 3) := by
  rcases h with ⟨h, _⟩ | ⟨_, hC, rfl, h⟩ | ⟨_, hP, a, c, R, k, to, _, hc, _, _, rfl, h⟩
  · omega
  · exact absurd h he
  · have := some_lt hc
    exact ⟨hP, by omega, by omega, by omega⟩
/-- The example: 'a / b'. -/
theorem told_alive {P : List Pc} {n e : Int} (h : Told [97, 32, 47, 32, 98] P n e) : n = 5 ∧ e = 0 ∧ P = [⟨1, [97], 0⟩, ⟨5, [47], 2⟩, ⟨1, [98], 4⟩] := by
  let Q : Nat → List Pc → Prop := fun a P => (a = 0 ∧ P = []) ∨ (a = 1 ∧ P = [⟨1, [97], 0⟩]) ∨ (a = 2 ∧ P = [⟨1, [97], 0⟩]) ∨ (a = 3 ∧ P = [⟨1, [97], 0⟩, ⟨5, [47], 2⟩]) ∨ (a = 4 ∧ P = [⟨1, [97], 0⟩, ⟨5, [47], 2⟩]) ∨ (a = 5 ∧ P = [⟨1, [97], 0⟩, ⟨5, [47], 2⟩, ⟨1, [98], 4⟩])
  have hQ : ∀ a P, Came [97, 32, 47, 32, 98] a P → Q a P := by
    intro a P h
    refine h Q (.inl ⟨rfl, rfl⟩) ?_ ?_
    · intro a P c hq hc hb
      rcases hq with ⟨rfl, rfl⟩ | ⟨rfl, rfl⟩ | ⟨rfl, rfl⟩ | ⟨rfl, rfl⟩ | ⟨rfl, rfl⟩ | ⟨rfl, rfl⟩ <;> simp at hc <;> (try subst hc) <;> (try (exact absurd hb (by decide)))
      · exact .inr (.inr (.inl ⟨rfl, rfl⟩))
      · exact .inr (.inr (.inr (.inr (.inl ⟨rfl, rfl⟩))))
    · intro a P c k to hq hc hb ho hn
      rcases hq with ⟨rfl, rfl⟩ | ⟨rfl, rfl⟩ | ⟨rfl, rfl⟩ | ⟨rfl, rfl⟩ | ⟨rfl, rfl⟩ | ⟨rfl, rfl⟩ <;> simp at hc <;> (try subst hc) <;> (try (exact absurd hb (by decide)))
      · have : wordE [97, 32, 47, 32, 98] 0 = 1 := by decide
        simp only [oneR, show wordyB 97 = true by decide, if_true, this] at ho
        obtain ⟨rfl, h2⟩ := ho
        obtain rfl : to = 1 := by omega
        exact .inr (.inl ⟨rfl, rfl⟩)
      · have hf : freshPc [⟨1, [97], 0⟩] = false := by decide
        have hp : (Lib.hasPrefix (List.drop 2 [97, 32, 47, 32, 98]) [47, 47] || Lib.hasPrefix (List.drop 2 [97, 32, 47, 32, 98]) [47, 42]) = false := by decide
        have : oneR [97, 32, 47, 32, 98] [⟨1, [97], 0⟩] 2 47 k to = (k = 5 ∧ (to : Int) = ((2 : Nat) : Int) + 1) := by
          unfold oneR
          rw [hf, hp]
          rfl
        rw [this] at ho
        obtain ⟨rfl, h2⟩ := ho
        obtain rfl : to = 3 := by omega
        exact .inr (.inr (.inr (.inl ⟨rfl, rfl⟩)))
      · have : wordE [97, 32, 47, 32, 98] 4 = 5 := by decide
        simp only [oneR, show wordyB 98 = true by decide, if_true, this] at ho
        obtain ⟨rfl, h2⟩ := ho
        obtain rfl : to = 5 := by omega
        exact .inr (.inr (.inr (.inr (.inr ⟨rfl, rfl⟩))))
  rcases h with ⟨h, _⟩ | ⟨_, hC, rfl, rfl⟩ | ⟨_, hP, a, c, R, k, to, hC, hc, hb, ho, rfl, h⟩
  · simp at h
  · have := hQ _ _ hC
    simp [Q] at this
    exact ⟨rfl, rfl, this⟩
  · exfalso
    have hr := oneR_range hc ho
    have := hQ _ _ hC
    rcases this with ⟨rfl, rfl⟩ | ⟨rfl, rfl⟩ | ⟨rfl, rfl⟩ | ⟨rfl, rfl⟩ | ⟨rfl, rfl⟩ | ⟨rfl, rfl⟩ <;> simp at hc <;> (try subst hc) <;> (try (exact absurd hb (by decide)))
    · have : wordE [97, 32, 47, 32, 98] 0 = 1 := by decide
      simp only [oneR, show wordyB 97 = true by decide, if_true, this] at ho
      simp at h; omega
    · have hf : freshPc [⟨1, [97], 0⟩] = false := by decide
      have hp : (Lib.hasPrefix (List.drop 2 [97, 32, 47, 32, 98]) [47, 47] || Lib.hasPrefix (List.drop 2 [97, 32, 47, 32, 98]) [47, 42]) = false := by decide
      have : oneR [97, 32, 47, 32, 98] [⟨1, [97], 0⟩] 2 47 k to = (k = 5 ∧ (to : Int) = ((2 : Nat) : Int) + 1) := by
        unfold oneR
        rw [hf, hp]
        rfl
      rw [this] at ho
      simp at h; omega
    · have : wordE [97, 32, 47, 32, 98] 4 = 5 := by decide
      simp only [oneR, show wordyB 98 = true by decide, if_true, this] at ho
      simp at h; omega
end Go.Proofs.YtdnmgpidfjkiaaaDoor

namespace Go.Proofs.YtdnmgpidfjkiaaaDoor
set_option linter.unusedVariables false

/-- An octet that a text's end passes over. -/
def calmL (c : UInt8) : Bool := !(c == 92 || (newlB c || (c == 93 || (c == 34 || c == 39))))
theorem calm_ends (q : UInt8) (hq : q = 34 ∨ q = 39) (r : List UInt8) : ∀ xs : List UInt8, xs.all calmL = true → endsG q (xs ++ r) false false = (endsG q r false false).map (· + xs.length) := by
  intro xs
  induction xs with
  | nil => intro _; simp
  | cons x xs ih =>
    intro h
    simp only [List.all_cons, Bool.and_eq_true] at h
    obtain ⟨h1, h2⟩ := h
    unfold calmL at h1
    simp only [Bool.not_eq_true', Bool.or_eq_false_iff] at h1
    obtain ⟨e1, e2, e3, e4, e5⟩ := h1
    have e6 : (x == q) = false := by rcases hq with rfl | rfl <;> assumption
    have e7 : (q == 47) = false := by rcases hq with rfl | rfl <;> rfl
    rw [List.cons_append, endsG_cons, e1, e2, e3, e6, e7, ih h2]
    cases endsG q r false false with
    | none => rfl
    | some n => simp; omega
theorem hexd_calm (d : Nat) (h : d < 16) : calmL (hexd d) = true := by
  revert h; revert d; decide
theorem hexs_calm (u k : Nat) : (hexs u k).all calmL = true := by
  induction k with
  | zero => rfl
  | succ k ih =>
    show (hexd (u / 16 ^ k % 16) :: hexs u k).all calmL = true
    rw [List.all_cons, ih, hexd_calm _ (Nat.mod_lt _ (by omega))]; rfl
theorem endsG_esc (q c : UInt8) (r : List UInt8) (cl : Bool) : endsG q (c :: r) true cl = (endsG q r false cl).map (· + 1) := by rw [endsG_cons, if_pos rfl]
theorem endsG_bs (q : UInt8) (r : List UInt8) (cl : Bool) : endsG q (92 :: r) false cl = (endsG q r true cl).map (· + 1) := by rw [endsG_cons, if_neg (by decide), if_pos (by decide)]
theorem uni_ends (q : UInt8) (hq : q = 34 ∨ q = 39) (n : Nat) (r : List UInt8) : endsG q (uniR n ++ r) false false = (endsG q r false false).map (· + (uniR n).length) := by
  have h1 : uniR n ++ r = 92 :: 117 :: (pHex (n : Int) 4 ++ r) := by unfold uniR; simp
  have h2 : endsG q (pHex (n : Int) 4 ++ r) false false = (endsG q r false false).map (· + (pHex (n : Int) 4).length) := calm_ends q hq r _ (by unfold pHex; exact hexs_calm _ _)
  rw [h1, endsG_bs, endsG_esc, h2, uniR_len, pHex4_len]
  cases endsG q r false false with
  | none => rfl
  | some n => rfl
theorem plainC_calm (c : Nat) (h : plainC c = true) : calmL (u8 c) = true := by
  have hc : c < 128 := by unfold plainC at h; simp only [Bool.and_eq_true, decide_eq_true_eq] at h; exact h.1
  have key : ∀ c, c < 128 → plainC c = true → calmL (u8 c) = true := by decide +kernel
  exact key c hc h
theorem quote_ends (q : UInt8) (hq : q = 34 ∨ q = 39) (c : Nat) (r : List UInt8) : endsG q (quoteC c ++ r) false false = (endsG q r false false).map (· + (quoteC c).length) := by
  unfold quoteC
  split
  · rename_i h
    exact calm_ends q hq r [u8 c] (by simp [plainC_calm c h])
  · split
    · rw [List.append_assoc, uni_ends q hq, uni_ends q hq, List.length_append]
      cases endsG q r false false with
      | none => rfl
      | some n => simp; omega
    · exact uni_ends q hq c r
theorem flat_ends (q : UInt8) (hq : q = 34 ∨ q = 39) (r : List UInt8) : ∀ cs : List Int, endsG q (cs.flatMap quoteI ++ r) false false = (endsG q r false false).map (· + (cs.flatMap quoteI).length) := by
  intro cs
  induction cs with
  | nil => simp
  | cons c cs ih =>
    rw [List.flatMap_cons, List.append_assoc]
    show endsG q (quoteC c.toNat ++ _) false false = _
    rw [quote_ends q hq, ih, List.length_append]
    cases endsG q r false false with
    | none => rfl
    | some n => simp [quoteI]; omega
theorem close_ends (q : UInt8) (hq : q = 34 ∨ q = 39) (r : List UInt8) : endsG q (q :: r) false false = some 1 := by
  rw [endsG_cons]
  rcases hq with rfl | rfl <;> rfl
theorem esc_ends (q : UInt8) (hq : q = 34 ∨ q = 39) (s r : List UInt8) : endsG q (escR s ++ q :: r) false false = some ((escR s).length + 1) := by
  unfold escR
  rw [flat_ends q hq, close_ends q hq]
  simp; omega
/-- A text in quotes, blanks around. -/
def quotedL (q : UInt8) (s : List UInt8) : List UInt8 := 32 :: q :: (escR s ++ [q, 32])
def quotedP (q : UInt8) (s : List UInt8) : Pc := ⟨2, q :: (escR s ++ [q]), 1⟩
theorem quotedL_len (q : UInt8) (s : List UInt8) : (quotedL q s).length = (escR s).length + 4 := by unfold quotedL; simp
theorem quoted_end (q : UInt8) (hq : q = 34 ∨ q = 39) (s : List UInt8) : endsI q (quotedL q s) 1 = (((escR s).length + 3 : Nat) : Int) := by
  unfold endsI
  have h : (quotedL q s).drop (1 + 1) = escR s ++ q :: [32] := rfl
  rw [h, esc_ends q hq]
  show (((1 + 1) + ((escR s).length + 1) : Nat) : Int) = _
  omega
theorem quoted_cut (q : UInt8) (s : List UInt8) : ((quotedL q s).take ((escR s).length + 3)).drop 1 = q :: (escR s ++ [q]) := by
  have h : quotedL q s = (32 :: q :: (escR s ++ [q])) ++ [32] := by unfold quotedL; simp
  rw [h, List.take_left' (by simp)]
  rfl
theorem quoted_at (q : UInt8) (s : List UInt8) : (quotedL q s)[0]? = some 32 ∧ (quotedL q s)[1]? = some q ∧ (quotedL q s)[(escR s).length + 3]? = some 32 := by
  refine ⟨rfl, rfl, ?_⟩
  have h : quotedL q s = (32 :: q :: (escR s ++ [q])) ++ [32] := by unfold quotedL; simp
  rw [h, List.getElem?_append_right (by simp)]
  simp
theorem quoted_one (q : UInt8) (hq : q = 34 ∨ q = 39) (s : List UInt8) (k to : Int) (P : List Pc) (h : oneR (quotedL q s) P 1 q k to) : k = 2 ∧ to = (((escR s).length + 3 : Nat) : Int) := by
  have h1 : wordyB q = false := by rcases hq with rfl | rfl <;> decide
  have h2 : (q == 34 || q == 39) = true := by rcases hq with rfl | rfl <;> rfl
  unfold oneR at h
  rw [h1, h2, if_neg (by decide), if_pos rfl, quoted_end q hq] at h
  exact h
theorem quoted_came (q : UInt8) (hq : q = 34 ∨ q = 39) (s : List UInt8) {a : Nat} {P : List Pc} (h : Came (quotedL q s) a P) :
    (a = 0 ∧ P = []) ∨ (a = 1 ∧ P = []) ∨ (a = (escR s).length + 3 ∧ P = [quotedP q s]) ∨ (a = (escR s).length + 4 ∧ P = [quotedP q s]) := by
  obtain ⟨g0, g1, g2⟩ := quoted_at q s
  have hnb : isBlank q = false := by rcases hq with rfl | rfl <;> decide
  have g3 : (quotedL q s)[(escR s).length + 4]? = none := List.getElem?_eq_none (by rw [quotedL_len]; omega)
  refine h (fun a P => (a = 0 ∧ P = []) ∨ (a = 1 ∧ P = []) ∨ (a = (escR s).length + 3 ∧ P = [quotedP q s]) ∨ (a = (escR s).length + 4 ∧ P = [quotedP q s])) (.inl ⟨rfl, rfl⟩) ?_ ?_
  · intro a P c hQ hc hb
    rcases hQ with ⟨rfl, rfl⟩ | ⟨rfl, rfl⟩ | ⟨rfl, rfl⟩ | ⟨rfl, rfl⟩
    · exact .inr (.inl ⟨rfl, rfl⟩)
    · rw [g1] at hc; injection hc with hc; subst hc; rw [hnb] at hb; cases hb
    · exact .inr (.inr (.inr ⟨rfl, rfl⟩))
    · rw [g3] at hc; cases hc
  · intro a P c k to hQ hc hb ho hn
    rcases hQ with ⟨rfl, rfl⟩ | ⟨rfl, rfl⟩ | ⟨rfl, rfl⟩ | ⟨rfl, rfl⟩
    · rw [g0] at hc; injection hc with hc; subst hc; cases hb
    · rw [g1] at hc; injection hc with hc; subst hc
      obtain ⟨rfl, ht⟩ := quoted_one q hq s _ _ _ ho
      obtain rfl : to = (escR s).length + 3 := by omega
      refine .inr (.inr (.inl ⟨rfl, ?_⟩))
      rw [quoted_cut]; rfl
    · rw [g2] at hc; injection hc with hc; subst hc; cases hb
    · rw [g3] at hc; cases hc
theorem quoted_told (q : UInt8) (hq : q = 34 ∨ q = 39) (s : List UInt8) {P : List Pc} {n e : Int} (h : Told (quotedL q s) P n e) (hl : (quotedL q s).length ≤ 65536) : e = 0 ∧ P = [quotedP q s] := by
  rcases h with ⟨h, _⟩ | ⟨_, hC, _, rfl⟩ | ⟨_, _, a, c, R, k, to, hC, hc, hb, ho, _, h⟩
  · omega
  · rcases quoted_came q hq s hC with ⟨h1, _⟩ | ⟨h1, _⟩ | ⟨h1, _⟩ | ⟨_, h2⟩
    · rw [quotedL_len] at h1; omega
    · rw [quotedL_len] at h1; omega
    · rw [quotedL_len] at h1; omega
    · exact ⟨rfl, h2⟩
  · exfalso
    obtain ⟨g0, g1, g2⟩ := quoted_at q s
    have g3 : (quotedL q s)[(escR s).length + 4]? = none := List.getElem?_eq_none (by rw [quotedL_len]; omega)
    rcases quoted_came q hq s hC with ⟨rfl, rfl⟩ | ⟨rfl, rfl⟩ | ⟨rfl, rfl⟩ | ⟨rfl, rfl⟩
    · rw [g0] at hc; injection hc with hc; subst hc; cases hb
    · rw [g1] at hc; injection hc with hc; subst hc
      obtain ⟨_, ht⟩ := quoted_one q hq s _ _ _ ho
      simp at h; omega
    · rw [g2] at hc; injection hc with hc; subst hc; cases hb
    · rw [g3] at hc; cases hc
end Go.Proofs.YtdnmgpidfjkiaaaDoor

namespace Go.Proofs.YtdnmgpidfjkiaaaDoor
set_option linter.unusedVariables false

/-- A list of texts that an attribute is held against, one by one. -/
def isOneOf (a : List UInt8) : List (List UInt8) → Bool
  | [] => false
  | x :: r => (a == x) || isOneOf a r
def urlAttrs : List (List UInt8) := [[104, 114, 101, 102], [115, 114, 99], [97, 99, 116, 105, 111, 110], [102, 111, 114, 109, 97, 99, 116, 105, 111, 110], [99, 105, 116, 101], [112, 111, 115, 116, 101, 114], [98, 97, 99, 107, 103, 114, 111, 117, 110, 100], [108, 111, 110, 103, 100, 101, 115, 99], [109, 97, 110, 105, 102, 101, 115, 116], [105, 99, 111, 110]]
def barredAttrs : List (List UInt8) := [[115, 114, 99, 100, 111, 99], [115, 114, 99, 115, 101, 116], [104, 116, 116, 112, 45, 101, 113, 117, 105, 118], [112, 105, 110, 103], []]
/-- What tables.Attribute answers. -/
def attrK (e a : List UInt8) : Int :=
  if isOneOf a urlAttrs then 1
  else if a == [100, 97, 116, 97] then (if e == [111, 98, 106, 101, 99, 116] then 1 else 0)
  else if a == [115, 116, 121, 108, 101] then 3
  else if isOneOf a barredAttrs then 4
  else if Lib.hasPrefix a [111, 110] then 2
  else if Lib.hasPrefix a [120, 109, 108, 110, 115] then 4
  else 0
theorem attrK_range (e a : List UInt8) : 0 ≤ attrK e a ∧ attrK e a ≤ 4 := by
  unfold attrK
  repeat' split
  all_goals omega
end Go.Proofs.YtdnmgpidfjkiaaaDoor

namespace Go.Proofs.YtdnmgpidfjkiaaaDoor
set_option linter.unusedVariables false

theorem get_mk (l : List UInt8) (i : Nat) : (⟨l.toArray⟩ : ByteArray).get! i = l.getD i 0 := by
  show (l.toArray)[i]! = _
  simp [List.getD]
  rfl
theorem u8_is {n : Nat} {b : UInt8} (h : b.toNat = n) : u8 n = b := by
  apply UInt8.toNat_inj.1
  have := b.toNat_lt
  rw [u8_toNat (by omega), h]
theorem enc1 {v : Nat} {b : UInt8} (h : v < 128) (h0 : b.toNat = v) : encR v = [b] := by unfold encR; rw [if_pos h, u8_is h0]
theorem enc2 {v : Nat} {b b1 : UInt8} (h : 128 ≤ v) (h' : v < 2048) (h0 : b.toNat = 192 + v / 64) (h1 : b1.toNat = 128 + v % 64) : encR v = [b, b1] := by
  unfold encR; rw [if_neg (by omega), if_pos h', u8_is h0, u8_is h1]
theorem enc3 {v : Nat} {b b1 b2 : UInt8} (h : 2048 ≤ v) (h' : v < 65536) (h0 : b.toNat = 224 + v / 4096) (h1 : b1.toNat = 128 + v / 64 % 64) (h2 : b2.toNat = 128 + v % 64) : encR v = [b, b1, b2] := by
  unfold encR; rw [if_neg (by omega), if_neg (by omega), if_pos h', u8_is h0, u8_is h1, u8_is h2]
theorem enc4 {v : Nat} {b b1 b2 b3 : UInt8} (h : 65536 ≤ v) (h0 : b.toNat = 240 + v / 262144) (h1 : b1.toNat = 128 + v / 4096 % 64) (h2 : b2.toNat = 128 + v / 64 % 64) (h3 : b3.toNat = 128 + v % 64) : encR v = [b, b1, b2, b3] := by
  unfold encR; rw [if_neg (by omega), if_neg (by omega), if_neg (by omega), u8_is h0, u8_is h1, u8_is h2, u8_is h3]
theorem enc_short2 {v : Nat} (h : v < 2048) : (encR v).length ≤ 2 := by unfold encR; (repeat' split) <;> simp <;> omega
theorem enc_short3 {v : Nat} (h : v < 65536) : (encR v).length ≤ 3 := by unfold encR; (repeat' split) <;> simp <;> omega
theorem contB_iff (x : UInt8) : contB x = true ↔ x.toNat / 64 = 2 := by
  have := x.toNat_lt
  unfold contB; simp; omega
def goD (l : List UInt8) : Nat × Nat := Lib.decodeN l.length (l.getD 0 0).toNat (l.getD 1 0).toNat (l.getD 2 0).toNat (l.getD 3 0).toNat
/-- What utf8 tells of the page's answer. -/
def tell (p : Int × Nat) : Nat × Nat := (if p.1 < 0 then 65533 else p.1.toNat, p.2)
theorem tell_nat (v n : Nat) : tell ((v : Int), n) = (v, n) := by unfold tell; rw [if_neg (by simp)]; rfl
theorem contB_no {x : UInt8} (h : ¬ x.toNat / 64 = 2) : contB x = false := by
  rcases Bool.eq_false_or_eq_true (contB x) with e | e
  · exact absurd ((contB_iff x).1 e) h
  · exact e
theorem goD_one (b : UInt8) (r : List UInt8) (h : b.toNat < 128) : goD (b :: r) = (b.toNat, 1) ∧ decR (b :: r) = ((b.toNat : Int), 1) := by
  constructor
  · unfold goD Lib.decodeN
    rw [if_pos (by simpa using h)]; simp
  · rw [decR_cons]
    have hs : sizeR b = 1 := by unfold sizeR; rw [if_pos h]
    have hm : b.toNat % maskR 1 = b.toNat := by unfold maskR; simp; omega
    simp only [hs, Nat.sub_self, List.take_zero, List.all_nil, hm, accR, List.foldl_nil]
    rw [if_neg (by omega), if_neg (by simp), if_pos]
    refine ⟨?_, enc1 h rfl⟩
    unfold badC; simp; omega
theorem decR_bad0 (b : UInt8) (r : List UInt8) (h : sizeR b = 0 ∨ r.length + 1 < sizeR b) : decR (b :: r) = (-1, 1) := by rw [decR_cons, if_pos h]
theorem decR_badc (b : UInt8) (r : List UInt8) (h : (r.take (sizeR b - 1)).all contB = false) : decR (b :: r) = (-1, 1) := by
  rw [decR_cons]
  by_cases h0 : sizeR b = 0 ∨ r.length + 1 < sizeR b
  · rw [if_pos h0]
  · rw [if_neg h0, if_pos h]
theorem decR_val (b : UInt8) (r : List UInt8) (n v : Nat) (hn : sizeR b = n) (h0 : n ≠ 0) (h1 : n ≤ r.length + 1) (hc : (r.take (n - 1)).all contB = true) (hv : accR (b.toNat % maskR n) (r.take (n - 1)) = v) :
    decR (b :: r) = if badC (v : Nat) = false ∧ encR v = b :: r.take (n - 1) then ((v : Int), n) else (-1, 1) := by
  rw [decR_cons]
  simp only [hn, hv]
  rw [if_neg (by omega), if_neg (by rw [hc]; simp)]
theorem goD_zero (b : UInt8) (r : List UInt8) (h : 128 ≤ b.toNat) (hs : sizeR b = 0) : goD (b :: r) = (65533, 1) := by
  have hb : b.toNat < 194 ∨ 245 ≤ b.toNat := by
    unfold sizeR at hs
    rw [if_neg (by omega)] at hs
    by_cases h1 : 194 ≤ b.toNat ∧ b.toNat < 224
    · rw [if_pos h1] at hs; omega
    · rw [if_neg h1] at hs
      by_cases h2 : 224 ≤ b.toNat ∧ b.toNat < 240
      · rw [if_pos h2] at hs; omega
      · rw [if_neg h2] at hs
        by_cases h3 : 240 ≤ b.toNat ∧ b.toNat < 245
        · rw [if_pos h3] at hs; omega
        · omega
  have hlt := b.toNat_lt
  unfold goD Lib.decodeN
  simp only [List.getD_cons_zero]
  generalize (List.getD (b :: r) 1 0).toNat = b1
  generalize (List.getD (b :: r) 2 0).toNat = b2
  generalize (List.getD (b :: r) 3 0).toNat = b3
  repeat' split
  all_goals first | (exfalso; omega) | rfl
theorem size_cases (b : UInt8) (h : 128 ≤ b.toNat) : (sizeR b = 2 ∧ 194 ≤ b.toNat ∧ b.toNat < 224) ∨ (sizeR b = 3 ∧ 224 ≤ b.toNat ∧ b.toNat < 240) ∨ (sizeR b = 4 ∧ 240 ≤ b.toNat ∧ b.toNat < 245) ∨ sizeR b = 0 := by
  unfold sizeR
  rw [if_neg (by omega)]
  by_cases h1 : 194 ≤ b.toNat ∧ b.toNat < 224
  · rw [if_pos h1]; exact .inl ⟨rfl, h1⟩
  · rw [if_neg h1]
    by_cases h2 : 224 ≤ b.toNat ∧ b.toNat < 240
    · rw [if_pos h2]; exact .inr (.inl ⟨rfl, h2⟩)
    · rw [if_neg h2]
      by_cases h3 : 240 ≤ b.toNat ∧ b.toNat < 245
      · rw [if_pos h3]; exact .inr (.inr (.inl ⟨rfl, h3⟩))
      · rw [if_neg h3]; exact .inr (.inr (.inr rfl))
theorem goD_two (b : UInt8) (r : List UInt8) (hs : sizeR b = 2) (l0 : 194 ≤ b.toNat) (l1 : b.toNat < 224) : goD (b :: r) = tell (decR (b :: r)) := by
  match r with
  | [] =>
    rw [decR_bad0 b [] (by simp [hs])]
    show Lib.decodeN 1 b.toNat 0 0 0 = (65533, 1)
    unfold Lib.decodeN
    repeat' split
    all_goals first | (exfalso; omega) | rfl
  | b1 :: r =>
    have t1 := b1.toNat_lt
    have hL : ∃ b2 b3 : Nat, goD (b :: b1 :: r) = Lib.decodeN (r.length + 2) b.toNat b1.toNat b2 b3 := ⟨_, _, rfl⟩
    obtain ⟨b2, b3, hL⟩ := hL
    rw [hL]
    by_cases hc : b1.toNat / 64 = 2
    · rw [decR_val b (b1 :: r) 2 (b.toNat % 32 * 64 + (b1.toNat - 128)) hs (by omega) (by simp) (by simp [contB_iff, hc]) rfl]
      have hv : b.toNat % 32 * 64 + (b1.toNat - 128) = b.toNat % 32 * 64 + b1.toNat % 64 := by omega
      rw [hv, if_pos ⟨by unfold badC; simp; omega, enc2 (by omega) (by omega) (by omega) (by omega)⟩]
      rw [tell_nat]
      unfold Lib.decodeN
      repeat' split
      all_goals first | (exfalso; omega) | rfl
    · rw [decR_badc b (b1 :: r) (by rw [hs]; simp [contB_no hc])]
      show _ = (65533, 1)
      unfold Lib.decodeN
      repeat' split
      all_goals first | (exfalso; omega) | rfl
theorem goD_three (b : UInt8) (r : List UInt8) (hs : sizeR b = 3) (l0 : 224 ≤ b.toNat) (l1 : b.toNat < 240) : goD (b :: r) = tell (decR (b :: r)) := by
  match r with
  | [] =>
    rw [decR_bad0 b [] (by simp [hs])]
    show Lib.decodeN 1 b.toNat  0 0 0 = (65533, 1)
    unfold Lib.decodeN
    repeat' split
    all_goals first | (exfalso; omega) | rfl
  | [b1] =>
    rw [decR_bad0 b [b1] (by simp [hs])]
    show Lib.decodeN 2 b.toNat b1.toNat 0 0 = (65533, 1)
    unfold Lib.decodeN
    repeat' split
    all_goals first | (exfalso; omega) | rfl
  | b1 :: b2 :: r =>
    have t1 := b1.toNat_lt
    have t2 := b2.toNat_lt
    have hL : ∃ b3 : Nat, goD (b :: b1 :: b2 :: r) = Lib.decodeN (r.length + 3) b.toNat b1.toNat b2.toNat b3 := ⟨_, rfl⟩
    obtain ⟨b3, hL⟩ := hL
    rw [hL]
    by_cases hc : b1.toNat / 64 = 2 ∧ b2.toNat / 64 = 2
    · obtain ⟨h1, h2⟩ := hc
      rw [decR_val b (b1 :: b2 :: r) 3 ((b.toNat % 16 * 64 + (b1.toNat - 128)) * 64 + (b2.toNat - 128)) hs (by omega) (by simp) (by simp [contB_iff, h1, h2]) rfl]
      have hv : (b.toNat % 16 * 64 + (b1.toNat - 128)) * 64 + (b2.toNat - 128) = b.toNat % 16 * 4096 + b1.toNat % 64 * 64 + b2.toNat % 64 := by omega
      have p0 : b.toNat = 224 + b.toNat % 16 := by omega
      have p1 : b1.toNat = 128 + b1.toNat % 64 := by omega
      have p2 : b2.toNat = 128 + b2.toNat % 64 := by omega
      rw [hv]
      generalize hV : b.toNat % 16 * 4096 + b1.toNat % 64 * 64 + b2.toNat % 64 = v
      by_cases hg : 2048 ≤ v ∧ (v < 55296 ∨ 57343 < v)
      · rw [if_pos ⟨by unfold badC; simp; omega, by
          show encR v = [b, b1, b2]
          exact enc3 (by omega) (by omega) (by omega) (by omega) (by omega)⟩, tell_nat]
        subst hV
        unfold Lib.decodeN
        repeat' split
        all_goals first | (exfalso; omega) | rfl
      · have hno : ¬ (badC (v : Nat) = false ∧ encR v = b :: (b1 :: b2 :: r).take (3 - 1)) := by
          rintro ⟨g1, g2⟩
          have g3 := congrArg List.length g2
          simp at g3
          unfold badC at g1
          simp at g1
          by_cases h4 : v < 2048
          · have := enc_short2 h4; omega
          · omega
        rw [if_neg hno]
        show _ = (65533, 1)
        unfold Lib.decodeN
        repeat' split
        all_goals first | (exfalso; omega) | rfl
    · rw [decR_badc b (b1 :: b2 :: r) (by
        rw [hs]
        rcases Bool.eq_false_or_eq_true (((b1 :: b2 :: r).take (3 - 1)).all contB) with e | e
        · simp [contB_iff] at e; exact absurd e hc
        · exact e)]
      show _ = (65533, 1)
      unfold Lib.decodeN
      repeat' split
      all_goals first | (exfalso; omega) | rfl
theorem goD_four (b : UInt8) (r : List UInt8) (hs : sizeR b = 4) (l0 : 240 ≤ b.toNat) (l1 : b.toNat < 245) : goD (b :: r) = tell (decR (b :: r)) := by
  match r with
  | [] =>
    rw [decR_bad0 b [] (by simp [hs])]
    show Lib.decodeN 1 b.toNat  0 0 0 = (65533, 1)
    unfold Lib.decodeN
    repeat' split
    all_goals first | (exfalso; omega) | rfl
  | [b1] =>
    rw [decR_bad0 b [b1] (by simp [hs])]
    show Lib.decodeN 2 b.toNat b1.toNat 0 0 = (65533, 1)
    unfold Lib.decodeN
    repeat' split
    all_goals first | (exfalso; omega) | rfl
  | [b1, b2] =>
    rw [decR_bad0 b [b1, b2] (by simp [hs])]
    show Lib.decodeN 3 b.toNat b1.toNat b2.toNat 0 = (65533, 1)
    unfold Lib.decodeN
    repeat' split
    all_goals first | (exfalso; omega) | rfl
  | b1 :: b2 :: b3 :: r =>
    have t1 := b1.toNat_lt
    have t2 := b2.toNat_lt
    have t3 := b3.toNat_lt
    have hL : goD (b :: b1 :: b2 :: b3 :: r) = Lib.decodeN (r.length + 4) b.toNat b1.toNat b2.toNat b3.toNat := rfl
    rw [hL]
    by_cases hc : b1.toNat / 64 = 2 ∧ b2.toNat / 64 = 2 ∧ b3.toNat / 64 = 2
    · obtain ⟨h1, h2, h3⟩ := hc
      rw [decR_val b (b1 :: b2 :: b3 :: r) 4 (((b.toNat % 8 * 64 + (b1.toNat - 128)) * 64 + (b2.toNat - 128)) * 64 + (b3.toNat - 128)) hs (by omega) (by simp) (by simp [contB_iff, h1, h2, h3]) rfl]
      have hv : ((b.toNat % 8 * 64 + (b1.toNat - 128)) * 64 + (b2.toNat - 128)) * 64 + (b3.toNat - 128) = b.toNat % 8 * 262144 + b1.toNat % 64 * 4096 + b2.toNat % 64 * 64 + b3.toNat % 64 := by omega
      have p0 : b.toNat = 240 + b.toNat % 8 := by omega
      have p1 : b1.toNat = 128 + b1.toNat % 64 := by omega
      have p2 : b2.toNat = 128 + b2.toNat % 64 := by omega
      have p3 : b3.toNat = 128 + b3.toNat % 64 := by omega
      rw [hv]
      generalize hV : b.toNat % 8 * 262144 + b1.toNat % 64 * 4096 + b2.toNat % 64 * 64 + b3.toNat % 64 = v
      by_cases hg : 65536 ≤ v ∧ v ≤ 1114111
      · rw [if_pos ⟨by unfold badC; simp; omega, by
          show encR v = [b, b1, b2, b3]
          exact enc4 (by omega) (by omega) (by omega) (by omega) (by omega)⟩, tell_nat]
        subst hV
        unfold Lib.decodeN
        repeat' split
        all_goals first | (exfalso; omega) | rfl
      · have hno : ¬ (badC (v : Nat) = false ∧ encR v = b :: (b1 :: b2 :: b3 :: r).take (4 - 1)) := by
          rintro ⟨g1, g2⟩
          have g3 := congrArg List.length g2
          simp at g3
          unfold badC at g1
          simp at g1
          by_cases h4 : v < 65536
          · have := enc_short3 h4; omega
          · omega
        rw [if_neg hno]
        show _ = (65533, 1)
        unfold Lib.decodeN
        repeat' split
        all_goals first | (exfalso; omega) | rfl
    · rw [decR_badc b (b1 :: b2 :: b3 :: r) (by
        rw [hs]
        rcases Bool.eq_false_or_eq_true (((b1 :: b2 :: b3 :: r).take (4 - 1)).all contB) with e | e
        · simp [contB_iff] at e; exact absurd e hc
        · exact e)]
      show _ = (65533, 1)
      unfold Lib.decodeN
      repeat' split
      all_goals first | (exfalso; omega) | rfl
theorem goD_tell (b : UInt8) (r : List UInt8) : goD (b :: r) = tell (decR (b :: r)) := by
  by_cases h : b.toNat < 128
  · obtain ⟨h1, h2⟩ := goD_one b r h
    rw [h1, h2, tell_nat]
  · rcases size_cases b (by omega) with ⟨hs, l0, l1⟩ | ⟨hs, l0, l1⟩ | ⟨hs, l0, l1⟩ | hs
    · exact goD_two b r hs l0 l1
    · exact goD_three b r hs l0 l1
    · exact goD_four b r hs l0 l1
    · rw [goD_zero b r (by omega) hs, decR_bad0 b r (.inl hs)]; rfl
theorem decGo (l : List UInt8) : Lib.decodeGo ⟨l.toArray⟩ = tell (decR l) := by
  cases l with
  | nil => rfl
  | cons b r =>
    unfold Lib.decodeGo
    have hz : (⟨(b :: r).toArray⟩ : ByteArray).size = r.length + 1 := by simp [ByteArray.size]
    rw [if_neg (by omega), Lib.decode_at, get_mk, get_mk, get_mk, get_mk, hz]
    exact goD_tell b r
end Go.Proofs.YtdnmgpidfjkiaaaDoor
