/-
  jslex: more, line, fresh, slash, one.
-/
import Derived.Test.YtdnmgpidfjkiaaaDoorLexB
import Derived.Test.YtdnmgpidfjkiaaaDoorLexC
import Derived.Test.YtdnmgpidfjkiaaaDoorM7
import Derived.Deep.RegionWith
namespace Go.Proofs.YtdnmgpidfjkiaaaDoor
open Go.RowKit
set_option linter.unusedVariables false
set_option linter.unusedSimpArgs false

/-- What the walks read of the library's variables. -/
structure LexW (w : World) : Prop where
  tab : Lib.TabIs Tryd.prog w "strings.asciiSpace" .u8 Lib.asciiSpaceTab
  len : ∃ m, w.cell? ⟨0, 0, none⟩ = some (.int .i64 m)
  lt : 0 < w.heap.size
theorem LexW.below {w w' : World} (h : LexW w) (hb : Below w.heap.size w w') : LexW w' :=
  ⟨tabs_below gSpace h.tab hb, by obtain ⟨m, hm⟩ := h.len; exact ⟨m, (hb.cell (p := ⟨0, 0, none⟩) h.lt).trans hm⟩, Nat.lt_of_lt_of_le h.lt hb.size⟩
theorem LexW.drewN {w : World} (h : LexW w) (n : Nat) : LexW (w.drewN n) := h.below (below_drewN (Below.refl _ _) n)
theorem toL (s : List UInt8) : (⟨s.toArray⟩ : ByteArray).data.toList = s := rfl
theorem nl_low : TwoLow ⟨#[10, 13]⟩ := ⟨rfl, fun i h => by
  have : i = 0 ∨ i = 1 := by have : i < 2 := h; omega
  rcases this with rfl | rfl
  · exact (by decide : (10 : UInt8).toNat < 128)
  · exact (by decide : (13 : UInt8).toNat < 128)⟩
def pcCells (P : List Pc) : List Value := P.flatMap fun q => [.int .i64 q.k, .string ⟨q.t.toArray⟩, .int .i64 (q.p : Int)]
theorem pcCells_snoc (P : List Pc) (q : Pc) : pcCells (P ++ [q]) = pcCells P ++ [.int .i64 q.k, .string ⟨q.t.toArray⟩, .int .i64 (q.p : Int)] := by simp [pcCells]
theorem pcCells_len (P : List Pc) : (pcCells P).length = P.length * 3 := by
  induction P with
  | nil => rfl
  | cons q P ih =>
    have : pcCells (q :: P) = [.int .i64 q.k, .string ⟨q.t.toArray⟩, .int .i64 (q.p : Int)] ++ pcCells P := rfl
    rw [this, List.length_append, ih]; simp; omega
theorem pcCells_get (P : List Pc) : ∀ (i : Nat) (q : Pc), P[i]? = some q → (pcCells P)[i * 3]? = some (.int .i64 q.k) ∧ (pcCells P)[i * 3 + 1]? = some (.string ⟨q.t.toArray⟩) ∧ (pcCells P)[i * 3 + 2]? = some (.int .i64 (q.p : Int)) := by
  induction P with
  | nil => intro i q h; simp at h
  | cons x P ih =>
    intro i q h
    have e : pcCells (x :: P) = .int .i64 x.k :: .string ⟨x.t.toArray⟩ :: .int .i64 (x.p : Int) :: pcCells P := rfl
    rw [e]
    cases i with
    | zero => simp at h; subst h; exact ⟨rfl, rfl, rfl⟩
    | succ i =>
      have := ih i q (by simpa using h)
      rw [show (i + 1) * 3 = i * 3 + 1 + 1 + 1 by omega]
      simpa using this
theorem lt_of_heapL {w : World} {g : Nat} {o : Obj} (h : w.heap[g]? = some o) : g < w.heap.size := (Array.getElem?_eq_some_iff.1 h).1
theorem zaddL (g j : Nat) : (⟨g, 0, none⟩ : Addr).add j = ⟨g, j, none⟩ := by unfold Addr.add; split <;> simp_all
theorem own_pc {w : World} {base : Nat} {v : Value} {P : List Pc} (h : w.ownsRow base 44 3 v P.length (pcCells P)) (i : Nat) (q : Pc) (hq : P[i]? = some q) :
    ∃ g cap, v = .slice (some ⟨g, 0, none⟩) P.length cap ∧ g < w.heap.size ∧ w.cell? ⟨g, i * 3, none⟩ = some (.int .i64 q.k) ∧ w.cell? ⟨g, i * 3 + 1, none⟩ = some (.string ⟨q.t.toArray⟩) ∧ w.cell? ⟨g, i * 3 + 2, none⟩ = some (.int .i64 (q.p : Int)) := by
  have hi : i < P.length := by
    rcases Nat.lt_or_ge i P.length with h1 | h1
    · exact h1
    · rw [List.getElem?_eq_none h1] at hq; cases hq
  obtain ⟨h1, h2, h3⟩ := pcCells_get P i q hq
  obtain ⟨g, cap, rfl, hlt⟩ : ∃ g cap, v = .slice (some ⟨g, 0, none⟩) P.length cap ∧ g < w.heap.size := by
    rcases h.2 with ⟨_, hn⟩ | ⟨g, cap, cur, hv, _, hg, _⟩
    · exact absurd hn (by omega)
    · exact ⟨g, cap, hv, lt_of_heapL hg⟩
  have hc := h.cells (g := g) rfl
  refine ⟨g, cap, rfl, hlt, ?_, ?_, ?_⟩
  · have := hc (i * 3) _ h1
    rw [zaddL] at this; exact this
  · have := hc (i * 3 + 1) _ h2
    rw [zaddL] at this; exact this
  · have := hc (i * 3 + 2) _ h3
    rw [zaddL] at this; exact this
set_option maxHeartbeats 400000 in
set_option maxRecDepth 100000 in
theorem more_any (s : List UInt8) (b : Nat) (v1 v2 : Value) (a : Nat) (w : World) (hk : Blk w b 72 #[.string ⟨s.toArray⟩, v1, v2]) (ha : a + 2 ≤ s.length) (hz : s.length ≤ 65536) (hL : LexW w) :
    Calls Tryd.prog 105 #[.pointer (some ⟨b, 0, none⟩), .int .i64 (a : Int)] w fun e w' => e = .returned (.int .i64 (moreI s a)) ∧ Below w.heap.size w w' := by
  obtain ⟨m, hm⟩ := hL.len
  have c0 := hk.cell 0
  simp at c0
  have hsz : (⟨s.toArray⟩ : ByteArray).size = s.length := mk_size s
  obtain ⟨T, hT⟩ : ∃ T, (⟨s.toArray⟩ : ByteArray).extract (a + 2) s.length = T := ⟨_, rfl⟩
  have hTz : T.size = s.length - (a + 2) := by rw [← hT, ByteArray.size_extract, hsz]; omega
  have cI := fun w hm => Tryd.strings_Index T ⟨#[42, 47]⟩ m w (by omega) hm
  have h1 := Lib.index_ge T.data.toList (⟨#[42, 47]⟩ : ByteArray).data.toList
  have h2 : 0 ≤ Lib.index T.data.toList (⟨#[42, 47]⟩ : ByteArray).data.toList → Lib.index T.data.toList (⟨#[42, 47]⟩ : ByteArray).data.toList + 2 ≤ T.data.toList.length := Lib.index_room _ _
  rw [size_list] at h2
  have hTd : T.data.toList = s.drop (a + 2) := by
    rw [← hT, ← Lib.toList_data, Lib.extract_toList]
    show (s.drop (a + 2)).take (s.length - (a + 2)) = _
    rw [List.take_of_length_le (by simp)]
  have hmi : moreI s a = if Lib.index T.data.toList (⟨#[42, 47]⟩ : ByteArray).data.toList < 0 then -1 else (a : Int) + Lib.index T.data.toList (⟨#[42, 47]⟩ : ByteArray).data.toList + 4 := by
    unfold moreI
    rw [hTd]
  clear hTd
  generalize Lib.index T.data.toList (⟨#[42, 47]⟩ : ByteArray).data.toList = r at cI h1 h2 hmi
  have HMI := hide hmi
  clear hmi
  have cI := hide (cI w hm)
  have ha2 : (a : Int) + 2 ≤ (s.length : Int) := by omega
  have hT := hide hT
  clear hL hm
  go_enter Tryd.func105, Tryd.ntmps105
  go_wp2_with fail
  (try rw [hT.out])
  refine (cI.out).mono ?_
  rintro e w1 ⟨rfl, hw⟩
  rw [hw]
  by_cases hr : r < 0
  · have HM2 := hide (HMI.out.trans (if_pos hr))
    go_wp2_with fail
    go_ret
    exact ⟨by rw [HM2.out]; rfl, Below.refl _ _⟩
  · have HM2 := hide (HMI.out.trans (if_neg hr))
    go_wp2_with fail
    go_ret
    exact ⟨by rw [HM2.out]; rfl, Below.refl _ _⟩
set_option maxHeartbeats 400000 in
set_option maxRecDepth 100000 in
theorem line_any (s : List UInt8) (b : Nat) (v1 v2 : Value) (a : Nat) (w : World) (hk : Blk w b 72 #[.string ⟨s.toArray⟩, v1, v2]) (ha : a < s.length) (hz : s.length ≤ 65536)
    (h0 : s[a]? = some 47) :
    Calls Tryd.prog 104 #[.pointer (some ⟨b, 0, none⟩), .int .i64 (a : Int)] w fun e w' => e = .returned (.int .i64 (lineI s a)) ∧ Below w.heap.size w w' := by
  have c0 := hk.cell 0
  simp at c0
  have hsz : (⟨s.toArray⟩ : ByteArray).size = s.length := mk_size s
  obtain ⟨T, hT⟩ : ∃ T, (⟨s.toArray⟩ : ByteArray).extract a s.length = T := ⟨_, rfl⟩
  have hTz : T.size = s.length - a := by rw [← hT, ByteArray.size_extract, hsz]; omega
  have hTd : T.data.toList = s.drop a := by
    rw [← hT, ← Lib.toList_data, Lib.extract_toList]
    show (s.drop a).take (s.length - a) = _
    rw [List.take_of_length_le (by simp)]
  have cI := indexAny_nl ⟨#[10, 13]⟩ nl_low rfl T (by omega) w
  have hli : lineI s a = if Lib.indexAny T.data.toList [10, 13] < 0 then (s.length : Int) else (a : Int) + Lib.indexAny T.data.toList [10, 13] := by
    unfold lineI
    rw [hTd]
  have hr1 := Lib.indexAny_ge [10, 13] T.data.toList
  have hr2 := indexAny_ltS [10, 13] T.data.toList
  rw [size_list] at hr2
  clear hTd
  generalize Lib.indexAny T.data.toList [10, 13] = r at cI hli hr1 hr2
  have HMI := hide hli
  clear hli
  have cI := hide cI
  have ha2 : (a : Int) ≤ (s.length : Int) := by omega
  have hT := hide hT
  have HK := hide hk
  clear hk
  go_enter Tryd.func104, Tryd.ntmps104
  go_wp2_with fail
  (try rw [hT.out])
  refine (cI.out).mono ?_
  rintro e w1 ⟨rfl, hb⟩
  have c1 := (HK.out.below hb HK.out.lt).cell 0
  simp at c1
  by_cases hr : r < 0
  · have HM2 := hide (HMI.out.trans (if_pos hr))
    go_wp2_with fail
    go_ret
    exact ⟨by rw [HM2.out]; rfl, hb⟩
  · have HM2 := hide (HMI.out.trans (if_neg hr))
    go_wp2_with fail
    go_ret
    exact ⟨by rw [HM2.out]; rfl, hb⟩
theorem words_in (t : List UInt8) : Lib.containsS (wordsT.take 12) ⟨t.toArray⟩ = wordsL.any (· == t) := by
  rw [← words_any, Bool.eq_iff_iff, Lib.containsS_iff, List.any_eq_true]
  constructor
  · intro h
    exact ⟨_, h, by simp⟩
  · rintro ⟨x, hx, he⟩
    have : x = ⟨t.toArray⟩ := by
      apply ByteArray.ext
      have := eq_of_beq he
      rw [ByteArray.toList_eq, ByteArray.toList_eq] at this
      exact Array.toList_inj.1 this
    rw [← this]
    exact hx
theorem freshB_nil : freshPc [] = true := rfl
theorem freshB_snoc (P : List Pc) (p : Pc) : freshPc (P ++ [p]) = if p.k = 1 then wordsL.any (· == p.t) else if p.k = 2 ∨ p.k = 3 then false else if p.k = 5 then !(Lib.contains [41, 93, 125] p.t) else true := by
  unfold freshPc
  rw [List.getLast?_concat]
theorem words_cells (W : World) : ∀ j, j < wordsT.length → (W.alloc (.cells (wordsT.map Value.string).toArray 9)).cell? ⟨W.heap.size, 0 + j, none⟩ = some (.string (wordsT.getD j ByteArray.empty)) := by
  intro j hj
  have h := (Blk.new W 9 (wordsT.map Value.string).toArray).cell (0 + j)
  rw [h, Nat.zero_add]
  simp only [List.getElem?_toArray, List.getElem?_map, List.getElem?_eq_getElem hj, Option.map_some, List.getD_eq_getElem?_getD, Option.getD_some]
set_option maxHeartbeats 2000000 in
set_option maxRecDepth 100000 in
theorem freshPc_any (P : List Pc) (b : Nat) (v0 v1 o : Value) (base : Nat) (w : World) (hk : Blk w b 72 #[v0, v1, o]) (hown : w.ownsRow base 44 3 o P.length (pcCells P)) (hP : ∀ q ∈ P, 1 ≤ q.k ∧ q.k ≤ 5) (hz : P.length ≤ 65536) (hL : LexW w) :
    Calls Tryd.prog 106 #[.pointer (some ⟨b, 0, none⟩)] w fun e w' => e = .returned (.bool (freshPc P)) ∧ Below w.heap.size w w' := by
  have c2 := hk.cell 2
  simp at c2
  have hbl := hk.lt
  rcases List.eq_nil_or_concat P with rfl | ⟨P0, p, hPe⟩
  · obtain ⟨A0, cap, rfl⟩ : ∃ A c, o = .slice A 0 c := by
      rcases hown.2 with ⟨rfl, _⟩ | ⟨g, cap, cur, rfl, _⟩
      · exact ⟨_, _, rfl⟩
      · exact ⟨_, _, rfl⟩
    rw [freshB_nil]
    clear hown hP hk hL
    go_enter Tryd.func106, Tryd.ntmps106
    go_wp2_with fail
    go_ret
    exact ⟨rfl, Below.refl _ _⟩
  · rw [List.concat_eq_append] at hPe
    subst hPe
    obtain ⟨n, hn⟩ : ∃ n, P0.length = n := ⟨_, rfl⟩
    obtain ⟨g, cap, rfl, hg, d0, d1, d2⟩ := own_pc hown n p (by rw [← hn]; simp)
    have hkk := hP p (by simp)
    rw [freshB_snoc]
    have hL' := hide hL
    obtain ⟨pk, pt, pp⟩ := p
    simp only at d0 d1 d2 hkk ⊢
    have hcon := words_in pt
    obtain ⟨x, hx⟩ : ∃ x : ByteArray, (⟨pt.toArray⟩ : ByteArray) = x := ⟨_, rfl⟩
    have hcc : (Lib.contains (⟨#[41, 93, 125]⟩ : ByteArray).data.toList x.data.toList) = Lib.contains [41, 93, 125] pt := by rw [← hx]
    rw [hx] at d1 hcon
    have hzn : n ≤ 65536 := by rw [← hn]; simp at hz; omega
    have hln : (P0 ++ [(⟨pk, pt, pp⟩ : Pc)]).length = n + 1 := by simp [hn]
    rw [hln] at c2
    clear hx hown hP hk hL hz hn hln
    have hwn : IntKind.i64.wrap (n : Int) = n := wrap_small _ (by omega) (by omega)
    have hk5 : pk = 1 ∨ pk = 2 ∨ pk = 3 ∨ pk = 4 ∨ pk = 5 := by omega
    rcases hk5 with rfl | rfl | rfl | rfl | rfl
    · rw [if_pos rfl]
      generalize wordsL.any (· == pt) = r at hcon ⊢
      have hcon := hide hcon
      have hb1 : Below w.heap.size w ((w.alloc (.cells #[.int .i64 1, .string x, .int .i64 (pp : Int)] 44)).drew) := ((Below.refl _ _).alloc (Nat.le_refl _) _).drew
      have hK1 := Blk.new w 44 #[.int .i64 1, .string x, .int .i64 (pp : Int)]
      have hL1 := hide (hL'.out.below hb1)
      have hz1 : ((w.alloc (.cells #[.int .i64 1, .string x, .int .i64 (pp : Int)] 44)).drew).heap.size = w.heap.size + 1 := by simp
      go_enter Tryd.func106, Tryd.ntmps106
      go_wp2_with fail
      go_region
      go_wp2_with fail
      have k1 : ((w.alloc (.cells #[.int .i64 1, .string x, .int .i64 (pp : Int)] 44)).drew).cell? ⟨w.heap.size, 1, none⟩ = some (.string x) := (hK1.cell 1).trans rfl
      generalize (w.alloc (.cells #[.int .i64 1, .string x, .int .i64 (pp : Int)] 44)).drew = W at hb1 hL1 hz1 k1 ⊢
      have hlt1 : w.heap.size < W.heap.size := by omega
      have hwc : ∀ j, j < wordsT.length → ((W.alloc (.cells (wordsT.map Value.string).toArray 9)).drew).cell? ⟨W.heap.size, 0 + j, none⟩ = some (.string (wordsT.getD j ByteArray.empty)) := words_cells W
      have cK := hide (Tryd.slices_Contains_string W.heap.size 0 12 12 wordsT x ((W.alloc (.cells (wordsT.map Value.string).toArray 9)).drew) (by decide) (by decide) hwc)
      rw [hcon.out] at cK
      clear hK1 hz1 c2 d0 d1 d2 hcc hwc
      go_region_with (first
        | (go_at_call 138; refine (fields_words _ (hL1.out.below (Below.refl _ _).drew).tab _ rfl).mono ?_; rintro e w2 ⟨rfl, hw2⟩; rw [hw2])
        | (go_at_call 137; refine (cK.out).mono ?_; rintro e w3 ⟨rfl, hw3⟩; rw [hw3]))
      all_goals
        go_wp2_with fail
        go_ret
        exact ⟨by first | rfl | (simp [Act.put, Act.eval]; done) | (go_simp; done), hb1.trans ((((Below.refl _ _).alloc (Nat.le_refl _) _).drew).mono hb1.size)⟩
    · rw [if_neg (by decide), if_pos (by decide)]
      go_enter Tryd.func106, Tryd.ntmps106
      go_wp2_with fail
      go_region
      go_wp2_with fail
      go_ret
      exact ⟨rfl, ((Below.refl _ _).drew).alloc (Nat.le_refl _) _⟩
    · rw [if_neg (by decide), if_pos (by decide)]
      go_enter Tryd.func106, Tryd.ntmps106
      go_wp2_with fail
      go_region
      go_wp2_with fail
      go_ret
      exact ⟨rfl, ((Below.refl _ _).drew).alloc (Nat.le_refl _) _⟩
    · rw [if_neg (by decide), if_neg (by decide), if_neg (by decide)]
      go_enter Tryd.func106, Tryd.ntmps106
      go_wp2_with fail
      go_region
      go_wp2_with fail
      go_ret
      exact ⟨rfl, ((Below.refl _ _).drew).alloc (Nat.le_refl _) _⟩
    · rw [if_neg (by decide), if_neg (by decide), if_pos (by decide), ← hcc]
      have hb1 : Below w.heap.size w ((w.alloc (.cells #[.int .i64 5, .string x, .int .i64 (pp : Int)] 44)).drew) := ((Below.refl _ _).alloc (Nat.le_refl _) _).drew
      obtain ⟨m, hm⟩ := (hL'.out.below hb1).len
      have cC := hide (fun w hm => Tryd.strings_Contains ⟨#[41, 93, 125]⟩ x m w (by decide) hm)
      generalize Lib.contains (⟨#[41, 93, 125]⟩ : ByteArray).data.toList x.data.toList = r at cC ⊢
      clear hcc hcon
      have hm := hide hm
      cases r
      · go_enter Tryd.func106, Tryd.ntmps106
        go_wp2_with fail
        go_region
        go_wp2_with (go_at_call 139; refine (cC.out _ hm.out).mono ?_; rintro e w2 ⟨rfl, hw⟩; rw [hw])
        go_ret
        exact ⟨rfl, hb1⟩
      · go_enter Tryd.func106, Tryd.ntmps106
        go_wp2_with fail
        go_region
        go_wp2_with (go_at_call 139; refine (cC.out _ hm.out).mono ?_; rintro e w2 ⟨rfl, hw⟩; rw [hw])
        go_ret
        exact ⟨rfl, hb1⟩
theorem some_ltL {s : List UInt8} {a : Nat} {c : UInt8} (hc : s[a]? = some c) : a < s.length := by
  rcases Nat.lt_or_ge a s.length with h | h
  · exact h
  · rw [List.getElem?_eq_none h] at hc; cases hc
theorem read_at {s : List UInt8} {a : Nat} {c : UInt8} (hc : s[a]? = some c) : ∃ h : a < (⟨s.toArray⟩ : ByteArray).size, (⟨s.toArray⟩ : ByteArray)[a]'h = c := by
  have hlt : a < s.length := by
    rcases Nat.lt_or_ge a s.length with h | h
    · exact h
    · rw [List.getElem?_eq_none h] at hc; cases hc
  refine ⟨by rw [mk_size]; exact hlt, ?_⟩
  rw [List.getElem?_eq_getElem hlt] at hc
  injection hc with hc
theorem ext_drop (s : List UInt8) (a : Nat) : ((⟨s.toArray⟩ : ByteArray).extract a s.length).data.toList = s.drop a := by
  rw [← Lib.toList_data, Lib.extract_toList]
  show (s.drop a).take (s.length - a) = s.drop a
  rw [List.take_of_length_le (by simp)]
set_option maxHeartbeats 1000000 in
set_option maxRecDepth 100000 in
theorem slash_any (s : List UInt8) (P : List Pc) (b : Nat) (v1 o : Value) (base a : Nat) (w : World) (hk : Blk w b 72 #[.string ⟨s.toArray⟩, v1, o]) (hown : w.ownsRow base 44 3 o P.length (pcCells P)) (hP : ∀ q ∈ P, 1 ≤ q.k ∧ q.k ≤ 5) (hPz : P.length ≤ 65536) (hL : LexW w)
    (ha : a < s.length) (hz : s.length ≤ 65536) (hc : s[a]? = some 47) :
    Calls Tryd.prog 75 #[.pointer (some ⟨b, 0, none⟩), .int .i64 (a : Int)] w fun e w' => ∃ k z : Int, e = .returned (.tuple #[.int .i64 k, .int .i64 z]) ∧ oneR s P a 47 k z ∧ Below w.heap.size w w' := by
  have c0 := hk.cell 0
  simp at c0
  have hsz : (⟨s.toArray⟩ : ByteArray).size = s.length := mk_size s
  have ha2 : (a : Int) ≤ (s.length : Int) := by omega
  obtain ⟨T, hT⟩ : ∃ T, (⟨s.toArray⟩ : ByteArray).extract a s.length = T := ⟨_, rfl⟩
  have hTd : T.data.toList = s.drop a := by rw [← hT, ext_drop]
  have hT := hide hT
  have p1 := fun w => hasPrefix_any T ⟨#[47, 47]⟩ w
  have p2 := fun w => hasPrefix_any T ⟨#[47, 42]⟩ w
  rw [hTd] at p1 p2
  have hone : ∀ k z, oneR s P a 47 k z = (if Lib.hasPrefix (s.drop a) [47, 47] || Lib.hasPrefix (s.drop a) [47, 42] then k = 4 ∧ z = remI s a else if freshPc P then k = 3 ∧ z = endsI 47 s a else k = 5 ∧ z = (a : Int) + 1) := fun k z => rfl
  have hlen2 : Lib.hasPrefix (s.drop a) [47, 42] = true → a + 2 ≤ s.length := by
    intro h
    have := List.IsPrefix.length_le (List.isPrefixOf_iff_prefix.1 h)
    simp at this; omega
  have cL := fun w hk => line_any s b v1 o a w hk ha hz hc
  have cM := fun w hk h hL => more_any s b v1 o a w hk h hz hL
  have cF := fun w hk hown hL => freshPc_any P b (.string ⟨s.toArray⟩) v1 o base w hk hown hP hPz hL
  have cE := fun w hk => ends_any s b v1 o a 47 w hk ha hz
  have q1 : (⟨#[47, 47]⟩ : ByteArray).data.toList = [47, 47] := rfl
  have q2 : (⟨#[47, 42]⟩ : ByteArray).data.toList = [47, 42] := rfl
  rw [q1] at p1
  rw [q2] at p2
  have hRm : remI s a = if Lib.hasPrefix (s.drop a) [47, 47] then lineI s a else moreI s a := rfl
  generalize Lib.hasPrefix (s.drop a) [47, 47] = b1 at p1 hone hRm
  generalize Lib.hasPrefix (s.drop a) [47, 42] = b2 at p2 hone hlen2
  have p1 := hide p1; have p2 := hide p2; have cL := hide (cL w hk); have cE := hide cE
  have HK := hide hk; have HO := hide hown; have HL := hide hL
  clear hTd q1 q2 hk hown hL
  cases b1
  · cases b2
    · have cF := hide (cF w HK.out HO.out HL.out)
      generalize freshPc P = b3 at cF hone
      clear hlen2 cM
      simp only [Bool.or_self, Bool.false_eq_true, if_false] at hone
      have hone := hide hone
      clear hRm
      cases b3
      · go_enter Tryd.func75, Tryd.ntmps75
        go_wp2_with fail
        (try rw [hT.out])
        refine (p1.out _).mono ?_
        rintro e w1 ⟨rfl, rfl⟩
        go_wp2_with fail
        (try rw [hT.out])
        refine (p2.out _).mono ?_
        rintro e w2 ⟨rfl, rfl⟩
        go_wp2_with fail
        refine (cF.out).mono ?_
        rintro e w3 ⟨rfl, hb3⟩
        go_wp2_with fail
        go_ret2
        exact ⟨_, _, rfl, by rw [hone.out]; exact ⟨rfl, by rfl⟩, hb3⟩
      · go_enter Tryd.func75, Tryd.ntmps75
        go_wp2_with fail
        (try rw [hT.out])
        refine (p1.out _).mono ?_
        rintro e w1 ⟨rfl, rfl⟩
        go_wp2_with fail
        (try rw [hT.out])
        refine (p2.out _).mono ?_
        rintro e w2 ⟨rfl, rfl⟩
        go_wp2_with fail
        refine (cF.out).mono ?_
        rintro e w3 ⟨rfl, hb3⟩
        go_wp2_with fail
        refine (cE.out _ (HK.out.below hb3 HK.out.lt)).mono ?_
        rintro e w4 ⟨rfl, hb4⟩
        go_wp2_with fail
        go_ret2
        exact ⟨_, _, rfl, by rw [hone.out]; exact ⟨rfl, rfl⟩, below_step hb3 hb4⟩
    · have cM := hide (cM w HK.out (hlen2 rfl) HL.out)
      clear hlen2 cF
      simp only [Bool.or_true, if_true] at hone
      rw [if_neg (by decide)] at hRm
      rw [hRm] at hone
      have hone := hide hone
      clear hRm
      go_enter Tryd.func75, Tryd.ntmps75
      go_wp2_with fail
      (try rw [hT.out])
      refine (p1.out _).mono ?_
      rintro e w1 ⟨rfl, rfl⟩
      go_wp2_with fail
      (try rw [hT.out])
      refine (p2.out _).mono ?_
      rintro e w2 ⟨rfl, rfl⟩
      go_wp2_with fail
      refine (cM.out).mono ?_
      rintro e w3 ⟨rfl, hb3⟩
      go_wp2_with fail
      go_ret2
      exact ⟨_, _, rfl, by rw [hone.out]; exact ⟨rfl, rfl⟩, hb3⟩
  · clear hlen2 cF cM
    simp only [Bool.true_or, if_true] at hone
    rw [if_pos rfl] at hRm
    rw [hRm] at hone
    have hone := hide hone
    clear hRm
    go_enter Tryd.func75, Tryd.ntmps75
    go_wp2_with fail
    (try rw [hT.out])
    refine (p1.out _).mono ?_
    rintro e w1 ⟨rfl, rfl⟩
    go_wp2_with fail
    refine (cL.out).mono ?_
    rintro e w3 ⟨rfl, hb3⟩
    go_wp2_with fail
    go_ret2
    exact ⟨_, _, rfl, by rw [hone.out]; exact ⟨rfl, rfl⟩, hb3⟩
end Go.Proofs.YtdnmgpidfjkiaaaDoor
