/- Plain words for the law that each value is found by its name; the great letters of a word. -/
import Derived.Test.YtlbibklbckabnaaDoorLetVal
namespace Go.Proofs.YtlbibklbckabnaaDoor
open Go.RowKit
set_option linter.unusedVariables false

/-- A byte's great letter. -/
def lowB (c : UInt8) : UInt8 := c - 32
def greatB (s : ByteArray) : ByteArray := ⟨(s.data.toList.map lowB).toArray⟩
/-- A word of small letters. -/
structure IsW (n : ByteArray) : Prop where
  small : ∀ c ∈ bs n, 97 ≤ c.toNat ∧ c.toNat ≤ 122
  name : nameL (bs n) = true
  short : n.size ≤ 8
theorem byteW_rng (c : UInt8) : 97 ≤ (byteW c).toNat ∧ (byteW c).toNat ≤ 122 := by
  have h : ∀ n : Fin 256, 97 ≤ (byteW (UInt8.ofNat n.val)).toNat ∧ (byteW (UInt8.ofNat n.val)).toNat ≤ 122 := by decide +kernel
  have := h ⟨c.toNat, c.toNat_lt⟩
  simpa using this
theorem word_isW (l : List UInt8) : IsW (mkS (wordL l)) := by
  refine ⟨?_, wordL_name l, by rw [mkS_size]; exact (wordL_len l).2⟩
  intro c hc
  rw [bs_mkS] at hc
  unfold wordL at hc
  split at hc
  · simp at hc; subst hc; decide
  · obtain ⟨d, _, rfl⟩ := List.mem_map.1 hc
    exact byteW_rng d
theorem fieldsOf_isW (x : List Fld) : ∀ f ∈ fieldsOf x, IsW f.name := by
  intro f hf
  unfold fieldsOf at hf
  obtain ⟨p, _, rfl⟩ := List.mem_map.1 hf
  exact word_isW _
theorem small_up (c : UInt8) (h1 : 97 ≤ c.toNat) (h2 : c.toNat ≤ 122) : smallB c = c ∧ smallB (lowB c) = c ∧ ((lowB c).toNat : Int) = (c.toNat : Int) - 32 := by
  have h : ∀ n : Fin 256, 97 ≤ n.val → n.val ≤ 122 → smallB (UInt8.ofNat n.val) = UInt8.ofNat n.val ∧ smallB (lowB (UInt8.ofNat n.val)) = UInt8.ofNat n.val ∧ ((lowB (UInt8.ofNat n.val)).toNat : Int) = (n.val : Int) - 32 := by decide +kernel
  have := h ⟨c.toNat, c.toNat_lt⟩ h1 h2
  simpa using this
theorem fold_isW {n : ByteArray} (h : IsW n) : foldB n = n ∧ foldB (greatB n) = n := by
  have e1 : (bs n).map smallB = bs n := by
    conv => rhs; rw [← List.map_id (bs n)]
    exact List.map_congr_left (fun c hc => by rw [(small_up c (h.small c hc).1 (h.small c hc).2).1]; rfl)
  have e2 : ((bs n).map lowB).map smallB = bs n := by
    rw [List.map_map]
    conv => rhs; rw [← List.map_id (bs n)]
    exact List.map_congr_left (fun c hc => by show smallB (lowB c) = id c; rw [(small_up c (h.small c hc).1 (h.small c hc).2).2.1]; rfl)
  exact ⟨bs_inj e1, bs_inj e2⟩
/-- The values whose names are just this one. -/
def eqN (n : ByteArray) (f : Fld) : Bool := f.name.toList == n.toList
def wantV (n : ByteArray) (fs : List Fld) : List ByteArray := (fs.filter (eqN n)).map (·.value)
theorem wantV_snoc (n : ByteArray) (fs : List Fld) (f : Fld) : wantV n (fs ++ [f]) = if eqN n f = true then wantV n fs ++ [f.value] else wantV n fs := by
  unfold wantV
  rw [List.filter_append, List.map_append]
  by_cases h : eqN n f = true
  · rw [if_pos h, List.filter_cons_of_pos h]; rfl
  · rw [if_neg h, List.filter_cons_of_neg h]; simp
theorem wantV_len (n : ByteArray) (fs : List Fld) : (wantV n fs).length ≤ fs.length := by
  unfold wantV; rw [List.length_map]; exact List.length_filter_le _ _
theorem fits_eq {n : ByteArray} (hn : IsW n) {f : Fld} (hf : IsW f.name) : fitsN n f = eqN n f ∧ fitsN (greatB n) f = eqN n f := by
  unfold fitsN eqN
  rw [(fold_isW hn).1, (fold_isW hf).1, (fold_isW hn).2]
  exact ⟨rfl, rfl⟩
theorem pick_want {n : ByteArray} (hn : IsW n) : ∀ fs : List Fld, (∀ f ∈ fs, IsW f.name) → pickV n fs = wantV n fs ∧ pickV (greatB n) fs = wantV n fs := by
  intro fs h
  unfold pickV wantV
  have h1 : fs.filter (fitsN n) = fs.filter (eqN n) := List.filter_congr (fun f hf => (fits_eq hn (h f hf)).1)
  have h2 : fs.filter (fitsN (greatB n)) = fs.filter (eqN n) := List.filter_congr (fun f hf => (fits_eq hn (h f hf)).2)
  rw [h1, h2]
  exact ⟨rfl, rfl⟩
theorem great_size (n : ByteArray) : (greatB n).size = n.size := by
  show (List.map lowB n.data.toList).toArray.size = _
  rw [List.size_toArray, List.length_map]; rfl
/-- What lies in the new row when k bytes have been turned. -/
def GSt (s : ByteArray) (b k : Nat) (w : World) : Prop :=
  ∀ j, (h : j < s.data.size) → w.cell? ⟨b, j, none⟩ = some (.int .u8 (if j < k then lowB s.data[j] else s.data[j]).toNat) ∧ w.frozen? ⟨b, j, none⟩ = false
theorem gSt_begin (s : ByteArray) (e : TypeId) (w : World) : GSt s w.heap.size 0 (Lib.bytesWorld w e s) := by
  intro j hj
  have h := foldSt_begin s e w j hj
  rw [if_neg (Nat.not_lt_zero j)] at h ⊢
  exact h
theorem gSt_step {s : ByteArray} {b k : Nat} {w : World} (h : GSt s b k w) (hk : k < s.data.size) :
    GSt s b (k + 1) (w.setCell ⟨b, k, none⟩ (.int .u8 (lowB s.data[k]).toNat)) := by
  intro j hj
  obtain ⟨h1, h2⟩ := h j hj
  refine ⟨?_, by rw [World.frozen?_setCell]; exact h2⟩
  by_cases e : j = k
  · subst e
    rw [World.cell?_setCell_same' _ _ _ (by rw [h1]; rfl)]
    rw [if_pos (by omega)]
  · have hn : (if j < k + 1 then lowB s.data[j] else s.data[j]) = (if j < k then lowB s.data[j] else s.data[j]) := by
      by_cases hlt : j < k
      · rw [if_pos hlt, if_pos (by omega)]
      · rw [if_neg hlt, if_neg (by omega)]
    rw [hn, ← h1]
    exact World.cell?_setCell_other _ _ _ _ (by intro hh; injection hh with _ h2; exact e h2.symm)
theorem gSt_end {s : ByteArray} {b : Nat} {w : World} (h : GSt s b s.data.size w) :
    strOfNums (s.data.toList.map fun c => ((lowB c).toNat : Int)) = greatB s ∧
    (∀ i, i < s.size → w.cell? ⟨b, 0 + i, none⟩ = some (.int .u8 ((s.data.toList.map fun c => ((lowB c).toNat : Int)).getD i 0))) := by
  refine ⟨?_, fun i hi => ?_⟩
  · simp [strOfNums, greatB]
  · have hi' : i < s.data.size := hi
    have hg : s.data[i]? = some s.data[i] := by simp
    rw [Nat.zero_add, (h i hi').1, if_pos hi']
    simp [List.getD, hg]
theorem mayV (n : ByteArray) (h : IsW n) : MayF ⟨n, ⟨#[118]⟩⟩ := ⟨h.name, rfl, rfl⟩
/-- What stands while the law runs: the message's box, its fields, the values that are wanted. -/
structure KN (w W : World) (bm : Nat) (A : Option Addr) (c : Nat) (F : List Fld) (b0 bW : Nat) (v : Value) (want : List ByteArray) (m : Int) : Prop where
  box : MB W bm (.slice A F.length c) ⟨#[]⟩
  row : W.ownsRow b0 48 2 (.slice A F.length c) F.length (fldCells F)
  wrow : W.ownsRow bW 9 1 v want.length (strVs want)
  bel : Below w.heap.size w W
  mm : w.cell? ⟨0, 0, none⟩ = some (.int .i64 m)
  o : w.heap.size ≤ b0 ∧ b0 ≤ bm ∧ bm < bW ∧ bW ≤ W.heap.size
  n : ∀ k, (Value.slice A F.length c).ownBlock = some k → k < bm
theorem KN.later {w W W' : World} {bm c b0 bW : Nat} {A : Option Addr} {F : List Fld} {v : Value} {want : List ByteArray} {m : Int} (h : KN w W bm A c F b0 bW v want m) (hb : Below W.heap.size W W') : KN w W' bm A c F b0 bW v want m :=
  ⟨h.box.below hb h.box.lt, ownsRow_laterE hb h.row, ownsRow_laterE hb h.wrow, h.bel.trans (hb.mono h.bel.size), h.mm, ⟨h.o.1, h.o.2.1, h.o.2.2.1, Nat.le_trans h.o.2.2.2 hb.size⟩, h.n⟩
theorem KN.mmW {w W : World} {bm c b0 bW : Nat} {A : Option Addr} {F : List Fld} {v : Value} {want : List ByteArray} {m : Int} (h : KN w W bm A c F b0 bW v want m) : W.cell? ⟨0, 0, none⟩ = some (.int .i64 m) := cell_later h.bel h.mm
end Go.Proofs.YtlbibklbckabnaaDoor
