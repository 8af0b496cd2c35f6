/- Plain words: sessions of a letter carrier, and how a line changes one. -/
import Derived.Test.YtokeblpdaomagaaDoorWhoList2
import Derived.Test.YtokeblpdaomagaaDoorGlobFold
import Derived.Test.YtokeblpdaomagaaDoorWhoPart
namespace Go.Proofs.YtokeblpdaomagaaDoor
open Go.RowKit
set_option linter.unusedVariables false

structure Ses where
  step : Int
  frm : Adr
  rcp : List Adr
  text : ByteArray
  large : Bool
instance : DecidableEq Adr := fun a b =>
  if h : a.loc = b.loc ∧ a.dom = b.dom then .isTrue (by cases a; cases b; simp only at h; rw [h.1, h.2]) else .isFalse fun e => h ⟨by rw [e], by rw [e]⟩
def zeroA : Adr := ⟨⟨#[]⟩, ⟨#[]⟩⟩
def readyS (k : Int) : Ses := ⟨k, zeroA, [], ⟨#[]⟩, false⟩
/-- An address as a text; nothing, if it may not be. -/
def adrT (a : Adr) : ByteArray := (partA 1 a).1
/-- An address in brackets: what it is, and whether the text is just that. -/
def addrR (s : ByteArray) : Adr × Bool := match listL (s.size + 1) (s.size + 1) (bs s) with
  | some [a] => (a, s.toList == ((⟨#[60]⟩ : ByteArray) ++ adrT a ++ ⟨#[62]⟩).toList)
  | _ => (zeroA, false)
/-- What is behind a word, whatever its letters' size. -/
def restR (line word : ByteArray) : Option ByteArray :=
  if line.size < word.size then none
  else if ((foldB (line.extract 0 word.size)).toList == (foldB word).toList) = true then some (line.extract word.size line.size) else none
def mailR (x : Ses) (t : ByteArray) : Int × Ses :=
  if x.step ≠ 1 then (503, x) else if (addrR t).2 = false then (501, x) else (250, { x with step := 2, frm := (addrR t).1 })
def rcptR (x : Ses) (t : ByteArray) (known : List ByteArray) : Int × Ses :=
  if x.step ≠ 2 ∧ x.step ≠ 3 then (503, x)
  else if (addrR t).2 = false then (501, x)
  else if Lib.containsS known (addrR t).1.loc = false then (550, x)
  else if (addrR t).1 ∈ x.rcp then (250, x)
  else if x.rcp.length = 5 then (452, x)
  else (250, { x with step := 3, rcp := x.rcp ++ [(addrR t).1] })
def lhlo : ByteArray := ⟨#[76, 72, 76, 79, 32]⟩
def mailF : ByteArray := ⟨#[77, 65, 73, 76, 32, 70, 82, 79, 77, 58]⟩
def rcptT : ByteArray := ⟨#[82, 67, 80, 84, 32, 84, 79, 58]⟩
def wData : ByteArray := ⟨#[100, 97, 116, 97]⟩
def wRset : ByteArray := ⟨#[114, 115, 101, 116]⟩
def wNoop : ByteArray := ⟨#[110, 111, 111, 112]⟩
def wQuit : ByteArray := ⟨#[113, 117, 105, 116]⟩
/-- A command that is one word. -/
def wordR (x : Ses) (line : ByteArray) : Int × Ses :=
  if foldB line = wData then (if x.step ≠ 3 then (503, x) else (354, { x with step := 4 }))
  else if foldB line = wRset then (250, readyS (min x.step 1))
  else if foldB line = wNoop then (250, x)
  else if foldB line = wQuit then (221, readyS 5)
  else (500, x)
def cmdR (x : Ses) (line : ByteArray) (known : List ByteArray) : Int × Ses :=
  if 300 < line.size then (500, x)
  else match restR line lhlo with
    | some name => if checkA ⟨⟨#[120]⟩, name⟩ ≠ 0 then (501, x) else (250, readyS 1)
    | none => match restR line mailF with
      | some t => mailR x t
      | none => match restR line rcptT with
        | some t => rcptR x t known
        | none => wordR x line
/-- A line of the body. -/
def undot (line : ByteArray) : ByteArray := if line.toList.head? = some 46 then line.extract 1 line.size else line
def bodyR (x : Ses) (line : ByteArray) : Ses :=
  if x.large = true ∨ 2000 < x.text.size + (undot line).size + 2 then { x with large := true }
  else { x with text := x.text ++ (undot line ++ ⟨#[13, 10]⟩) }
def dotS1 : ByteArray := ⟨#[46]⟩
/-- How a session goes on: it, the code, and is the letter handed over? -/
def lineR (x : Ses) (known : List ByteArray) (line : ByteArray) : Ses × Int × Bool :=
  if x.step = 5 then (x, 0, false)
  else if x.step ≠ 4 then ((cmdR x line known).2, (cmdR x line known).1, false)
  else if line ≠ dotS1 then (bodyR x line, 0, false)
  else (readyS 1, 0, true)
/-- A session that may be. -/
structure VldS (x : Ses) : Prop where
  s0 : 0 ≤ x.step ∧ x.step ≤ 5
  fr : if 2 ≤ x.step ∧ x.step ≤ 4 then checkA x.frm = 0 else x.frm = zeroA
  t1 : if 3 ≤ x.step ∧ x.step ≤ 4 then x.rcp ≠ [] ∧ (∀ a ∈ x.rcp, checkA a = 0) ∧ x.rcp.Pairwise (· ≠ ·) else x.rcp = []
  t5 : x.rcp.length ≤ 5
  tx : x.step ≠ 4 → x.text = ⟨#[]⟩ ∧ x.large = false
  t2 : x.text.size ≤ 2000
theorem checkA_size {a : Adr} (h : checkA a = 0) : a.loc.size + 1 + a.dom.size ≤ 100 := by
  unfold checkA at h
  split at h
  · split at h
    · cases h
    · omega
  · cases h
theorem bareL_ok {loc : ByteArray} {l : List UInt8} {x : Adr × List UInt8} (h : bareL loc l = some x) : checkA x.1 = 0 := by
  unfold bareL at h
  split at h
  · split at h
    · next hc => obtain rfl := Option.some.inj h; exact hc
    · cases h
  · cases h
theorem adrL_ok : ∀ (n : Nat) (f : Bool) (l : List UInt8) (x : Adr × List UInt8), adrL n f l = some x → checkA x.1 = 0
  | 0, f, l, x, h => by cases h
  | n + 1, f, l, x, h => by
    unfold adrL at h
    split at h
    · obtain ⟨l', _, h2⟩ := Option.bind_eq_some_iff.1 h
      exact adrL_ok n false l' x h2
    · split at h
      · obtain ⟨y, hy, h2⟩ := Option.bind_eq_some_iff.1 h
        split at h2
        · obtain rfl := Option.some.inj h2
          exact bareL_ok (x := y) hy
        · cases h2
      · split at h
        · exact bareL_ok h
        · split at h
          · cases h
          · exact adrL_ok n false _ x h
theorem listL_ok : ∀ (N n : Nat) (l : List UInt8) (L : List Adr), listL N n l = some L → ∀ a ∈ L, checkA a = 0
  | N, 0, l, L, h, a, ha => by cases h
  | N, n + 1, l, L, h, a, ha => by
    unfold listL at h
    obtain ⟨x, hx, h2⟩ := Option.bind_eq_some_iff.1 h
    have hx1 := adrL_ok N true l x hx
    split at h2
    · obtain rfl := Option.some.inj h2
      simp only [List.mem_singleton] at ha
      subst ha; exact hx1
    · split at h2
      · obtain ⟨L', hL', rfl⟩ := Option.map_eq_some_iff.1 h2
        rcases List.mem_cons.1 ha with rfl | ha
        · exact hx1
        · exact listL_ok N n _ L' hL' a ha
      · cases h2
theorem zeroA_bad : checkA zeroA ≠ 0 := by decide
theorem vld_ready (k : Int) (h : 0 ≤ k ∧ k ≤ 1 ∨ k = 5) : VldS (readyS k) := by
  refine ⟨by show 0 ≤ k ∧ k ≤ 5; omega, ?_, ?_, by simp [readyS], fun _ => ⟨rfl, rfl⟩, Nat.zero_le _⟩
  · show if 2 ≤ k ∧ k ≤ 4 then _ else _
    rw [if_neg (by omega)]; rfl
  · show if 3 ≤ k ∧ k ≤ 4 then _ else _
    rw [if_neg (by omega)]; rfl
theorem addrR_ok (t : ByteArray) (h : (addrR t).2 = true) : checkA (addrR t).1 = 0 := by
  unfold addrR at h ⊢
  split at h
  · next a ha =>
    simp only at h
    by_cases hc : checkA a = 0
    · exact hc
    · exfalso
      unfold adrT at h
      unfold partA at h
      rw [if_pos hc] at h
      have h1 := eq_of_beq h
      have h2 : t.toList = [60, 62] := by
        rw [h1]
        show ((⟨#[60]⟩ : ByteArray) ++ mkS [] ++ ⟨#[62]⟩).toList = [60, 62]
        rw [toList_bs]
        kernel_rfl
      have h3 : t = mkS [60, 62] := by rw [← mkS_bs t, ← toList_bs, h2]
      subst h3
      have e : listL ((mkS [60, 62]).size + 1) ((mkS [60, 62]).size + 1) (bs (mkS [60, 62])) = none := by kernel_rfl
      rw [e] at ha
      cases ha
  · cases h
theorem vld_mail {x : Ses} (h : VldS x) (t : ByteArray) : VldS (mailR x t).2 := by
  unfold mailR
  split
  · exact h
  · next h1 =>
    split
    · exact h
    · next h2 =>
      have hs : x.step = 1 := Decidable.not_not.1 h1
      have hc := addrR_ok t (by simpa using h2)
      have ht := h.t1
      rw [if_neg (by omega)] at ht
      have hx := h.tx (by omega)
      refine ⟨⟨by show (0 : Int) ≤ 2; decide, by show (2 : Int) ≤ 5; decide⟩, by simpa using hc, by simpa using ht, h.t5, fun _ => hx, h.t2⟩
theorem vld_rcpt {x : Ses} (h : VldS x) (t : ByteArray) (known : List ByteArray) : VldS (rcptR x t known).2 := by
  unfold rcptR
  split
  · exact h
  · next h1 =>
    split
    · exact h
    · next h2 =>
      split
      · exact h
      · split
        · exact h
        · next h4 =>
          split
          · exact h
          · next h5 =>
            have hc := addrR_ok t (by simpa using h2)
            have hs : x.step = 2 ∨ x.step = 3 := by omega
            have hf := h.fr
            rw [if_pos (by omega)] at hf
            have ht : (∀ a ∈ x.rcp, checkA a = 0) ∧ x.rcp.Pairwise (· ≠ ·) := by
              have ht := h.t1
              by_cases h3 : x.step = 3
              · rw [if_pos (by omega)] at ht; exact ht.2
              · rw [if_neg (by omega)] at ht; rw [ht]; exact ⟨by simp, List.Pairwise.nil⟩
            have hx := h.tx (by omega)
            have hl := h.t5
            refine ⟨⟨by show (0 : Int) ≤ 3; decide, by show (3 : Int) ≤ 5; decide⟩, by simpa using hf, ?_, by simp only [List.length_append, List.length_singleton]; omega, fun _ => hx, h.t2⟩
            rw [if_pos ⟨by show (3 : Int) ≤ 3; decide, by show (3 : Int) ≤ 4; decide⟩]
            refine ⟨by simp, fun a ha => ?_, ?_⟩
            · rcases List.mem_append.1 ha with ha | ha
              · exact ht.1 a ha
              · simp only [List.mem_singleton] at ha
                subst ha; exact hc
            · rw [List.pairwise_append]
              refine ⟨ht.2, List.pairwise_singleton _ _, fun a ha b hb => ?_⟩
              simp only [List.mem_singleton] at hb
              subst hb
              rintro rfl
              exact h4 ha
theorem vld_word {x : Ses} (h : VldS x) (h4 : x.step ≠ 4) (line : ByteArray) : VldS (wordR x line).2 := by
  unfold wordR
  split
  · split
    · exact h
    · next h1 =>
      have hs : x.step = 3 := Decidable.not_not.1 h1
      have hf := h.fr
      rw [if_pos (by omega)] at hf
      have ht := h.t1
      rw [if_pos (by omega)] at ht
      have hx := h.tx (by omega)
      exact ⟨⟨by show (0 : Int) ≤ 4; decide, by show (4 : Int) ≤ 5; decide⟩, by simpa using hf, by simpa using ht, h.t5, fun hn => absurd rfl hn, h.t2⟩
  · have h0 := h.s0
    split
    · exact vld_ready _ (by omega)
    · split
      · exact h
      · split
        · exact vld_ready 5 (.inr rfl)
        · exact h
theorem vld_cmd {x : Ses} (h : VldS x) (h4 : x.step ≠ 4) (line : ByteArray) (known : List ByteArray) : VldS (cmdR x line known).2 := by
  unfold cmdR
  split
  · exact h
  · split
    · split
      · exact h
      · exact vld_ready 1 (.inl ⟨by decide, by decide⟩)
    · split
      · exact vld_mail h _
      · split
        · exact vld_rcpt h _ _
        · exact vld_word h h4 line
theorem vld_body {x : Ses} (h : VldS x) (h4 : x.step = 4) (line : ByteArray) : VldS (bodyR x line) := by
  unfold bodyR
  split
  · exact ⟨h.s0, h.fr, h.t1, h.t5, fun hn => absurd h4 hn, h.t2⟩
  · next hc =>
    refine ⟨h.s0, h.fr, h.t1, h.t5, fun hn => absurd h4 hn, ?_⟩
    simp only [ByteArray.size_append]
    have : (⟨#[13, 10]⟩ : ByteArray).size = 2 := rfl
    omega
theorem vld_line {x : Ses} (h : VldS x) (known : List ByteArray) (line : ByteArray) : VldS (lineR x known line).1 := by
  unfold lineR
  split
  · exact h
  · split
    · next h4 => exact vld_cmd h h4 line known
    · next h4 =>
      split
      · exact vld_body h (Decidable.not_not.1 h4) line
      · exact vld_ready 1 (.inl ⟨by decide, by decide⟩)
end Go.Proofs.YtokeblpdaomagaaDoor
