/- Calls of Go's library that package letter makes: Cut at the end of a line and at a colon, Trim, Contains. -/
import Derived.Test.YtlbibklbckabnaaDoorMsg
import Derived.Test.YtlbibklbckabnaaDoorShelfTrim
import Derived.Test.YtlbibklbckabnaaDoorShelf
namespace Go.Proofs.YtlbibklbckabnaaDoor
open Go.RowKit

theorem crlfL_len : ∀ (l a b : List UInt8), crlfL l = some (a, b) → a.length + 2 + b.length = l.length
  | [], a, b, h => by simp [crlfL] at h
  | c :: l, a, b, h => by
    rw [crlfL] at h
    by_cases hc : c = 13 ∧ l.head? = some 10
    · rw [if_pos hc] at h
      simp only [Option.some.injEq, Prod.mk.injEq] at h
      obtain ⟨rfl, rfl⟩ := h
      cases l with
      | nil => simp at hc
      | cons d l => simp; omega
    · rw [if_neg hc] at h
      cases hr : crlfL l with
      | none => rw [hr] at h; simp at h
      | some x =>
        rw [hr] at h
        simp only [Option.map_some, Option.some.injEq, Prod.mk.injEq] at h
        obtain ⟨rfl, rfl⟩ := h
        have := crlfL_len l x.1 x.2 hr
        simp; omega
theorem colonL_len : ∀ (l a b : List UInt8), colonL l = some (a, b) → a.length + 1 + b.length = l.length
  | [], a, b, h => by simp [colonL] at h
  | c :: l, a, b, h => by
    rw [colonL] at h
    by_cases hc : c = 58
    · rw [if_pos hc] at h
      simp only [Option.some.injEq, Prod.mk.injEq] at h
      obtain ⟨rfl, rfl⟩ := h
      simp; omega
    · rw [if_neg hc] at h
      cases hr : colonL l with
      | none => rw [hr] at h; simp at h
      | some x =>
        rw [hr] at h
        simp only [Option.map_some, Option.some.injEq, Prod.mk.injEq] at h
        obtain ⟨rfl, rfl⟩ := h
        have := colonL_len l x.1 x.2 hr
        simp; omega
theorem crlf_some (s : ByteArray) (a b : List UInt8) (h : crlfL (bs s) = some (a, b)) (m : Int) (w : World) (hs : s.size ≤ 100000) (hm : w.cell? ⟨0, 0, none⟩ = some (.int .i64 m)) :
    Calls Tryd.prog 36 #[.string s, .string ⟨#[13, 10]⟩] w fun e w' => e = .returned (.tuple #[.string (mkS a), .string (mkS b), .bool true]) ∧ ∃ n, w' = w.drewN n := by
  have hc := Tryd.strings_Cut s ⟨#[13, 10]⟩ m w (by omega) hm
  have e : Lib.cut s.data.toList [13, 10] = (a, b, true) := by
    have := cut_crlf (bs s)
    rw [h] at this
    exact this
  rw [show (⟨#[13, 10]⟩ : ByteArray).data.toList = [13, 10] from rfl, e] at hc
  exact hc
theorem crlf_none (s : ByteArray) (h : crlfL (bs s) = none) (m : Int) (w : World) (hs : s.size ≤ 100000) (hm : w.cell? ⟨0, 0, none⟩ = some (.int .i64 m)) :
    Calls Tryd.prog 36 #[.string s, .string ⟨#[13, 10]⟩] w fun e w' => e = .returned (.tuple #[.string s, .string ⟨#[]⟩, .bool false]) ∧ ∃ n, w' = w.drewN n := by
  have hc := Tryd.strings_Cut s ⟨#[13, 10]⟩ m w (by omega) hm
  have e : Lib.cut s.data.toList [13, 10] = (bs s, [], false) := by
    have := cut_crlf (bs s)
    rw [h] at this
    exact this
  rw [show (⟨#[13, 10]⟩ : ByteArray).data.toList = [13, 10] from rfl, e] at hc
  exact hc
theorem colon_some (s : ByteArray) (a b : List UInt8) (h : colonL (bs s) = some (a, b)) (m : Int) (w : World) (hs : s.size ≤ 100000) (hm : w.cell? ⟨0, 0, none⟩ = some (.int .i64 m)) :
    Calls Tryd.prog 36 #[.string s, .string ⟨#[58]⟩] w fun e w' => e = .returned (.tuple #[.string (mkS a), .string (mkS b), .bool true]) ∧ ∃ n, w' = w.drewN n := by
  have hc := Tryd.strings_Cut s ⟨#[58]⟩ m w (by omega) hm
  have e : Lib.cut s.data.toList [58] = (a, b, true) := by
    have := cut_colon (bs s)
    rw [h] at this
    exact this
  rw [show (⟨#[58]⟩ : ByteArray).data.toList = [58] from rfl, e] at hc
  exact hc
theorem colon_none (s : ByteArray) (h : colonL (bs s) = none) (m : Int) (w : World) (hs : s.size ≤ 100000) (hm : w.cell? ⟨0, 0, none⟩ = some (.int .i64 m)) :
    Calls Tryd.prog 36 #[.string s, .string ⟨#[58]⟩] w fun e w' => e = .returned (.tuple #[.string s, .string ⟨#[]⟩, .bool false]) ∧ ∃ n, w' = w.drewN n := by
  have hc := Tryd.strings_Cut s ⟨#[58]⟩ m w (by omega) hm
  have e : Lib.cut s.data.toList [58] = (bs s, [], false) := by
    have := cut_colon (bs s)
    rw [h] at this
    exact this
  rw [show (⟨#[58]⟩ : ByteArray).data.toList = [58] from rfl, e] at hc
  exact hc
theorem trim_calls (s : ByteArray) (w : World) (hs : s.size ≤ 100000) :
    Calls Tryd.prog 37 #[.string s, .string ⟨#[32, 9]⟩] w fun e w' => e = .returned (.string (mkS (trimL (bs s)))) ∧ Below w.heap.size w w' :=
  Any.strings_Trim_laid Tryd.lays160 (by kernel_rfl) s ⟨#[32, 9]⟩ w (by omega) (by decide) (ascii_of_all (by decide))
end Go.Proofs.YtlbibklbckabnaaDoor
