/- Dates as plain functions. No program. -/
import Derived.Test.YtgijjgnacgpdfaaMem
namespace Go.Proofs.Ytgijjgnacgpdfaa

/-- February has 29 days. -/
def lp (y : Int) : Bool := decide (y % 4 = 0) && (decide (y % 100 ≠ 0) || decide (y % 400 = 0))
def lpn (y : Int) : Int := if lp y = true then 1 else 0
theorem lpn_01 (y : Int) : 0 ≤ lpn y ∧ lpn y ≤ 1 := by unfold lpn; split <;> omega
/-- Days before the year 1900 + k. -/
def ny : Nat → Int
  | 0 => 0
  | k + 1 => ny k + 365 + lpn (1900 + (k : Int))
theorem ny_bound : ∀ k : Nat, 365 * (k : Int) ≤ ny k ∧ ny k ≤ 366 * (k : Int)
  | 0 => ⟨by decide, by decide⟩
  | k + 1 => by
    have h := ny_bound k
    have h1 := lpn_01 (1900 + (k : Int))
    rw [ny]
    constructor <;> omega
theorem ny_lt (k : Nat) : ny k + 365 ≤ ny (k + 1) ∧ ny (k + 1) ≤ ny k + 366 := by
  have h1 := lpn_01 (1900 + (k : Int))
  rw [ny]; omega
theorem ny_mono {a b : Nat} (h : a ≤ b) : ny a ≤ ny b := by
  induction b with
  | zero => have : a = 0 := by omega
            subst this; exact Int.le_refl _
  | succ b ih =>
    have h1 := ny_lt b
    by_cases e : a = b + 1
    · subst e; exact Int.le_refl _
    · have := ih (by omega); omega
theorem ny_300 : ny 300 = 109573 := by decide +kernel

/-- The days of a month, in a common year. -/
def tab (m : Int) : Int := if m = 2 then 28 else if m = 4 ∨ m = 6 ∨ m = 9 ∨ m = 11 then 30 else 31
/-- The days of a month; 0 outside the years 1900 to 2199 and the months 1 to 12. -/
def ml (y m : Int) : Int := if y < 1900 ∨ 2199 < y ∨ m < 1 ∨ 12 < m then 0 else if m = 2 ∧ lp y = true then 29 else tab m
/-- The days of a year before a month. -/
def bef0 (m : Int) : Int := if m = 1 then 0 else if m = 2 then 31 else if m = 3 then 59 else if m = 4 then 90 else if m = 5 then 120 else if m = 6 then 151 else if m = 7 then 181
  else if m = 8 then 212 else if m = 9 then 243 else if m = 10 then 273 else if m = 11 then 304 else if m = 12 then 334 else 365
def bef (y m : Int) : Int := bef0 m + if 2 < m then lpn y else 0
theorem twelve {m : Int} (h1 : 1 ≤ m) (h2 : m ≤ 12) : m = 1 ∨ m = 2 ∨ m = 3 ∨ m = 4 ∨ m = 5 ∨ m = 6 ∨ m = 7 ∨ m = 8 ∨ m = 9 ∨ m = 10 ∨ m = 11 ∨ m = 12 := by omega
theorem bef_step {y m : Int} (hy : 1900 ≤ y) (hy2 : y ≤ 2199) (h1 : 1 ≤ m) (h2 : m ≤ 12) : bef y (m + 1) = bef y m + ml y m := by
  have hl := lpn_01 y
  have hr : ¬ (y < 1900 ∨ 2199 < y ∨ m < 1 ∨ 12 < m) := by omega
  unfold ml
  rw [if_neg hr]
  rcases twelve h1 h2 with rfl | rfl | rfl | rfl | rfl | rfl | rfl | rfl | rfl | rfl | rfl | rfl
  · simp [bef, bef0, tab]
  · by_cases hlp : lp y = true <;> simp [bef, bef0, tab, lpn, hlp]
  all_goals (simp [bef, bef0, tab]; try omega)
theorem bef_13 (y : Int) : bef y 13 = 365 + lpn y := by simp [bef, bef0]
theorem bef_1 (y : Int) : bef y 1 = 0 := by simp [bef, bef0]
theorem ml_bound (y m : Int) : 0 ≤ ml y m ∧ ml y m ≤ 31 := by
  unfold ml tab
  repeat' split
  all_goals omega
theorem ml_pos {y m : Int} (hy : 1900 ≤ y) (hy2 : y ≤ 2199) (h1 : 1 ≤ m) (h2 : m ≤ 12) : 28 ≤ ml y m := by
  unfold ml tab
  rw [if_neg (by omega)]
  repeat' split
  all_goals omega
theorem bef_mono {y m m' : Int} (hy : 1900 ≤ y) (hy2 : y ≤ 2199) (h1 : 1 ≤ m) (h : m ≤ m') (h2 : m' ≤ 13) : bef y m ≤ bef y m' := by
  obtain ⟨k, rfl⟩ : ∃ k : Nat, m' = m + k := ⟨(m' - m).toNat, by omega⟩
  induction k with
  | zero => simp
  | succ k ih =>
    have := ih (by omega) (by omega)
    have h3 := bef_step (m := m + k) hy hy2 (by omega) (by omega)
    have h4 := ml_bound y (m + k)
    rw [show m + ((k + 1 : Nat) : Int) = m + k + 1 from by omega]
    omega

/-- The day of a date, or the error code 2. -/
def ofR (y m d : Int) : Int × Int := if d < 1 ∨ ml y m < d then (0, 2) else (ny (y - 1900).toNat + bef y m + d - 1, 0)
/-- y, m, d are year, month and day of the month of a day. -/
structure PartsOf (day y m d : Int) : Prop where
  y1 : 1900 ≤ y
  y2 : y ≤ 2199
  m1 : 1 ≤ m
  m2 : m ≤ 12
  yl : ny (y - 1900).toNat ≤ day
  yu : day < ny (y - 1900).toNat + 365 + lpn y
  ml : bef y m ≤ day - ny (y - 1900).toNat
  mu : day - ny (y - 1900).toNat < bef y (m + 1)
  d : d = day - ny (y - 1900).toNat - bef y m + 1
theorem PartsOf.uniq {day y m d y' m' d' : Int} (h : PartsOf day y m d) (h' : PartsOf day y' m' d') : y = y' ∧ m = m' ∧ d = d' := by
  have key : ∀ {y y' m m' d d' : Int}, PartsOf day y m d → PartsOf day y' m' d' → ¬ y < y' := by
    intro y y' m m' d d' h h' hlt
    have h1 := ny_mono (a := (y - 1900).toNat + 1) (b := (y' - 1900).toNat) (by have := h.y1; have := h'.y1; omega)
    rw [ny] at h1
    have e : 1900 + (((y - 1900).toNat : Nat) : Int) = y := by have := h.y1; omega
    rw [e] at h1
    have h2 := h.yu
    have h3 := h'.yl
    omega
  have hy : y = y' := by
    have h1 := key h h'
    have h2 := key h' h
    omega
  subst hy
  have key2 : ∀ {m m' d d' : Int}, PartsOf day y m d → PartsOf day y m' d' → ¬ m < m' := by
    intro m m' d d' h h' hlt
    have h1 := bef_mono h.y1 h.y2 (m := m + 1) (m' := m') (by have := h.m1; omega) (by omega) (by have := h'.m2; omega)
    have h2 := h.mu
    have h3 := h'.ml
    omega
  have hm : m = m' := by
    have h1 := key2 h h'
    have h2 := key2 h' h
    omega
  subst hm
  exact ⟨rfl, rfl, by rw [h.d, h'.d]⟩
/-- The day n months later. -/
def monR (y m d n : Int) : Int × Int :=
  if (y - 1900) * 12 + m - 1 + n < 0 ∨ 3600 ≤ (y - 1900) * 12 + m - 1 + n then (0, 2)
  else ofR (1900 + ((y - 1900) * 12 + m - 1 + n) / 12) (((y - 1900) * 12 + m - 1 + n) % 12 + 1) (min d (ml (1900 + ((y - 1900) * 12 + m - 1 + n) / 12) (((y - 1900) * 12 + m - 1 + n) % 12 + 1)))
end Go.Proofs.Ytgijjgnacgpdfaa
