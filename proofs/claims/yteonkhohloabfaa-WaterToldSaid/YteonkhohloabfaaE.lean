/- A day of the water layer, as plain numbers: what each cell takes, keeps and passes on, and the bounds of all of it. -/
import Derived.Test.YteonkhohloabfaaA
namespace Go.Proofs.Yteonkhohloabfaa

def cAt (l : List Cell) (j : Nat) : Cell := l[j]?.getD ⟨0, 0, 0, 0, 0, 0, 0⟩
theorem cAt_of {l : List Cell} {k : Nat} {c : Cell} (h : l[k]? = some c) : cAt l k = c := by simp [cAt, h]

def takenF (c : Cell) (x : Int) : Int := min x c.pump
def staysF (c : Cell) (x : Int) : Int := x - takenF c x
def overF (c : Cell) (x : Int) : Int := max 0 (staysF c x - c.keep)
def onF (c : Cell) (x : Int) : Int := overF c x * c.pass / 1000
def baseF (c : Cell) (x soaks : Int) : Int := staysF c x - onF c x + soaks

/-- What the first k cells pass on to cell i. -/
def inflow (l : List Cell) (f : Nat → Int) (i : Nat) : Nat → Int
  | 0 => 0
  | k + 1 => inflow l f i k + if (cAt l k).to = (i : Int) then onF (cAt l k) (f k) else 0

/-- What lies in cell i when the first k cells have been gone through. -/
def nowF (l : List Cell) (f : Nat → Int) (soaks : Int) (k i : Nat) : Int := (if i < k then baseF (cAt l i) (f i) soaks else 0) + inflow l f i k

/-- What has left when the first k cells have been gone through. -/
def leftA (l : List Cell) (f : Nat → Int) (down soaks : Int) : Nat → Int
  | 0 => 0
  | k + 1 => leftA l f down soaks k + (down - soaks + takenF (cAt l k) (f k)) + if (cAt l k).to = -1 then onF (cAt l k) (f k) else 0
/-- What has flowed over of the first k cells. -/
def leftB (l : List Cell) (f : Nat → Int) (soaks : Int) : Nat → Int
  | 0 => 0
  | k + 1 => leftB l f soaks k + max 0 (nowF l f soaks l.length k - (cAt l k).cap)

def newLv (l : List Cell) (f : Nat → Int) (soaks : Int) (i : Nat) : Int := if i < l.length then min (nowF l f soaks l.length i) (cAt l i).cap else f i
def newLeft (l : List Cell) (f : Nat → Int) (down soaks : Int) : Int := leftA l f down soaks l.length + leftB l f soaks l.length

/-- What is asked of a cell: the bounds that a valid one has. -/
structure CellOk (n : Nat) (c : Cell) : Prop where
  cap1 : 1 ≤ c.cap
  cap2 : c.cap ≤ 100000
  keep1 : 0 ≤ c.keep
  pass1 : 0 ≤ c.pass
  pass2 : c.pass ≤ 1000
  to1 : -1 ≤ c.to
  to2 : c.to < n
  pump1 : 0 ≤ c.pump
  pump2 : c.pump ≤ 100000
  lo1 : 0 ≤ c.lo
  lohi : c.lo ≤ c.hi
  hi2 : c.hi ≤ c.cap
  keep2 : c.keep ≤ c.cap

theorem cellOk_of {n : Nat} {c : Cell} (h : cellB n c = true) : CellOk n c := by
  simp only [cellB, inB, upB, Bool.and_eq_true, decide_eq_true_eq] at h
  constructor <;> omega

section
variable {n : Nat} {c : Cell} {x : Int}
theorem taken_bd (h : CellOk n c) (h0 : 0 ≤ x) : 0 ≤ takenF c x ∧ takenF c x ≤ x ∧ takenF c x ≤ 100000 := by
  have := h.pump1; have := h.pump2
  unfold takenF; omega
theorem stays_bd (h : CellOk n c) (h0 : 0 ≤ x) : 0 ≤ staysF c x ∧ staysF c x ≤ x := by
  have := taken_bd h h0
  unfold staysF; omega
theorem over_bd (h : CellOk n c) (h0 : 0 ≤ x) : 0 ≤ overF c x ∧ overF c x ≤ staysF c x := by
  have := stays_bd h h0; have := h.keep1
  unfold overF; omega
theorem prod_bd (h : CellOk n c) (h0 : 0 ≤ x) (h1 : x ≤ 100000) : 0 ≤ overF c x * c.pass ∧ overF c x * c.pass ≤ 100000000 ∧ overF c x * c.pass ≤ overF c x * 1000 := by
  have ho := over_bd h h0; have hs := stays_bd h h0; have p1 := h.pass1; have p2 := h.pass2
  have a := Int.mul_nonneg ho.1 p1
  have b : overF c x * c.pass ≤ overF c x * 1000 := Int.mul_le_mul_of_nonneg_left p2 ho.1
  exact ⟨a, by omega, b⟩
theorem on_bd (h : CellOk n c) (h0 : 0 ≤ x) (h1 : x ≤ 100000) : 0 ≤ onF c x ∧ onF c x ≤ overF c x ∧ onF c x ≤ 100000 := by
  have ho := over_bd h h0; have hs := stays_bd h h0; have hp := prod_bd h h0 h1
  unfold onF; omega
theorem base_bd (h : CellOk n c) (h0 : 0 ≤ x) (h1 : x ≤ 100000) {soaks : Int} (hs0 : 0 ≤ soaks) (hs1 : soaks ≤ 10000) : 0 ≤ baseF c x soaks ∧ baseF c x soaks ≤ 110000 := by
  have ho := over_bd h h0; have hs := stays_bd h h0; have hp := on_bd h h0 h1
  unfold baseF; omega
end

/-- Levels of valid cells, within their bounds. -/
def LvOk (l : List Cell) (f : Nat → Int) : Prop := ∀ i, i < l.length → 0 ≤ f i ∧ f i ≤ 100000
def CsOk (l : List Cell) : Prop := ∀ i, i < l.length → CellOk l.length (cAt l i)

section
variable {l : List Cell} {f : Nat → Int} {soaks down : Int}
theorem inflow_bd (hc : CsOk l) (hf : LvOk l f) (i : Nat) : ∀ k, k ≤ l.length → 0 ≤ inflow l f i k ∧ inflow l f i k ≤ k * 100000
  | 0, _ => by simp [inflow]
  | k + 1, hk => by
    have ih := inflow_bd hc hf i k (by omega)
    have hb := on_bd (hc k (by omega)) (hf k (by omega)).1 (hf k (by omega)).2
    simp only [inflow]
    split <;> omega
theorem now_bd (hc : CsOk l) (hf : LvOk l f) (h0 : 0 ≤ soaks) (h1 : soaks ≤ 10000) (k i : Nat) (hk : k ≤ l.length) : 0 ≤ nowF l f soaks k i ∧ nowF l f soaks k i ≤ 110000 + k * 100000 := by
  have ha := inflow_bd hc hf i k hk
  unfold nowF
  split
  · have := base_bd (hc i (by omega)) (hf i (by omega)).1 (hf i (by omega)).2 h0 h1
    omega
  · omega
theorem leftA_bd (hc : CsOk l) (hf : LvOk l f) (h0 : 0 ≤ soaks) (h1 : soaks ≤ down) (h2 : down ≤ 10000) : ∀ k, k ≤ l.length → 0 ≤ leftA l f down soaks k ∧ leftA l f down soaks k ≤ k * 210000
  | 0, _ => by simp [leftA]
  | k + 1, hk => by
    have ih := leftA_bd hc hf h0 h1 h2 k (by omega)
    have hb := on_bd (hc k (by omega)) (hf k (by omega)).1 (hf k (by omega)).2
    have ht := taken_bd (hc k (by omega)) (hf k (by omega)).1
    simp only [leftA]
    split <;> omega
theorem leftB_bd (hc : CsOk l) (hf : LvOk l f) (h0 : 0 ≤ soaks) (h1 : soaks ≤ 10000) (h8 : l.length ≤ 8) : ∀ k, k ≤ l.length → 0 ≤ leftB l f soaks k ∧ leftB l f soaks k ≤ k * 1000000
  | 0, _ => by simp [leftB]
  | k + 1, hk => by
    have ih := leftB_bd hc hf h0 h1 h8 k (by omega)
    have hb := now_bd hc hf h0 h1 l.length k (Nat.le_refl _)
    have := (hc k (by omega)).cap1
    simp only [leftB]
    omega
theorem newLv_ok (hc : CsOk l) (hf : LvOk l f) (h0 : 0 ≤ soaks) (h1 : soaks ≤ 10000) : LvOk l (newLv l f soaks) := fun i hi => by
  have hb := now_bd hc hf h0 h1 l.length i (Nat.le_refl _)
  have h2 := hc i hi
  have := h2.cap1; have := h2.cap2
  unfold newLv
  rw [if_pos hi]
  omega
end

/-- One step of the first loop. -/
theorem nowF_step (l : List Cell) (f : Nat → Int) (soaks : Int) (k i : Nat) (c : Cell) (hc : l[k]? = some c) :
    nowF l f soaks (k + 1) i = nowF l f soaks k i + (if i = k then baseF c (f k) soaks else 0) + (if c.to = (i : Int) then onF c (f k) else 0) := by
  have e := cAt_of hc
  unfold nowF
  simp only [inflow, e]
  by_cases h1 : i = k
  · subst h1
    rw [e]
    simp
    omega
  · by_cases h2 : i < k
    · rw [if_pos (by omega), if_pos h2, if_neg h1]; omega
    · rw [if_neg (by omega), if_neg h2, if_neg h1]; omega
theorem leftB_step (l : List Cell) (f : Nat → Int) (soaks : Int) (k : Nat) (c : Cell) (hc : l[k]? = some c) : leftB l f soaks (k + 1) = leftB l f soaks k + max 0 (nowF l f soaks l.length k - c.cap) := by
  simp only [leftB, cAt_of hc]
theorem leftA_step (l : List Cell) (f : Nat → Int) (down soaks : Int) (k : Nat) (c : Cell) (hc : l[k]? = some c) : leftA l f down soaks (k + 1) = leftA l f down soaks k + (down - soaks + takenF c (f k)) + if c.to = -1 then onF c (f k) else 0 := by
  simp only [leftA, cAt_of hc]
end Go.Proofs.Yteonkhohloabfaa
