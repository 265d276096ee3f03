/- Nothing is lost: what lay, and what fell, is what lies, and what left. -/
import Derived.Test.YteonkhohloabfaaH
namespace Go.Proofs.Yteonkhohloabfaa

def sumN (p : Nat → Int) : Nat → Int
  | 0 => 0
  | k + 1 => sumN p k + p k
theorem sumN_congr {p q : Nat → Int} : ∀ n, (∀ i, i < n → p i = q i) → sumN p n = sumN q n
  | 0, _ => rfl
  | n + 1, h => by
    simp only [sumN]
    rw [sumN_congr n (fun i hi => h i (by omega)), h n (by omega)]
theorem sumN_add (p q : Nat → Int) : ∀ n, sumN (fun i => p i + q i) n = sumN p n + sumN q n
  | 0 => rfl
  | n + 1 => by
    simp only [sumN]
    rw [sumN_add p q n]
    omega
theorem sumN_zero : ∀ n, sumN (fun _ => 0) n = 0
  | 0 => rfl
  | n + 1 => by
    simp only [sumN]
    rw [sumN_zero n]
    rfl
theorem sumN_one (x : Int) (j : Nat) : ∀ n, sumN (fun i => if (j : Int) = (i : Int) then x else 0) n = if j < n then x else 0
  | 0 => rfl
  | n + 1 => by
    simp only [sumN]
    rw [sumN_one x j n]
    repeat' split
    all_goals omega
theorem sumN_none (x : Int) (t : Int) (ht : t < 0) : ∀ n, sumN (fun i => if t = (i : Int) then x else 0) n = 0
  | 0 => rfl
  | n + 1 => by
    simp only [sumN]
    rw [sumN_none x t ht n, if_neg (by omega)]
    omega
/-- What the first k cells pass on to others. -/
def onTo (l : List Cell) (f : Nat → Int) : Nat → Int
  | 0 => 0
  | k + 1 => onTo l f k + if (cAt l k).to = -1 then 0 else onF (cAt l k) (f k)
theorem sum_inflow {l : List Cell} {f : Nat → Int} {n : Nat} : ∀ k, (∀ j, j < k → -1 ≤ (cAt l j).to ∧ (cAt l j).to < n) → sumN (fun i => inflow l f i k) n = onTo l f k
  | 0, _ => sumN_zero n
  | k + 1, h => by
    have ih := sum_inflow (f := f) (n := n) k (fun j hj => h j (by omega))
    have hs : sumN (fun i => inflow l f i (k + 1)) n = sumN (fun i => inflow l f i k) n + sumN (fun i => if (cAt l k).to = (i : Int) then onF (cAt l k) (f k) else 0) n := by
      rw [← sumN_add]
      exact sumN_congr n (fun i _ => rfl)
    rw [hs, ih]
    simp only [onTo]
    have hk := h k (by omega)
    by_cases ht : (cAt l k).to = -1
    · rw [if_pos ht, sumN_none _ _ (by omega)]
    · rw [if_neg ht]
      obtain ⟨j, hj⟩ : ∃ j : Nat, (cAt l k).to = j := ⟨(cAt l k).to.toNat, by omega⟩
      rw [hj, sumN_one, if_pos (by omega)]

/-- A day keeps all water. -/
theorem day_kept {l : List Cell} {f : Nat → Int} (hc : CsOk l) (down soaks : Int) : sumN (newLv l f soaks) l.length + newLeft l f down soaks = sumN f l.length + l.length * down := by
  have h1 : ∀ k, k ≤ l.length → sumN (newLv l f soaks) k + leftB l f soaks k = sumN (nowF l f soaks l.length) k := by
    intro k
    induction k with
    | zero => intro _; rfl
    | succ k ih =>
      intro hk
      have := ih (by omega)
      simp only [sumN, leftB, newLv]
      rw [if_pos (by omega)]
      omega
  have h2 : sumN (nowF l f soaks l.length) l.length = sumN (fun i => baseF (cAt l i) (f i) soaks) l.length + onTo l f l.length := by
    rw [← sum_inflow (n := l.length) l.length (fun j hj => ⟨(hc j hj).to1, (hc j hj).to2⟩), ← sumN_add]
    exact sumN_congr _ (fun i hi => by simp only [nowF]; rw [if_pos hi])
  have h3 : ∀ k : Nat, sumN (fun i => baseF (cAt l i) (f i) soaks) k + onTo l f k + leftA l f down soaks k = sumN f k + k * down := by
    intro k
    induction k with
    | zero => simp [sumN, onTo, leftA]
    | succ k ih =>
      simp only [sumN, onTo, leftA, baseF, staysF]
      simp only [baseF, staysF] at ih
      have e : ((k + 1 : Nat) : Int) * down = k * down + down := by rw [Int.natCast_add, Int.add_mul]; simp
      rw [e]
      split <;> omega
  have a := h1 l.length (Nat.le_refl _)
  have b := h3 l.length
  unfold newLeft
  omega
theorem down_snow (melt : Int) (d : Day) (r snow : Int) : downOf melt d r snow + snowOf melt d r snow = snow + r := by
  unfold downOf snowOf
  split <;> omega
/-- A run keeps all water. -/
theorem run_kept {l : List Cell} {melt soak : Int} {days : List Day} {rain : List Int} {x : St} (hc : CsOk l) : ∀ k,
    sumN (stAt l melt soak days rain x k).f l.length + l.length * (stAt l melt soak days rain x k).snow + sumN (fun j => (stAt l melt soak days rain x (j + 1)).left) k = sumN x.f l.length + l.length * x.snow + l.length * sumN (iAt rain) k
  | 0 => by simp [sumN, stAt]
  | k + 1 => by
    have ih := run_kept (melt := melt) (soak := soak) (days := days) (rain := rain) (x := x) hc k
    have hd := day_kept (f := (stAt l melt soak days rain x k).f) hc (downOf melt (dAt days k) (iAt rain k) (stAt l melt soak days rain x k).snow) (soaksOf soak (downOf melt (dAt days k) (iAt rain k) (stAt l melt soak days rain x k).snow))
    have hs := down_snow melt (dAt days k) (iAt rain k) (stAt l melt soak days rain x k).snow
    simp only [sumN]
    have e1 : (stAt l melt soak days rain x (k + 1)).f = newLv l (stAt l melt soak days rain x k).f (soaksOf soak (downOf melt (dAt days k) (iAt rain k) (stAt l melt soak days rain x k).snow)) := rfl
    have e2 : (stAt l melt soak days rain x (k + 1)).snow = snowOf melt (dAt days k) (iAt rain k) (stAt l melt soak days rain x k).snow := rfl
    have e3 : (stAt l melt soak days rain x (k + 1)).left = newLeft l (stAt l melt soak days rain x k).f (downOf melt (dAt days k) (iAt rain k) (stAt l melt soak days rain x k).snow) (soaksOf soak (downOf melt (dAt days k) (iAt rain k) (stAt l melt soak days rain x k).snow)) := rfl
    rw [e1, e2, e3]
    have e4 : (l.length : Int) * downOf melt (dAt days k) (iAt rain k) (stAt l melt soak days rain x k).snow + l.length * snowOf melt (dAt days k) (iAt rain k) (stAt l melt soak days rain x k).snow = l.length * (stAt l melt soak days rain x k).snow + l.length * iAt rain k := by
      rw [← Int.mul_add, hs, Int.mul_add]
    rw [Int.mul_add]
    omega
end Go.Proofs.Yteonkhohloabfaa
