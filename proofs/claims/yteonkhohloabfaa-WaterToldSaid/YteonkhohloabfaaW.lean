/- Plain laws of the water layer: with less of everything, and greater pumps, no level is greater. -/
import Derived.Test.YteonkhohloabfaaH
namespace Go.Proofs.Yteonkhohloabfaa

/-- The same cells, with pumps that are not lesser. -/
structure Drier (l' l : List Cell) : Prop where
  len : l'.length = l.length
  cap : ∀ i, i < l.length → (cAt l' i).cap = (cAt l i).cap
  keep : ∀ i, i < l.length → (cAt l' i).keep = (cAt l i).keep
  pass : ∀ i, i < l.length → (cAt l' i).pass = (cAt l i).pass
  to : ∀ i, i < l.length → (cAt l' i).to = (cAt l i).to
  pump : ∀ i, i < l.length → (cAt l i).pump ≤ (cAt l' i).pump
theorem Drier.refl (l : List Cell) : Drier l l := ⟨rfl, fun _ _ => rfl, fun _ _ => rfl, fun _ _ => rfl, fun _ _ => rfl, fun _ _ => Int.le_refl _⟩

section
variable {c c' : Cell} {x x' : Int}
theorem stays_mono (hp : c.pump ≤ c'.pump) (hx : x' ≤ x) : staysF c' x' ≤ staysF c x := by
  unfold staysF takenF; omega
theorem over_mono (hp : c.pump ≤ c'.pump) (hk : c'.keep = c.keep) (hx : x' ≤ x) : overF c' x' ≤ overF c x ∧ overF c x - overF c' x' ≤ staysF c x - staysF c' x' := by
  have := stays_mono (c := c) (c' := c') hp hx
  unfold overF; omega
theorem on_mono (hp : c.pump ≤ c'.pump) (hk : c'.keep = c.keep) (hpa : c'.pass = c.pass) (p0 : 0 ≤ c.pass) (p1 : c.pass ≤ 1000) (hx : x' ≤ x) : onF c' x' ≤ onF c x ∧ staysF c' x' - onF c' x' ≤ staysF c x - onF c x := by
  obtain ⟨h1, h2⟩ := over_mono hp hk hx
  unfold onF
  rw [hpa]
  have a : overF c' x' * c.pass ≤ overF c x * c.pass := Int.mul_le_mul_of_nonneg_right h1 p0
  have b : (overF c x - overF c' x') * c.pass ≤ (overF c x - overF c' x') * 1000 := Int.mul_le_mul_of_nonneg_left p1 (by omega)
  rw [Int.sub_mul] at b
  omega
end

section
variable {l l' : List Cell} {f f' : Nat → Int} {s s' : Int}
theorem inflow_mono (hd : Drier l' l) (hc : CsOk l) (hf : ∀ i, i < l.length → f' i ≤ f i) (i : Nat) : ∀ k, k ≤ l.length → inflow l' f' i k ≤ inflow l f i k
  | 0, _ => Int.le_refl _
  | k + 1, hk => by
    have ih := inflow_mono hd hc hf i k (by omega)
    have ho := (on_mono (hd.pump k (by omega)) (hd.keep k (by omega)) (hd.pass k (by omega)) (hc k (by omega)).pass1 (hc k (by omega)).pass2 (hf k (by omega))).1
    simp only [inflow]
    rw [hd.to k (by omega)]
    split <;> omega
theorem newLv_mono (hd : Drier l' l) (hc : CsOk l) (hf : ∀ i, i < l.length → f' i ≤ f i) (hs : s' ≤ s) (i : Nat) (hi : i < l.length) : newLv l' f' s' i ≤ newLv l f s i := by
  have hin := inflow_mono hd hc hf i l.length (Nat.le_refl _)
  have ho := (on_mono (hd.pump i hi) (hd.keep i hi) (hd.pass i hi) (hc i hi).pass1 (hc i hi).pass2 (hf i hi)).2
  unfold newLv nowF baseF
  rw [hd.len, if_pos hi, if_pos hi, if_pos hi, if_pos hi, hd.cap i hi]
  omega
end

theorem soaks_mono {k k' d d' : Int} (hk0 : 0 ≤ k') (hk : k' ≤ k) (hd0 : 0 ≤ d') (hd : d' ≤ d) : soaksOf k' d' ≤ soaksOf k d := by
  unfold soaksOf
  have a : d' * k' ≤ d * k' := Int.mul_le_mul_of_nonneg_right hd hk0
  have b : d * k' ≤ d * k := Int.mul_le_mul_of_nonneg_left hk (by omega)
  omega
theorem down_mono {m : Int} {d : Day} {r r' s s' : Int} (hr : r' ≤ r) (hs : s' ≤ s) : downOf m d r' s' ≤ downOf m d r s := by
  unfold downOf meltOf
  split <;> omega
theorem snow_mono {m : Int} {d : Day} {r r' s s' : Int} (hr : r' ≤ r) (hs : s' ≤ s) : snowOf m d r' s' ≤ snowOf m d r s := by
  unfold snowOf meltOf
  split <;> omega

/-- Less of everything. -/
theorem stAt_mono {l l' : List Cell} {melt k k' : Int} {days : List Day} {rain rain' : List Int} {x x' : St} (h : WayOk l melt k days rain x) (h' : WayOk l' melt k' days rain' x') (hd : Drier l' l) (hk : k' ≤ k)
    (hr : ∀ i, i < days.length → iAt rain' i ≤ iAt rain i) (hf : ∀ i, i < l.length → x'.f i ≤ x.f i) (hs : x'.snow ≤ x.snow) :
    ∀ n, n ≤ days.length → (∀ i, i < l.length → (stAt l' melt k' days rain' x' n).f i ≤ (stAt l melt k days rain x n).f i) ∧ (stAt l' melt k' days rain' x' n).snow ≤ (stAt l melt k days rain x n).snow
  | 0, _ => ⟨hf, hs⟩
  | n + 1, hn => by
    obtain ⟨ih1, ih2⟩ := stAt_mono h h' hd hk hr hf hs n (by omega)
    have ok' := stAt_ok h' n (by omega)
    have hrb := h'.rs n (by omega)
    have hdb := down_bd (h'.ds n (by omega)) h'.melt0 h'.melt1 hrb.1 hrb.2 ok'.snow0
    have hdm := down_mono (m := melt) (d := dAt days n) (hr n (by omega)) ih2
    refine ⟨fun i hi => ?_, snow_mono (hr n (by omega)) ih2⟩
    exact newLv_mono hd h.cells ih1 (soaks_mono h'.soak0 hk hdb.1 hdm) i hi
end Go.Proofs.Yteonkhohloabfaa
