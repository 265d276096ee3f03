/- The days of the water layer, as plain numbers: the state after each day, and its bounds. -/
import Derived.Test.YteonkhohloabfaaE
import Derived.Test.YteonkhohloabfaaC
namespace Go.Proofs.Yteonkhohloabfaa

def dAt (l : List Day) (k : Nat) : Day := l[k]?.getD ⟨0, 0, 0⟩
def iAt (l : List Int) (k : Nat) : Int := l[k]?.getD 0
theorem dAt_of {l : List Day} {k : Nat} {d : Day} (h : l[k]? = some d) : dAt l k = d := by simp [dAt, h]
theorem iAt_of {l : List Int} {k : Nat} {d : Int} (h : l[k]? = some d) : iAt l k = d := by simp [iAt, h]

/-- The levels, the snow, and what left on the last day. -/
structure St where
  f : Nat → Int
  snow : Int
  left : Int

def meltOf (melt : Int) (d : Day) (snow : Int) : Int := min snow (melt * d.warm)
def downOf (melt : Int) (d : Day) (r snow : Int) : Int := if d.warm ≤ 0 then 0 else r + meltOf melt d snow
def snowOf (melt : Int) (d : Day) (r snow : Int) : Int := if d.warm ≤ 0 then snow + r else snow - meltOf melt d snow
def soaksOf (soak down : Int) : Int := down * soak / 1000

def dayStep (l : List Cell) (melt soak : Int) (d : Day) (r : Int) (x : St) : St :=
  ⟨newLv l x.f (soaksOf soak (downOf melt d r x.snow)), snowOf melt d r x.snow, newLeft l x.f (downOf melt d r x.snow) (soaksOf soak (downOf melt d r x.snow))⟩

/-- The state after the first k days. -/
def stAt (l : List Cell) (melt soak : Int) (days : List Day) (rain : List Int) (x : St) : Nat → St
  | 0 => x
  | k + 1 => dayStep l melt soak (dAt days k) (iAt rain k) (stAt l melt soak days rain x k)

/-- What falls on the days, and the melting, within bounds. -/
structure DayOk (d : Day) : Prop where
  lo0 : 0 ≤ d.lo
  lohi : d.lo ≤ d.hi
  hi1 : d.hi ≤ 1000
  w0 : -50 ≤ d.warm
  w1 : d.warm ≤ 50
theorem dayOk_of {d : Day} (h : dayB d = true) : DayOk d := by
  simp only [dayB, upB, inB, Bool.and_eq_true, decide_eq_true_eq] at h
  constructor <;> omega
def DsOk (days : List Day) : Prop := ∀ i, i < days.length → DayOk (dAt days i)
def RsOk (days : List Day) (rain : List Int) : Prop := ∀ i, i < days.length → 0 ≤ iAt rain i ∧ iAt rain i ≤ 1000

/-- A state within its bounds after k days. -/
structure StOk (l : List Cell) (k : Nat) (x : St) : Prop where
  lv : LvOk l x.f
  snow0 : 0 ≤ x.snow
  snow1 : x.snow ≤ 100000 + k * 1000
  left0 : 0 ≤ x.left
  left1 : x.left ≤ 100000000

theorem melt_bd {melt : Int} {d : Day} (hd : DayOk d) (m0 : 0 ≤ melt) (m1 : melt ≤ 50) (hw : 0 < d.warm) : 0 ≤ melt * d.warm ∧ melt * d.warm ≤ 2500 := by
  have := hd.w1
  have h1 : 0 ≤ melt * d.warm := Int.mul_nonneg m0 (by omega)
  have h2 : melt * d.warm ≤ 50 * d.warm := Int.mul_le_mul_of_nonneg_right m1 (by omega)
  omega
theorem down_bd {melt : Int} {d : Day} {r snow : Int} (hd : DayOk d) (m0 : 0 ≤ melt) (m1 : melt ≤ 50) (r0 : 0 ≤ r) (r1 : r ≤ 1000) (s0 : 0 ≤ snow) : 0 ≤ downOf melt d r snow ∧ downOf melt d r snow ≤ 3500 := by
  unfold downOf meltOf
  split
  · omega
  · have := melt_bd hd m0 m1 (by omega)
    omega
theorem snow_bd {melt : Int} {d : Day} {r snow : Int} (hd : DayOk d) (m0 : 0 ≤ melt) (m1 : melt ≤ 50) (r0 : 0 ≤ r) (r1 : r ≤ 1000) (s0 : 0 ≤ snow) : 0 ≤ snowOf melt d r snow ∧ snowOf melt d r snow ≤ snow + 1000 := by
  unfold snowOf meltOf
  split
  · omega
  · have := melt_bd hd m0 m1 (by omega)
    omega
theorem soaks_bd {soak down : Int} (k0 : 0 ≤ soak) (k1 : soak ≤ 1000) (d0 : 0 ≤ down) : 0 ≤ down * soak ∧ down * soak ≤ down * 1000 ∧ 0 ≤ soaksOf soak down ∧ soaksOf soak down ≤ down := by
  have h1 : 0 ≤ down * soak := Int.mul_nonneg d0 k0
  have h2 : down * soak ≤ down * 1000 := Int.mul_le_mul_of_nonneg_left k1 d0
  unfold soaksOf
  omega

theorem newLeft_bd {l : List Cell} {f : Nat → Int} {soaks down : Int} (hc : CsOk l) (hf : LvOk l f) (h0 : 0 ≤ soaks) (h1 : soaks ≤ down) (h2 : down ≤ 10000) (h8 : l.length ≤ 8) : 0 ≤ newLeft l f down soaks ∧ newLeft l f down soaks ≤ 100000000 := by
  have a := leftA_bd hc hf h0 h1 h2 l.length (Nat.le_refl _)
  have b := leftB_bd hc hf h0 (by omega) h8 l.length (Nat.le_refl _)
  unfold newLeft
  omega

theorem dayStep_ok {l : List Cell} {melt soak : Int} {d : Day} {r : Int} {x : St} {k : Nat} (hc : CsOk l) (h8 : l.length ≤ 8) (hd : DayOk d) (m0 : 0 ≤ melt) (m1 : melt ≤ 50) (k0 : 0 ≤ soak) (k1 : soak ≤ 1000) (r0 : 0 ≤ r) (r1 : r ≤ 1000) (h : StOk l k x) : StOk l (k + 1) (dayStep l melt soak d r x) := by
  have hdn := down_bd hd m0 m1 r0 r1 h.snow0
  have hsk := soaks_bd k0 k1 hdn.1
  have hsn := snow_bd hd m0 m1 r0 r1 h.snow0
  have hl := newLeft_bd hc h.lv hsk.2.2.1 hsk.2.2.2 (by omega) h8
  have := h.snow1
  exact ⟨newLv_ok hc h.lv hsk.2.2.1 (by omega), hsn.1, by show snowOf _ _ _ _ ≤ _; omega, hl.1, hl.2⟩

/-- A ground on its way, with all its numbers in bounds. -/
structure WayOk (l : List Cell) (melt soak : Int) (days : List Day) (rain : List Int) (x : St) : Prop where
  cells : CsOk l
  few : l.length ≤ 8
  melt0 : 0 ≤ melt
  melt1 : melt ≤ 50
  soak0 : 0 ≤ soak
  soak1 : soak ≤ 1000
  ds : DsOk days
  many : days.length ≤ 30
  rs : RsOk days rain
  rains : rain.length = days.length
  start : StOk l 0 x
theorem stAt_ok {l : List Cell} {melt soak : Int} {days : List Day} {rain : List Int} {x : St} (h : WayOk l melt soak days rain x) : ∀ k, k ≤ days.length → StOk l k (stAt l melt soak days rain x k)
  | 0, _ => h.start
  | k + 1, hk => dayStep_ok h.cells h.few (h.ds k (by omega)) h.melt0 h.melt1 h.soak0 h.soak1 (h.rs k (by omega)).1 (h.rs k (by omega)).2 (stAt_ok h k (by omega))
end Go.Proofs.Yteonkhohloabfaa
