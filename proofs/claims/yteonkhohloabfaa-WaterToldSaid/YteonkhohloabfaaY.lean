/- The reference of the water layer: the levels after one day more. -/
import Derived.Test.YteonkhohloabfaaX
namespace Go.Proofs.Yteonkhohloabfaa
open Go.RowKit

/-- The memory of After: its boxes, and the levels of the day before. -/
structure RaB (w : World) (gcs tcs : Array Value) (lb lo n : Nat) (f : Nat → Int) (W : World) : Prop where
  below : Below w.heap.size w W
  gb : Whole W w.heap.size 26 gcs
  tb : Whole W (w.heap.size + 1) 47 tcs
  lv : ∀ i, i < n → W.cell? ⟨lb, lo + i, none⟩ = some (vi (f i))
  far : lb < W.heap.size
theorem RaB.newer {w : World} {gcs tcs : Array Value} {lb lo n : Nat} {f : Nat → Int} {W W' : World} (h : RaB w gcs tcs lb lo n f W) (hb : newer W W') : RaB w gcs tcs lb lo n f W' :=
  ⟨below_next h.below hb, h.gb.below hb h.gb.lt, h.tb.below hb h.tb.lt, fun i hi => (hb.cell (p := ⟨lb, lo + i, none⟩) h.far).trans (h.lv i hi), Nat.lt_of_lt_of_le h.far hb.size⟩
theorem newer_drewN (W : World) (n : Nat) : newer W (W.drewN n) := ⟨rfl, rfl, rfl, Nat.le_refl _, fun _ _ => rfl⟩
/-- What stays, and what passes, of the first k cells. -/
def svTo (l : List Cell) (f : Nat → Int) (k i : Nat) : Int := if i < k then staysF (cAt l i) (f i) - onF (cAt l i) (f i) else 0
def pvTo (l : List Cell) (f : Nat → Int) (k i : Nat) : Int := if i < k then onF (cAt l i) (f i) else 0
/-- The same, with the rows of what stays and what passes. -/
structure RaC (w : World) (gcs tcs : Array Value) (lb lo n : Nat) (f : Nat → Int) (sb pb : Nat) (sv pv : Nat → Int) (W : World) : Prop where
  ra : RaB w gcs tcs lb lo n f W
  st : Whole W sb 3 (intArr n sv)
  ps : Whole W pb 3 (intArr n pv)
  far : w.heap.size + 1 < sb ∧ w.heap.size + 1 < pb ∧ sb ≠ pb ∧ lb < sb ∧ lb < pb
section
variable {w : World} {gcs tcs : Array Value} {lb lo n : Nat} {f : Nat → Int} {sb pb : Nat} {sv pv : Nat → Int} {W W' : World}
theorem RaC.newer (h : RaC w gcs tcs lb lo n f sb pb sv pv W) (hb : newer W W') : RaC w gcs tcs lb lo n f sb pb sv pv W' :=
  ⟨h.ra.newer hb, h.st.below hb h.st.lt, h.ps.below hb h.ps.lt, h.far⟩
theorem RaB.set (h : RaB w gcs tcs lb lo n f W) {b i : Nat} (hb : w.heap.size + 1 < b) (hl : lb ≠ b) (u : Value) : RaB w gcs tcs lb lo n f (W.setCell ⟨b, i, none⟩ u) :=
  ⟨h.below.setCell (p := ⟨b, i, none⟩) (by dsimp only; omega) _, h.gb.far (by dsimp only; omega) _, h.tb.far (by dsimp only; omega) _, fun i hi => (World.cell?_of_block (Below.heap_setCell W ⟨b, _, none⟩ u lb (by dsimp only; omega))).trans (h.lv i hi), by simpa [World.setCell] using h.far⟩
theorem RaC.setS (h : RaC w gcs tcs lb lo n f sb pb sv pv W) {k : Nat} (x : Int) {sv' : Nat → Int} (he : ∀ i, i < n → sv' i = if i = k then x else sv i) : RaC w gcs tcs lb lo n f sb pb sv' pv (W.setCell ⟨sb, k, none⟩ (vi x)) := by
  have hf := h.far
  refine ⟨h.ra.set (by omega) (by omega) _, ?_, h.ps.far (by dsimp only; omega) _, hf⟩
  have := h.st.set k (vi x)
  rwa [intArr_set sv sv' x he] at this
theorem RaC.setP (h : RaC w gcs tcs lb lo n f sb pb sv pv W) {k : Nat} (x : Int) {pv' : Nat → Int} (he : ∀ i, i < n → pv' i = if i = k then x else pv i) : RaC w gcs tcs lb lo n f sb pb sv pv' (W.setCell ⟨pb, k, none⟩ (vi x)) := by
  have hf := h.far
  refine ⟨h.ra.set (by omega) (by omega) _, h.st.far (by dsimp only; omega) _, ?_, hf⟩
  have := h.ps.set k (vi x)
  rwa [intArr_set pv pv' x he] at this
theorem RaC.congr (h : RaC w gcs tcs lb lo n f sb pb sv pv W) {sv' pv' : Nat → Int} (hs : ∀ i, i < n → sv i = sv' i) (hp : ∀ i, i < n → pv i = pv' i) : RaC w gcs tcs lb lo n f sb pb sv' pv' W :=
  ⟨h.ra, by rw [← intArr_congr hs]; exact h.st, by rw [← intArr_congr hp]; exact h.ps, h.far⟩
end
/-- Both rows are made. -/
def RaM (w : World) (gcs tcs : Array Value) (lb lo n : Nat) (f : Nat → Int) (s19 s20 : Value) (W : World) : Prop :=
  ∃ sb pb, s19 = .slice (some ⟨sb, 0, none⟩) n n ∧ s20 = .slice (some ⟨pb, 0, none⟩) n n ∧ RaC w gcs tcs lb lo n f sb pb (fun _ => 0) (fun _ => 0) W
theorem RaM.made {w : World} {gcs tcs : Array Value} {lb lo n : Nat} {f : Nat → Int} {W : World} (h : RaB w gcs tcs lb lo n f W) {W' : World} (hW : W' = ((W.alloc (.cells (intArr n fun _ => 0) 3)).alloc (.cells (intArr n fun _ => 0) 3)).drew) :
    RaM w gcs tcs lb lo n f (.slice (some ⟨W.heap.size, 0, none⟩) n n) (.slice (some ⟨W.heap.size + 1, 0, none⟩) n n) W' ∧ RaM w gcs tcs lb lo n f (.slice (some ⟨W.heap.size + 1, 0, none⟩) n n) (.slice (some ⟨W.heap.size, 0, none⟩) n n) W' := by
  subst hW
  have hb : newer W ((W.alloc (.cells (intArr n fun _ => 0) 3)).alloc (.cells (intArr n fun _ => 0) 3)).drew := (((Below.refl _ _).alloc (Nat.le_refl _) _).alloc (by simp) _).drew
  have h1 : Whole ((W.alloc (.cells (intArr n fun _ => 0) 3)).alloc (.cells (intArr n fun _ => 0) 3)).drew W.heap.size 3 (intArr n fun _ => 0) := (Whole.made W 3 _).alloc _
  have h2 : Whole ((W.alloc (.cells (intArr n fun _ => 0) 3)).alloc (.cells (intArr n fun _ => 0) 3)).drew (W.heap.size + 1) 3 (intArr n fun _ => 0) := by
    have := Whole.made (W.alloc (.cells (intArr n fun _ => 0) 3)) 3 (intArr n fun _ => 0)
    rw [World.size_alloc] at this
    exact this
  have hf := h.far
  have ht := h.tb.lt
  exact ⟨⟨_, _, rfl, rfl, h.newer hb, h1, h2, by omega, by omega, by omega, by omega, by omega⟩, ⟨_, _, rfl, rfl, h.newer hb, h2, h1, by omega, by omega, by omega, by omega, by omega⟩⟩
/-- A row of zeros, made new. -/
def vInts (B n : Nat) (v : Value) (W : World) : Prop := ∃ nb, v = .slice (some ⟨nb, 0, none⟩) n n ∧ B ≤ nb ∧ Whole W nb 3 (intArr n fun _ => 0)
theorem vInts_st {B n : Nat} : ∀ v W W', vInts B n v W → newer W W' → vInts B n v W' := fun _ _ _ ⟨nb, h1, h2, h3⟩ hb => ⟨nb, h1, h2, h3.below hb h3.lt⟩
/-- Two values lie in blocks apart. -/
def apart2 (v v' : Value) : Prop := ∀ b b', v.ownBlock = some b → v'.ownBlock = some b' → b ≠ b'
theorem apart_new {B n : Nat} {v' : Value} {W : World} (h : vInts B n v' W) : apart2 (.slice (some ⟨W.heap.size, 0, none⟩) n n) v' ∧ apart2 v' (.slice (some ⟨W.heap.size, 0, none⟩) n n) := by
  obtain ⟨nb, rfl, _, hw⟩ := h
  have := hw.lt
  refine ⟨fun b b' e e' => ?_, fun b b' e e' => ?_⟩
  · have e1 : W.heap.size = b := by simpa [Value.ownBlock] using e
    have e2 : nb = b' := by simpa [Value.ownBlock] using e'
    omega
  · have e1 : nb = b := by simpa [Value.ownBlock] using e
    have e2 : W.heap.size = b' := by simpa [Value.ownBlock] using e'
    omega
/-- What has left while the first loop goes through the cells. -/
def leftR (l : List Cell) (f : Nat → Int) (down soaks : Int) (k : Nat) : Int := leftA l f down soaks k + ((l.length : Int) - k) * (down - soaks)
theorem leftR_zero (l : List Cell) (f : Nat → Int) (down soaks : Int) : leftR l f down soaks 0 = (l.length : Int) * (down - soaks) := by simp [leftR, leftA]
theorem leftR_all (l : List Cell) (f : Nat → Int) (down soaks : Int) : leftR l f down soaks l.length = leftA l f down soaks l.length := by simp [leftR]
theorem leftR_step (l : List Cell) (f : Nat → Int) (down soaks : Int) (k : Nat) (c : Cell) (hc : l[k]? = some c) : leftR l f down soaks (k + 1) = leftR l f down soaks k + takenF c (f k) + if c.to = -1 then onF c (f k) else 0 := by
  unfold leftR
  rw [leftA_step l f down soaks k c hc]
  have : ((l.length : Int) - ((k + 1 : Nat) : Int)) * (down - soaks) = ((l.length : Int) - k) * (down - soaks) - (down - soaks) := by
    rw [show ((l.length : Int) - ((k + 1 : Nat) : Int)) = ((l.length : Int) - k) - 1 by omega, Int.sub_mul, Int.one_mul]
  rw [this]
  omega
theorem leftR_bd {l : List Cell} {f : Nat → Int} {down soaks : Int} (hc : CsOk l) (hf : LvOk l f) (h0 : 0 ≤ soaks) (h1 : soaks ≤ down) (h2 : down ≤ 10000) (h8 : l.length ≤ 8) (k : Nat) (hk : k ≤ l.length) : 0 ≤ leftR l f down soaks k ∧ leftR l f down soaks k ≤ 10000000 := by
  have a := leftA_bd hc hf h0 h1 h2 k hk
  have b1 : 0 ≤ ((l.length : Int) - k) * (down - soaks) := Int.mul_nonneg (by omega) (by omega)
  have b2 : ((l.length : Int) - k) * (down - soaks) ≤ 8 * (down - soaks) := Int.mul_le_mul_of_nonneg_right (by omega) (by omega)
  unfold leftR
  omega
theorem row7' {w : World} {B b off : Nat} {l : List Cell} (h : Row cellL 7 w B (some ⟨b, off, none⟩) l) {k : Nat} {c : Cell} (hk : l[k]? = some c) :
    w.cell? ⟨b, off + k * 7, none⟩ = some (.int .i64 c.lo) ∧ w.cell? ⟨b, off + k * 7 + 1, none⟩ = some (.int .i64 c.hi) ∧ w.cell? ⟨b, off + k * 7 + 2, none⟩ = some (.int .i64 c.cap) ∧
      w.cell? ⟨b, off + k * 7 + 3, none⟩ = some (.int .i64 c.keep) ∧ w.cell? ⟨b, off + k * 7 + 4, none⟩ = some (.int .i64 c.pass) ∧ w.cell? ⟨b, off + k * 7 + 5, none⟩ = some (.int .i64 c.to) ∧ w.cell? ⟨b, off + k * 7 + 6, none⟩ = some (.int .i64 c.pump) := by
  obtain ⟨b', off', e, _, h0⟩ := row7 h hk
  injection e with e
  injection e with e1 e2
  subst e1
  subst e2
  exact h0
theorem svTo_at {l : List Cell} {f : Nat → Int} {k : Nat} {c : Cell} (hc : l[k]? = some c) (n : Nat) (h : k < n) : svTo l f n k = staysF c (f k) - onF c (f k) := by
  unfold svTo; rw [if_pos h, cAt_of hc]
theorem pvTo_at {l : List Cell} {f : Nat → Int} {k : Nat} {c : Cell} (hc : l[k]? = some c) (n : Nat) (h : k < n) : pvTo l f n k = onF c (f k) := by
  unfold pvTo; rw [if_pos h, cAt_of hc]
theorem svTo_step {l : List Cell} {f : Nat → Int} {k : Nat} {c : Cell} (hc : l[k]? = some c) (i : Nat) : svTo l f (k + 1) i = if i = k then staysF c (f k) - onF c (f k) else svTo l f k i := by
  unfold svTo
  by_cases h : i = k
  · subst h; rw [if_pos (by omega), if_pos rfl, cAt_of hc]
  · rw [if_neg h]
    by_cases h2 : i < k
    · rw [if_pos (by omega), if_pos h2]
    · rw [if_neg (by omega), if_neg h2]
theorem pvTo_step {l : List Cell} {f : Nat → Int} {k : Nat} {c : Cell} (hc : l[k]? = some c) (i : Nat) : pvTo l f (k + 1) i = if i = k then onF c (f k) else pvTo l f k i := by
  unfold pvTo
  by_cases h : i = k
  · subst h; rw [if_pos (by omega), if_pos rfl, cAt_of hc]
  · rw [if_neg h]
    by_cases h2 : i < k
    · rw [if_pos (by omega), if_pos h2]
    · rw [if_neg (by omega), if_neg h2]
theorem pvTo_skip {l : List Cell} {f : Nat → Int} {k : Nat} {c : Cell} (hc : l[k]? = some c) (h0 : onF c (f k) = 0) (i : Nat) : pvTo l f k i = pvTo l f (k + 1) i := by
  rw [pvTo_step hc i]
  split
  · rename_i h; subst h; unfold pvTo; rw [if_neg (by omega), h0]
  · rfl
abbrev cellC (c : Cell) : Array Value := #[vi c.lo, vi c.hi, vi c.cap, vi c.keep, vi c.pass, vi c.to, vi c.pump]
theorem flat_snoc (f : Nat → Int) (i : Nat) : ((List.range i).map f).flatMap intL ++ [vi (f i)] = ((List.range (i + 1)).map f).flatMap intL := by
  rw [List.range_succ, List.map_append, List.flatMap_append]
  rfl
theorem RaC.grown {w : World} {gcs tcs : Array Value} {lb lo n : Nat} {f : Nat → Int} {sb pb : Nat} {sv pv : Nat → Int} {W W' : World} (h : RaC w gcs tcs lb lo n f sb pb sv pv W) {row : Option Nat} (hg : W.grownBy W' row) (hr : ∀ q, row = some q → sb < q ∧ pb < q) : RaC w gcs tcs lb lo n f sb pb sv pv W' := by
  have hf := h.far
  have hl := h.ra.tb.lt
  have hne : ∀ b, b ≤ sb ∨ b ≤ pb → some b ≠ row := fun b hb e => by have := hr b e.symm; omega
  refine ⟨⟨h.ra.below.trans (below_grown (B := w.heap.size) hg (fun q e => by have := hr q e; omega) (by omega)), h.ra.gb.grown hg (hne _ (by omega)), h.ra.tb.grown hg (hne _ (by omega)), fun i hi => (World.cell?_of_block (hg.block lb h.ra.far (hne _ (by omega)))).trans (h.ra.lv i hi), Nat.lt_of_lt_of_le h.ra.far hg.size⟩, h.st.grown hg (hne _ (by omega)), h.ps.grown hg (hne _ (by omega)), hf⟩
theorem nowF_full {l : List Cell} {f : Nat → Int} {i : Nat} {c : Cell} (hc : l[i]? = some c) (sk : Int) : nowF l f sk l.length i = baseF c (f i) sk + inflow l f i l.length := by
  unfold nowF
  rw [if_pos (List.getElem?_eq_some_iff.1 hc).1, cAt_of hc]
theorem newLv_at {l : List Cell} {f : Nat → Int} {i : Nat} {c : Cell} (hc : l[i]? = some c) (sk : Int) : newLv l f sk i = min (nowF l f sk l.length i) c.cap := by
  unfold newLv
  rw [if_pos (List.getElem?_eq_some_iff.1 hc).1, cAt_of hc]
theorem inflow_step {l : List Cell} {f : Nat → Int} {q : Nat} {c : Cell} (hc : l[q]? = some c) (i : Nat) : inflow l f i (q + 1) = inflow l f i q + if c.to = (i : Int) then onF c (f q) else 0 := by
  simp only [inflow, cAt_of hc]

set_option maxRecDepth 100000 in
set_option maxHeartbeats 4000000 in
theorem refAfter_succ (g : Gnd) (A : Option Addr) (cp : Nat) (days : List Day) (D : Option Addr) (dp : Nat) (snow soak : Int) (levels : List Int) (L : Option Addr) (lp : Nat) (rain : List Int) (R : Option Addr) (rp : Nat) (y : St) (k : Nat) (w : World)
    (h1 : 1 ≤ g.cells.length) (h8 : g.cells.length ≤ 8) (hcs : CsOk g.cells) (m0 : 0 ≤ g.melt) (m1 : g.melt ≤ 50) (k0 : 0 ≤ soak) (k1 : soak ≤ 1000) (hkd : k < days.length) (hk30 : days.length ≤ 30) (hkr : k < rain.length) (hdo : DayOk (dAt days k)) (r0 : 0 ≤ iAt rain k) (r1 : iAt rain k ≤ 1000)
    (hlv : LvOk g.cells y.f) (s0 : 0 ≤ y.snow) (s1 : y.snow ≤ 1000000)
    (hc : Row cellL 7 w w.heap.size A g.cells) (hd : Row dayL 3 w w.heap.size D days) (hr : Row intL 1 w w.heap.size R rain)
    (hrec : ∀ W, Below w.heap.size w W → Calls Try.prog 22 #[gndV A cp g, .slice D days.length dp, truthV snow soak L levels.length lp R rain.length rp, .int .i64 (k : Int)] W (aftered W g.cells.length y)) :
    Calls Try.prog 22 #[gndV A cp g, .slice D days.length dp, truthV snow soak L levels.length lp R rain.length rp, .int .i64 ((k : Int) + 1)] w (aftered w g.cells.length (dayStep g.cells g.melt soak (dAt days k) (iAt rain k) y)) := by
  have HREC := Lib.hid hrec
  clear hrec
  obtain ⟨d, hd'⟩ := get_of_lt hkd
  obtain ⟨r, hr'⟩ := get_of_lt hkr
  have ed := dAt_of hd'
  have er := iAt_of hr'
  rw [ed] at hdo ⊢
  rw [er] at r0 r1 ⊢
  obtain ⟨bd, od, rfl, hbd, _, _, hwarm⟩ := row3 hd hd'
  obtain ⟨br, or', rfl, hbr, hrain⟩ := row1 hr hr'
  have hkdi : (k : Int) < days.length := by omega
  have hkri : (k : Int) < rain.length := by omega
  have hkn : ((k : Int) + 1 == 0) = false := by rw [beq_eq_false_iff_ne]; omega
  have HW := Lib.hid hwarm
  have HR := Lib.hid hrain
  have HCS := Lib.hid hcs
  have HLV := Lib.hid hlv
  have HC := Lib.hid hc
  have HD := Lib.hid (And.intro hd' hr')
  obtain ⟨ab, ao, rfl, hab, _⟩ := hc (by intro e; rw [e] at h1; simp at h1)
  clear hd' hr' ed er hd hr hc hcs hlv hwarm hrain
  go_enter Try.func22, Try.ntmps22
  go_wp2_with fail
  refine (HREC.out _ (((Below.refl _ _).alloc (Nat.le_refl _) _).alloc (by simp) _)).mono ?_
  rintro e w1 ⟨A1, c1, rfl, hrow, hb⟩
  obtain ⟨lb, lo, rfl, hlb⟩ : ∃ lb lo, A1 = some ⟨lb, lo, none⟩ ∧ lb < w1.heap.size := by
    obtain ⟨b, o, e, h, _⟩ := hrow (by intro e; have := congrArg List.length e; simp at this; rw [this] at h1; simp at h1)
    exact ⟨b, o, e, h⟩
  have HA : Hid (RaB w #[.slice (some ⟨ab, ao, none⟩) g.cells.length cp, vi g.slo, vi g.shi, vi g.klo, vi g.khi, vi g.melt] #[vi snow, vi soak, .slice L levels.length lp, .slice (some ⟨br, or', none⟩) rain.length rp] lb lo g.cells.length y.f w1) := by
    have hB := ((Below.refl w.heap.size w).alloc (Nat.le_refl _) (.cells #[.slice (some ⟨ab, ao, none⟩) g.cells.length cp, vi g.slo, vi g.shi, vi g.klo, vi g.khi, vi g.melt] 26)).alloc (by simp) (.cells #[vi snow, vi soak, .slice L levels.length lp, .slice (some ⟨br, or', none⟩) rain.length rp] 47)
    have t1 := (Whole.made w 26 #[.slice (some ⟨ab, ao, none⟩) g.cells.length cp, vi g.slo, vi g.shi, vi g.klo, vi g.khi, vi g.melt]).alloc (.cells #[vi snow, vi soak, .slice L levels.length lp, .slice (some ⟨br, or', none⟩) rain.length rp] 47)
    have t2 := Whole.made (w.alloc (.cells #[.slice (some ⟨ab, ao, none⟩) g.cells.length cp, vi g.slo, vi g.shi, vi g.klo, vi g.khi, vi g.melt] 26)) 47 #[vi snow, vi soak, .slice L levels.length lp, .slice (some ⟨br, or', none⟩) rain.length rp]
    rw [World.size_alloc] at t2
    refine ⟨below_next hB (hb.mono (by simp)), t1.below hb t1.lt, t2.below hb (by simp), fun i hi => ?_, hlb⟩
    obtain ⟨b', o', e', _, h'⟩ := row1 hrow (k := i) (c := y.f i) (by rw [List.getElem?_map, List.getElem?_range hi]; rfl)
    injection e' with e'
    injection e' with e1 e2
    rw [e1, e2]
    exact h'
  clear hb hrow HREC hlb
  have x3 := HA.out.tb.at 3 (v := .slice (some ⟨br, or', none⟩) rain.length rp) rfl
  have xr : w1.cell? ⟨br, or' + k, none⟩ = some (.int .i64 r) := (HA.out.below.cell (p := ⟨br, or' + k, none⟩) hbr).trans HR.out
  have xd : w1.cell? ⟨bd, od + k * 3 + 2, none⟩ = some (.int .i64 d.warm) := (HA.out.below.cell (p := ⟨bd, od + k * 3 + 2, none⟩) hbd).trans HW.out
  have q1 : IntKind.i64.wrap ((k : Int) + 1 - 1) = (k : Int) := by rw [Int.add_sub_cancel]; exact IntWalk.i64_in _ (by omega)
  go_wp2_with fail
  go_quiet (fail)
  clear q1 x3 xr xd
  go_upto_if 62 with (fail)
  refine gen_world (fun W => RaB w #[.slice (some ⟨ab, ao, none⟩) g.cells.length cp, vi g.slo, vi g.shi, vi g.klo, vi g.khi, vi g.melt] #[vi snow, vi soak, .slice L levels.length lp, .slice (some ⟨br, or', none⟩) rain.length rp] lb lo g.cells.length y.f W) ((HA.out).newer (newer_drewN _ _)) ?_
  intro wv hm
  clear HA
  have e5 := hm.gb.at 5 (v := vi g.melt) rfl
  have HM := Lib.hid hm
  clear hm
  have w0 := hdo.w0
  have w1' := hdo.w1
  go_cut [13, 16] (fun s13 s16 wx => s13 = .int .i64 (snowOf g.melt d r y.snow) ∧ s16 = .int .i64 (downOf g.melt d r y.snow) ∧ RaB w #[.slice (some ⟨ab, ao, none⟩) g.cells.length cp, vi g.slo, vi g.shi, vi g.klo, vi g.khi, vi g.melt] #[vi snow, vi soak, .slice L levels.length lp, .slice (some ⟨br, or', none⟩) rain.length rp] lb lo g.cells.length y.f wx)
  case first =>
    by_cases hw : d.warm ≤ 0
    · have e1 : Hid (snowOf g.melt d r y.snow = y.snow + r ∧ downOf g.melt d r y.snow = 0) := by unfold snowOf downOf; rw [if_pos hw, if_pos hw]; exact ⟨rfl, rfl⟩
      go_wp2_with fail
      go_meet
      exact ⟨by rw [e1.out.1], by rw [e1.out.2], HM.out⟩
    · have hmb := melt_bd hdo m0 m1 (by omega)
      by_cases hle : y.snow ≤ g.melt * d.warm
      · have e1 : Hid (snowOf g.melt d r y.snow = 0 ∧ downOf g.melt d r y.snow = r + y.snow) := by unfold snowOf downOf meltOf; rw [if_neg hw, if_neg hw, Int.min_eq_left hle]; exact ⟨by omega, rfl⟩
        go_wp2_with fail
        go_meet
        exact ⟨by rw [e1.out.1], by rw [e1.out.2], HM.out⟩
      · have e1 : Hid (snowOf g.melt d r y.snow = y.snow - g.melt * d.warm ∧ downOf g.melt d r y.snow = r + g.melt * d.warm) := by unfold snowOf downOf meltOf; rw [if_neg hw, if_neg hw, Int.min_eq_right (by omega)]; exact ⟨rfl, rfl⟩
        go_wp2_with fail
        go_meet
        exact ⟨by rw [e1.out.1], by rw [e1.out.2], HM.out⟩
  case rest =>
    obtain ⟨rfl, rfl, hm⟩ := hcut
    clear HM e5
    obtain ⟨sn, hsn⟩ : ∃ sn, sn = snowOf g.melt d r y.snow := ⟨_, rfl⟩
    obtain ⟨dn, hdn⟩ : ∃ dn, dn = downOf g.melt d r y.snow := ⟨_, rfl⟩
    have hdb := down_bd hdo m0 m1 r0 r1 s0
    rw [← hdn] at hdb
    have hsk := soaks_bd k0 k1 hdb.1
    have HE := Lib.hid (And.intro hsn hdn)
    rw [← hsn, ← hdn]
    clear hsn hdn
    have e0 := hm.gb.at 0 (v := .slice (some ⟨ab, ao, none⟩) g.cells.length cp) rfl
    have HM := Lib.hid hm
    clear hm
    go_upto_region 12 with fail
    have hmk := fun (W : World) => make_ints W g.cells.length (by omega)
    go_cut [19, 20] (fun s19 s20 wx => RaM w #[.slice (some ⟨ab, ao, none⟩) g.cells.length cp, vi g.slo, vi g.shi, vi g.klo, vi g.khi, vi g.melt] #[vi snow, vi soak, .slice L levels.length lp, .slice (some ⟨br, or', none⟩) rain.length rp] lb lo g.cells.length y.f s19 s20 wx)
    case first =>
      go_region
      all_goals (go_wp2_with fail)
      all_goals go_meet
      all_goals (first | exact (RaM.made HM.out rfl).1 | exact (RaM.made HM.out rfl).2)
    case rest =>
      obtain ⟨sb, pb, rfl, rfl, hm⟩ := hcut
      clear HM e0 hmk
      have hdb2 : 0 ≤ (g.cells.length : Int) * (dn - dn * soak / 1000) ∧ (g.cells.length : Int) * (dn - dn * soak / 1000) ≤ 28000 := by
        have hs := hsk.2.2
        unfold soaksOf at hs
        have a := Int.mul_nonneg (show (0 : Int) ≤ (g.cells.length : Int) by omega) (show (0 : Int) ≤ dn - dn * soak / 1000 by omega)
        have b := Int.mul_le_mul_of_nonneg_right (show (g.cells.length : Int) ≤ 8 by omega) (show (0 : Int) ≤ dn - dn * soak / 1000 by omega)
        omega
      obtain ⟨sk, hskk⟩ : ∃ sk, sk = dn * soak / 1000 := ⟨_, rfl⟩
      have hsk2 : 0 ≤ sk ∧ sk ≤ dn := by
        have hs := hsk.2.2
        unfold soaksOf at hs
        rw [← hskk] at hs
        exact hs
      have HSK := Lib.hid hskk
      clear hskk
      have e1 := hm.ra.tb.at 1 (v := vi soak) rfl
      have HM := Lib.hid hm
      clear hm
      go_upto_region 15 with fail
      rw [← HSK.out]
      clear hdb2 e1
      go_wp2_with fail
      go_loopw [22, 23] (fun s22 s23 wr => ∃ j : Nat, j ≤ g.cells.length ∧ s23 = .int .i64 j ∧ s22 = .int .i64 (leftR g.cells y.f dn sk j) ∧ RaC w #[.slice (some ⟨ab, ao, none⟩) g.cells.length cp, vi g.slo, vi g.shi, vi g.klo, vi g.khi, vi g.melt] #[vi snow, vi soak, .slice L levels.length lp, .slice (some ⟨br, or', none⟩) rain.length rp] lb lo g.cells.length y.f sb pb (svTo g.cells y.f j) (pvTo g.cells y.f j) wr) (fun _ s23 _ => g.cells.length - (intOf s23).toNat)
      case atStart =>
        refine ⟨0, Nat.zero_le _, rfl, by rw [leftR_zero], (HM.out).congr (fun i _ => ?_) (fun i _ => ?_)⟩
        · simp [svTo]
        · simp [pvTo]
      case round =>
        obtain ⟨j, hj, rfl, rfl, hm⟩ := hrel
        clear HM
        by_cases hlt : j < g.cells.length
        · obtain ⟨c, hcj⟩ := get_of_lt hlt
          have hok := HCS.out j hlt
          rw [cAt_of hcj] at hok
          obtain ⟨x0, x1⟩ := HLV.out j hlt
          have e0 := hm.ra.gb.at 0 (v := .slice (some ⟨ab, ao, none⟩) g.cells.length cp) rfl
          obtain ⟨h0, h1, h2, h3, h4, h5, h6⟩ := row7' (HC.out.below hm.ra.below) hcj
          have lb1 := leftR_bd HCS.out HLV.out hsk2.1 hsk2.2 (by omega) h8 j (by omega)
          have hjn : (j : Int) < g.cells.length := by omega
          have HMID : Hid (RaC w #[.slice (some ⟨ab, ao, none⟩) g.cells.length cp, vi g.slo, vi g.shi, vi g.klo, vi g.khi, vi g.melt] #[vi snow, vi soak, .slice L levels.length lp, .slice (some ⟨br, or', none⟩) rain.length rp] lb lo g.cells.length y.f sb pb (svTo g.cells y.f j) (pvTo g.cells y.f j) (wr.alloc (.cells (cellC c) 74)) ∧ Whole (wr.alloc (.cells (cellC c) 74)) wr.heap.size 74 (cellC c)) :=
            ⟨hm.newer ((Below.refl _ _).alloc (Nat.le_refl _) _), Whole.made _ _ _⟩
          have HCJ := Lib.hid hcj
          obtain ⟨cb, hcb⟩ : ∃ cb, cb = wr.heap.size := ⟨_, rfl⟩
          have hcf : pb < cb ∧ sb < cb := by rw [hcb]; exact ⟨hm.ps.lt, hm.st.lt⟩
          clear hm hcj
          go_upto_region 19 with fail
          rw [← hcb] at HMID ⊢
          clear hcb h0 h1 h2 h3 h4 h5 h6 e0
          refine gen_world (fun W => (RaC w #[.slice (some ⟨ab, ao, none⟩) g.cells.length cp, vi g.slo, vi g.shi, vi g.klo, vi g.khi, vi g.melt] #[vi snow, vi soak, .slice L levels.length lp, .slice (some ⟨br, or', none⟩) rain.length rp] lb lo g.cells.length y.f sb pb (svTo g.cells y.f j) (pvTo g.cells y.f j) W ∧ Whole W cb 74 (cellC c))) HMID.out ?_
          rintro wv ⟨hm, hcw⟩
          clear HMID
          have xl := hm.ra.lv j hlt
          have m6 := hcw.at 6 (v := vi c.pump) rfl
          have k1 := hok.keep1
          have k2 := hok.pump1
          have k3 := hok.pump2
          have tb := taken_bd hok x0
          have HM := Lib.hid (And.intro hm hcw)
          clear hm hcw
          go_cut [25] (fun s25 wx => s25 = .int .i64 (takenF c (y.f j)) ∧ (RaC w #[.slice (some ⟨ab, ao, none⟩) g.cells.length cp, vi g.slo, vi g.shi, vi g.klo, vi g.khi, vi g.melt] #[vi snow, vi soak, .slice L levels.length lp, .slice (some ⟨br, or', none⟩) rain.length rp] lb lo g.cells.length y.f sb pb (svTo g.cells y.f j) (pvTo g.cells y.f j) wx ∧ Whole wx cb 74 (cellC c)))
          case first =>
            by_cases hA : y.f j ≤ c.pump
            · have E1 : Hid (takenF c (y.f j) = y.f j) := by unfold takenF; exact Int.min_eq_left hA
              go_quiet (fail)
              go_wp2_with fail
              go_meet
              exact ⟨by rw [E1.out], (HM.out.1).newer (newer_drewN _ _), (HM.out.2).below (newer_drewN _ _) (HM.out.2).lt⟩
            · have E1 : Hid (takenF c (y.f j) = c.pump) := by unfold takenF; exact Int.min_eq_right (by omega)
              go_quiet (fail)
              go_wp2_with fail
              go_meet
              exact ⟨by rw [E1.out], (HM.out.1).newer (newer_drewN _ _), (HM.out.2).below (newer_drewN _ _) (HM.out.2).lt⟩
          case rest =>
            obtain ⟨rfl, hm, hcw⟩ := hcut
            clear HM xl m6
            have xl := hm.ra.lv j hlt
            have m3 := hcw.at 3 (v := vi c.keep) rfl
            have m4 := hcw.at 4 (v := vi c.pass) rfl
            have cn := hm.ps.at j (intArr_get _ hlt)
            have fn := hm.ps.free j
            have ob := on_bd hok x0 x1
            have vb := over_bd hok x0
            have pb' := prod_bd hok x0 x1
            have HM := Lib.hid (And.intro hm hcw)
            clear hm hcw
            go_upto_if 121 with (fail)
            go_cut [] (fun wx => (RaC w #[.slice (some ⟨ab, ao, none⟩) g.cells.length cp, vi g.slo, vi g.shi, vi g.klo, vi g.khi, vi g.melt] #[vi snow, vi soak, .slice L levels.length lp, .slice (some ⟨br, or', none⟩) rain.length rp] lb lo g.cells.length y.f sb pb (svTo g.cells y.f j) (pvTo g.cells y.f (j + 1)) wx ∧ Whole wx cb 74 (cellC c)))
            case first =>
              by_cases hA : y.f j - takenF c (y.f j) ≤ c.keep
              · have e1 : onF c (y.f j) = 0 := by unfold onF overF staysF; rw [Int.max_eq_left (by omega)]; simp
                have E1 := Lib.hid e1
                clear e1
                go_wp2_with fail
                go_meet
                exact ⟨(HM.out.1).congr (fun _ _ => rfl) (fun i _ => pvTo_skip HCJ.out E1.out i), HM.out.2⟩
              · have e2 : overF c (y.f j) = y.f j - takenF c (y.f j) - c.keep := by unfold overF staysF; omega
                rw [e2] at pb'
                have E1 : Hid (onF c (y.f j) = (y.f j - takenF c (y.f j) - c.keep) * c.pass / 1000) := by unfold onF; rw [e2]; exact rfl
                clear e2
                go_wp2_with fail
                go_meet
                exact ⟨(HM.out.1).setP _ (fun i _ => by rw [pvTo_step HCJ.out i, E1.out]), (HM.out.2).far (by dsimp only; omega) _⟩
            case rest =>
              obtain ⟨hm, hcw⟩ := hcut
              clear HM xl m3 m4 cn fn pb'
              have cn := hm.ps.at j (intArr_get _ hlt)
              have cs := hm.st.at j (intArr_get _ hlt)
              have fs := hm.st.free j
              have m5 := hcw.at 5 (v := vi c.to) rfl
              have t1 := hok.to1
              have HM := Lib.hid (And.intro hm hcw)
              have ep : pvTo g.cells y.f (j + 1) j = onF c (y.f j) := pvTo_at HCJ.out _ (by omega)
              rw [ep] at cn
              have EP := Lib.hid ep
              clear hm hcw ep
              have HE : Hid (∀ W, RaC w #[.slice (some ⟨ab, ao, none⟩) g.cells.length cp, vi g.slo, vi g.shi, vi g.klo, vi g.khi, vi g.melt] #[vi snow, vi soak, .slice L levels.length lp, .slice (some ⟨br, or', none⟩) rain.length rp] lb lo g.cells.length y.f sb pb (svTo g.cells y.f j) (pvTo g.cells y.f (j + 1)) W → RaC w #[.slice (some ⟨ab, ao, none⟩) g.cells.length cp, vi g.slo, vi g.shi, vi g.klo, vi g.khi, vi g.melt] #[vi snow, vi soak, .slice L levels.length lp, .slice (some ⟨br, or', none⟩) rain.length rp] lb lo g.cells.length y.f sb pb (svTo g.cells y.f (j + 1)) (pvTo g.cells y.f (j + 1)) (W.setCell ⟨sb, j, none⟩ (vi (y.f j - takenF c (y.f j) - onF c (y.f j))))) := fun W h => h.setS _ (fun i _ => by rw [svTo_step HCJ.out i]; rfl)
              have cn2 := ((HE.out _ (HM.out.1)).ps).at j (intArr_get _ hlt)
              rw [EP.out] at cn2
              have m52 := ((HM.out.2).far (p := ⟨sb, j, none⟩) (by dsimp only; omega) (vi (y.f j - takenF c (y.f j) - onF c (y.f j)))).at 5 (v := vi c.to) rfl
              have hls := leftR_step g.cells y.f dn sk j c HCJ.out
              have HLS := Lib.hid hls
              clear hls
              by_cases ht : c.to = -1
              · have hlt0 : c.to < 0 := by omega
                have HLE := Lib.hid (show leftR g.cells y.f dn sk (j + 1) = leftR g.cells y.f dn sk j + takenF c (y.f j) + onF c (y.f j) by rw [HLS.out, if_pos ht])
                clear ht
                go_wp2_with fail
                exact ⟨⟨j + 1, by omega, by push_cast; rfl, by rw [HLE.out], HE.out _ HM.out.1⟩, by (simp only [intOf]; omega)⟩
              · have hlt0 : ¬ c.to < 0 := by omega
                have HLE := Lib.hid (show leftR g.cells y.f dn sk (j + 1) = leftR g.cells y.f dn sk j + takenF c (y.f j) by rw [HLS.out, if_neg ht]; omega)
                clear ht
                go_wp2_with fail
                exact ⟨⟨j + 1, by omega, by push_cast; rfl, by rw [HLE.out], HE.out _ HM.out.1⟩, by (simp only [intOf]; omega)⟩
        · have hjn : j = g.cells.length := by omega
          subst hjn
          rw [leftR_all]
          obtain ⟨base, hbase⟩ : ∃ base, base = wr.heap.size := ⟨_, rfl⟩
          have hba : base ≤ wr.heap.size := by omega
          have hsp : sb < base ∧ pb < base := by rw [hbase]; exact ⟨hm.st.lt, hm.ps.lt⟩
          have hlA := leftA_bd HCS.out HLV.out hsk2.1 hsk2.2 (show dn ≤ 10000 by omega) g.cells.length (Nat.le_refl _)
          have HM := Lib.hid hm
          obtain ⟨i0, hi0, hz0, hz1, hz2⟩ := info_parts Try.info3
          have HI := Lib.hid (And.intro hi0 (And.intro hz0 (And.intro hz1 hz2)))
          clear hm hbase hi0 hz0 hz1 hz2
          go_wp2_with fail
          go_loopw [22, 27, 28] (fun s22 s27 s28 wx => ∃ i : Nat, i ≤ g.cells.length ∧ s28 = .int .i64 i ∧ s22 = .int .i64 (leftA g.cells y.f dn sk g.cells.length + leftB g.cells y.f sk i) ∧ RaC w #[.slice (some ⟨ab, ao, none⟩) g.cells.length cp, vi g.slo, vi g.shi, vi g.klo, vi g.khi, vi g.melt] #[vi snow, vi soak, .slice L levels.length lp, .slice (some ⟨br, or', none⟩) rain.length rp] lb lo g.cells.length y.f sb pb (svTo g.cells y.f g.cells.length) (pvTo g.cells y.f g.cells.length) wx ∧ base ≤ wx.heap.size ∧ wx.ownsRow base 3 1 s27 i (((List.range i).map (newLv g.cells y.f sk)).flatMap intL)) (fun _ _ s28 _ => g.cells.length - (intOf s28).toNat)
          case atStart => exact ⟨0, Nat.zero_le _, rfl, by simp [leftB], HM.out, hba, World.ownsRow_nil _ _ _ _⟩
          case round =>
            obtain ⟨i, hi, rfl, rfl, hm, hbs, hown⟩ := hrel
            clear HM
            by_cases hlt : i < g.cells.length
            · obtain ⟨c, hci⟩ := get_of_lt hlt
              have hok := HCS.out i hlt
              rw [cAt_of hci] at hok
              obtain ⟨x0, x1⟩ := HLV.out i hlt
              have hbb := base_bd hok x0 x1 hsk2.1 (show sk ≤ 10000 by omega)
              have hin : (i : Int) < g.cells.length := by omega
              have cs := hm.st.at i (intArr_get _ hlt)
              rw [svTo_at hci _ hlt] at cs
              have HCI := Lib.hid hci
              have HO := Lib.hid hown
              have HM := Lib.hid hm
              clear hci hown hm
              have hso : 0 ≤ staysF c (y.f i) - onF c (y.f i) ∧ staysF c (y.f i) - onF c (y.f i) ≤ 100000 := by
                have a1 := stays_bd hok x0
                have a2 := over_bd hok x0
                have a3 := on_bd hok x0 x1
                omega
              go_upto_region 32 with fail
              rw [show staysF c (y.f i) - onF c (y.f i) + sk = baseF c (y.f i) sk from rfl]
              clear cs hso
              go_wp2_with fail
              go_loop [29, 30] (fun s29 s30 => ∃ q : Nat, q ≤ g.cells.length ∧ s30 = .int .i64 q ∧ s29 = .int .i64 (baseF c (y.f i) sk + inflow g.cells y.f i q)) (fun _ s30 => g.cells.length - (intOf s30).toNat)
              case atStart => exact ⟨0, Nat.zero_le _, rfl, by simp [inflow]⟩
              case round =>
                obtain ⟨q, hq, rfl, rfl⟩ := hrel
                by_cases hlq : q < g.cells.length
                · obtain ⟨c', hcq⟩ := get_of_lt hlq
                  have hokq := HCS.out q hlq
                  rw [cAt_of hcq] at hokq
                  have hob := on_bd hokq (HLV.out q hlq).1 (HLV.out q hlq).2
                  have hinb := inflow_bd HCS.out HLV.out i q (by omega)
                  have e0 := (HM.out).ra.gb.at 0 (v := .slice (some ⟨ab, ao, none⟩) g.cells.length cp) rfl
                  obtain ⟨_, _, _, _, _, h5, _⟩ := row7' (HC.out.below (HM.out).ra.below) hcq
                  have cpq := (HM.out).ps.at q (intArr_get _ hlq)
                  rw [pvTo_at hcq _ hlq] at cpq
                  have hqn : (q : Int) < g.cells.length := by omega
                  have hst := inflow_step (f := y.f) hcq i
                  cases ht : (c'.to == (i : Int))
                  · rw [if_neg (by simpa using ht)] at hst
                    have HST := Lib.hid hst
                    clear hst hcq
                    go_wp2_with fail
                    exact ⟨⟨q + 1, by omega, by push_cast; rfl, by rw [HST.out]; simp⟩, by (simp only [intOf]; omega)⟩
                  · rw [if_pos (by simpa using ht)] at hst
                    have HST := Lib.hid hst
                    clear hst hcq
                    go_wp2_with fail
                    exact ⟨⟨q + 1, by omega, by push_cast; rfl, by rw [HST.out, Int.add_assoc]⟩, by (simp only [intOf]; omega)⟩
                · have hqn : q = g.cells.length := by omega
                  subst hqn
                  rw [← nowF_full HCI.out sk]
                  have nb := now_bd HCS.out HLV.out hsk2.1 (show sk ≤ 10000 by omega) g.cells.length i (Nat.le_refl _)
                  have bb := leftB_bd HCS.out HLV.out hsk2.1 (show sk ≤ 10000 by omega) h8 i (by omega)
                  have e0 := (HM.out).ra.gb.at 0 (v := .slice (some ⟨ab, ao, none⟩) g.cells.length cp) rfl
                  obtain ⟨_, _, h2, _, _, _, _⟩ := row7' (HC.out.below (HM.out).ra.below) HCI.out
                  have k1 := hok.cap1
                  have k2 := hok.cap2
                  have HLB := Lib.hid (show leftB g.cells y.f sk (i + 1) = leftB g.cells y.f sk i + max 0 (nowF g.cells y.f sk g.cells.length i - c.cap) from leftB_step _ _ _ _ _ HCI.out)
                  have HNL := Lib.hid (newLv_at (f := y.f) HCI.out sk)
                  go_upto_if 191 with (fail)
                  go_cut [22, 29] (fun s22 s29 wx => s22 = .int .i64 (leftA g.cells y.f dn sk g.cells.length + leftB g.cells y.f sk (i + 1)) ∧ s29 = .int .i64 (newLv g.cells y.f sk i) ∧ RaC w #[.slice (some ⟨ab, ao, none⟩) g.cells.length cp, vi g.slo, vi g.shi, vi g.klo, vi g.khi, vi g.melt] #[vi snow, vi soak, .slice L levels.length lp, .slice (some ⟨br, or', none⟩) rain.length rp] lb lo g.cells.length y.f sb pb (svTo g.cells y.f g.cells.length) (pvTo g.cells y.f g.cells.length) wx ∧ base ≤ wx.heap.size ∧ wx.ownsRow base 3 1 u27 i (((List.range i).map (newLv g.cells y.f sk)).flatMap intL))
                  case first =>
                    by_cases hA : nowF g.cells y.f sk g.cells.length i ≤ c.cap
                    · have E1 := Lib.hid (show leftB g.cells y.f sk (i + 1) = leftB g.cells y.f sk i by rw [HLB.out, Int.max_eq_left (by omega)]; omega)
                      have E2 := Lib.hid (show newLv g.cells y.f sk i = nowF g.cells y.f sk g.cells.length i by rw [HNL.out, Int.min_eq_left hA])
                      go_wp2_with fail
                      go_meet
                      exact ⟨by rw [E1.out], by rw [E2.out], HM.out, hbs, HO.out⟩
                    · have E1 := Lib.hid (show leftB g.cells y.f sk (i + 1) = leftB g.cells y.f sk i + (nowF g.cells y.f sk g.cells.length i - c.cap) by rw [HLB.out, Int.max_eq_right (by omega)])
                      have E2 := Lib.hid (show newLv g.cells y.f sk i = c.cap by rw [HNL.out, Int.min_eq_right (by omega)])
                      go_wp2_with fail
                      go_meet
                      exact ⟨by rw [E1.out, Int.add_assoc], by rw [E2.out], HM.out, hbs, HO.out⟩
                  case rest =>
                    obtain ⟨rfl, rfl, hm, hbs, hown⟩ := hcut
                    clear HM HO HLB HNL h2 e0 nb bb
                    have HM := Lib.hid (hm.newer ((Below.refl _ _).alloc (Nat.le_refl _) (.cells #[vi (newLv g.cells y.f sk i)] 3)))
                    have HO := Lib.hid (own_below hown ((Below.refl _ _).alloc (Nat.le_refl _) (.cells #[vi (newLv g.cells y.f sk i)] 3)))
                    have HNW := Lib.hid (World.news_of_block (Whole.made wc 3 #[vi (newLv g.cells y.f sk i)]))
                    clear hm hown
                    obtain ⟨hi0, hz0, hz1, hz2⟩ := HI.out
                    have hgo : ∀ q, Value.ownBlock u27 = some q → base ≤ q := own_ge HO.out
                    have HGO := Lib.hid hgo
                    clear hgo
                    go_wp2_with (at_builtin; go_loud ((refine wpList_append_lies _ rfl (.tmp 208) (.tmp 210) 43 rfl base 3 i0 (.int .i64 0) 1 8 Try.underlying43 hi0 hz0 hz1 hz2 rfl (by omega) _ i _ rfl HO.out ⟨wc.heap.size, 0, none⟩ 1 1 [vi (newLv g.cells y.f sk i)] rfl rfl HNW.out (by simp [Value.oneCell']) (by omega) (by unfold maxLen; omega) (by omega) (by simp; omega) (wc.heap.size + 1) (by simp) ?_); intro gg cp2 w2 hown2 hgrow2 hat2 hlt2; rw [flat_snoc] at hown2; have HO2 := Lib.hid hown2; have HM2 := Lib.hid ((HM.out).grown hgrow2 (fun q e => by have := HGO.out q e; omega)); have hbs2 := hgrow2.size; clear hown2 hgrow2 hat2 hi0 hz0 hz1 hz2))
                    exact ⟨⟨i + 1, by omega, by push_cast; rfl, rfl, HM2.out, by simp at hbs2; omega, HO2.out⟩, by (simp only [intOf]; omega)⟩
            · have hin : i = g.cells.length := by omega
              subst hin
              obtain ⟨A2, c2, rfl⟩ := own_form hown
              have HF := Lib.hid (And.intro hm.ra.below hown)
              clear hm hown
              go_wp2_with fail
              go_ret3
              have hst : dayStep g.cells g.melt soak d r y = ⟨newLv g.cells y.f sk, sn, leftA g.cells y.f dn sk g.cells.length + leftB g.cells y.f sk g.cells.length⟩ := by
                unfold dayStep newLeft soaksOf
                rw [← HE.out.1, ← HE.out.2, ← HSK.out]
              rw [hst]
              exact ⟨A2, c2, rfl, row_of_own (by omega) (fun _ => rfl) HF.out.2, HF.out.1⟩
end Go.Proofs.Yteonkhohloabfaa
