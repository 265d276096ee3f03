/- Known, and what WaterTold calls. -/
import Derived.Test.YteonkhohloabfaaAU
import Derived.Test.YteonkhohloabfaaZB
import Derived.Test.YteonkhohloabfaaL
import Derived.Test.YteonkhohloabfaaAX
import Derived.Test.YteonkhohloabfaaAY

/- Known: a ground with days of which all is known but the soak. -/
namespace Go.Proofs.Yteonkhohloabfaa
open Go.RowKit

def oneC (c : Cell) (x : Int) : Cell := { c with lo := x, hi := x }
def oneD (d : Day) (x : Int) : Day := { d with lo := x, hi := x }
/-- The cells, of the first k of which the level is known. -/
def knTo (l : List Cell) (lv : List Int) : Nat → List Cell
  | 0 => l
  | k + 1 => (knTo l lv k).set k (oneC (cAt l k) (iAt lv k))
theorem knTo_len (l : List Cell) (lv : List Int) : ∀ k, (knTo l lv k).length = l.length
  | 0 => rfl
  | k + 1 => by simp [knTo, knTo_len l lv k]
theorem knTo_far (l : List Cell) (lv : List Int) : ∀ (k j : Nat), k ≤ j → (knTo l lv k)[j]? = l[j]?
  | 0, _, _ => rfl
  | k + 1, j, h => by
    rw [knTo, List.getElem?_set_ne (by omega)]
    exact knTo_far l lv k j (by omega)
theorem knTo_at (l : List Cell) (lv : List Int) : ∀ (k j : Nat), j < k → j < l.length → (knTo l lv k)[j]? = some (oneC (cAt l j) (iAt lv j))
  | k + 1, j, h, hl => by
    rw [knTo]
    rcases Nat.lt_or_ge j k with h1 | h1
    · rw [List.getElem?_set_ne (by omega)]
      exact knTo_at l lv k j h1 hl
    · obtain rfl : j = k := by omega
      rw [List.getElem?_set_self (by rw [knTo_len]; exact hl)]
/-- A ground of which all is known but the soak. -/
def knG (g : Gnd) (snow : Int) (lv : List Int) : Gnd := ⟨knTo g.cells lv g.cells.length, snow, snow, g.klo, g.khi, g.melt⟩
def knD (days : List Day) (rn : List Int) : List Day := (List.range days.length).map fun k => oneD (dAt days k) (iAt rn k)
theorem knD_len (days : List Day) (rn : List Int) : (knD days rn).length = days.length := by simp [knD]
theorem knD_at (days : List Day) (rn : List Int) {k : Nat} (h : k < days.length) : (knD days rn)[k]? = some (oneD (dAt days k) (iAt rn k)) := by
  rw [knD, List.getElem?_map, List.getElem?_range h]
  rfl
theorem flat7_two (l : List Cell) : ∀ (k : Nat) (c : Cell) (x : Int), l[k]? = some c → ((l.flatMap cellL).set (k * 7) (vi x)).set (k * 7 + 1) (vi x) = (l.set k (oneC c x)).flatMap cellL := by
  induction l with
  | nil => intro k c x h; simp at h
  | cons c0 l ih =>
    intro k c x h
    cases k with
    | zero =>
      simp at h
      subst h
      rfl
    | succ k =>
      have := ih k c x (by simpa using h)
      simp only [List.flatMap_cons, List.set_cons_succ]
      rw [List.set_append_right _ _ (by simp; omega), List.set_append_right _ _ (by simp; omega)]
      simp only [List.length_cons, List.length_nil]
      rw [show (k + 1) * 7 - (0 + 1 + 1 + 1 + 1 + 1 + 1 + 1) = k * 7 by omega, show (k + 1) * 7 + 1 - (0 + 1 + 1 + 1 + 1 + 1 + 1 + 1) = k * 7 + 1 by omega, this]

/-- Known's boxes. -/
structure KnA (w : World) (gcs tcs : Array Value) (W : World) : Prop where
  b0 : Whole W w.heap.size 26 gcs
  b1 : Whole W (w.heap.size + 1) 47 tcs
  b2 : Whole W (w.heap.size + 1 + 1) 26 #[.slice none 0 0, vi 0, vi 0, vi 0, vi 0, vi 0]
  below : Below w.heap.size w W
theorem KnA.newer {w : World} {gcs tcs : Array Value} {W W' : World} (h : KnA w gcs tcs W) (hb : newer W W') : KnA w gcs tcs W' := ⟨h.b0.below hb h.b0.lt, h.b1.below hb h.b1.lt, h.b2.below hb h.b2.lt, below_next h.below hb⟩
theorem KnA.grown {w : World} {gcs tcs : Array Value} {W W' : World} {B : Nat} {t : TypeId} {s : Nat} (h : KnA w gcs tcs W) {v : Value} {n : Nat} {xs : List Value} (ho : W.ownsRow B t s v n xs) (hB : w.heap.size ≤ B) (h26 : t ≠ 26) (h47 : t ≠ 47) (hg : W.grownBy W' v.ownBlock) : KnA w gcs tcs W' :=
  ⟨h.b0.grown hg (own_ne ho h.b0 h26).symm, h.b1.grown hg (own_ne ho h.b1 h47).symm, h.b2.grown hg (own_ne ho h.b2 h26).symm, h.below.grown hg h.below.size fun k hk => Nat.le_trans hB (own_ge ho k hk)⟩
theorem KnA.far {w : World} {gcs tcs : Array Value} {W : World} (h : KnA w gcs tcs W) {bx i : Nat} {u : Value} (hb : w.heap.size + 1 + 1 < bx) : KnA w gcs tcs (W.setCell ⟨bx, i, none⟩ u) :=
  ⟨h.b0.far (by dsimp only; omega) _, h.b1.far (by dsimp only; omega) _, h.b2.far (by dsimp only; omega) _, h.below.setCell (p := ⟨bx, i, none⟩) (by dsimp only; omega) _⟩
theorem own_two {w : World} {B B' : Nat} {e e' : TypeId} {s s' n n' : Nat} {v v' : Value} {xs xs' : List Value} (h : w.ownsRow B e s v n xs) (h' : w.ownsRow B' e' s' v' n' xs') (hne : e ≠ e') : v.ownBlock = none ∨ v.ownBlock ≠ v'.ownBlock := by
  rcases h'.2 with ⟨rfl, _⟩ | ⟨g', cap, cur, rfl, _, hh, _⟩
  · cases hv : v.ownBlock with
    | none => exact .inl rfl
    | some q => exact .inr (by simp [Value.ownBlock])
  · exact .inr (own_ne h (show Whole w g' e' cur from hh) hne)
/-- With the ground that comes of it. -/
structure KnB (w : World) (gcs tcs : Array Value) (B bx gg : Nat) (cs : Array Value) (sv : Value) (n : Nat) (xs : List Value) (W : World) : Prop where
  kn : KnA w gcs tcs W
  gb : Whole W bx 26 cs
  own : W.ownsRow B 74 7 sv n xs
  lt : w.heap.size + 1 + 1 < bx
  le : w.heap.size ≤ B
section
variable {w : World} {gcs tcs : Array Value} {B bx gg : Nat} {cs : Array Value} {sv : Value} {n : Nat} {xs : List Value} {W W' : World}
theorem KnB.newer (h : KnB w gcs tcs B bx gg cs sv n xs W) (hb : newer W W') : KnB w gcs tcs B bx gg cs sv n xs W' := ⟨h.kn.newer hb, h.gb.below hb h.gb.lt, own_below h.own hb, h.lt, h.le⟩
theorem KnB.set (h : KnB w gcs tcs B bx gg cs sv n xs W) (i : Nat) (u : Value) : KnB w gcs tcs B bx gg (cs.setIfInBounds i u) sv n xs (W.setCell ⟨bx, i, none⟩ u) :=
  ⟨h.kn.far h.lt, h.gb.set i u, own_set h.own (own_ne h.own h.gb (by decide)) u, h.lt, h.le⟩
theorem KnB.grown {v : Value} {m s : Nat} {t : TypeId} {ys : List Value} {B' : Nat} (h : KnB w gcs tcs B bx gg cs sv n xs W) (ho : W.ownsRow B' t s v m ys) (hB : w.heap.size ≤ B') (h26 : t ≠ 26) (h47 : t ≠ 47) (hs : sv.ownBlock = none ∨ sv.ownBlock ≠ v.ownBlock) (hg : W.grownBy W' v.ownBlock) : KnB w gcs tcs B bx gg cs sv n xs W' :=
  ⟨h.kn.grown ho hB h26 h47 hg, h.gb.grown hg (own_ne ho h.gb h26).symm, h.own.kept hg hs, h.lt, h.le⟩
theorem KnB.put {n cp k : Nat} {l : List Cell} (h : KnB w gcs tcs B bx gg cs (.slice (some ⟨gg, 0, none⟩) n cp) n (l.flatMap cellL) W) {c : Cell} (hc : l[k]? = some c) (x : Int) : KnB w gcs tcs B bx gg cs (.slice (some ⟨gg, 0, none⟩) n cp) n ((l.set k (oneC c x)).flatMap cellL) ((W.setCell ⟨gg, k * 7, none⟩ (vi x)).setCell ⟨gg, k * 7 + 1, none⟩ (vi x)) := by
  have h1 := h.own.stored (k * 7) (vi x)
  have h2 := h1.1.stored (k * 7 + 1) (vi x)
  rw [flat7_two l k c x hc] at h2
  have k1 := h.kn.grown h.own h.le (by decide) (by decide) h1.2
  have k2 := k1.grown h1.1 h.le (by decide) (by decide) h2.2
  have g1 := h.gb.grown h1.2 (own_ne h.own h.gb (by decide)).symm
  have g2 := g1.grown h2.2 (own_ne h1.1 g1 (by decide)).symm
  exact ⟨k2, g2, h2.1, h.lt, h.le⟩
end
/-- A slice without elements, in a block of its own. -/
def vEmp (B : Nat) (v : Value) (_ : World) : Prop := ∃ nb, v = .slice (some ⟨nb, 0, none⟩) 0 0 ∧ B ≤ nb
theorem vEmp_st {B : Nat} : ∀ v W W', vEmp B v W → newer W W' → vEmp B v W' := fun _ _ _ h _ => h
/-- A row of cells of its own. -/
def vCs (B : Nat) (l : List Cell) (v : Value) (W : World) : Prop := ∃ gg cp, v = .slice (some ⟨gg, 0, none⟩) l.length cp ∧ W.ownsRow B 74 7 (.slice (some ⟨gg, 0, none⟩) l.length cp) l.length (l.flatMap cellL)
theorem vCs_st {B : Nat} {l : List Cell} : ∀ v W W', vCs B l v W → newer W W' → vCs B l v W' := fun _ _ _ ⟨gg, cp, h1, h2⟩ hb => ⟨gg, cp, h1, own_below h2 hb⟩
/-- A ground in a row of its own. -/
def vGs (B : Nat) (g : Gnd) (snow : Int) (v : Value) (W : World) : Prop := ∃ gg cp, v = .agg #[.slice (some ⟨gg, 0, none⟩) g.cells.length cp, vi snow, vi snow, vi g.klo, vi g.khi, vi g.melt] ∧ W.ownsRow B 74 7 (.slice (some ⟨gg, 0, none⟩) g.cells.length cp) g.cells.length (g.cells.flatMap cellL)
theorem vGs_st {B : Nat} {g : Gnd} {snow : Int} : ∀ v W W', vGs B g snow v W → newer W W' → vGs B g snow v W' := fun _ _ _ ⟨gg, cp, h1, h2⟩ hb => ⟨gg, cp, h1, own_below h2 hb⟩
theorem newer_allocK (W : World) (o : Obj) : newer W (W.alloc o) := (Below.refl _ _).alloc (Nat.le_refl _) _
theorem Try.info74k : (Try.prog.info? 74).map (fun i => (i.zero, i.size, i.bytes)) = some (some (.agg #[.int .i64 0, .int .i64 0, .int .i64 0, .int .i64 0, .int .i64 0, .int .i64 0, .int .i64 0]), 7, 56) := by kernel_rfl
theorem Try.info122k : (Try.prog.info? 122).map (fun i => (i.zero, i.size, i.bytes)) = some (some (.agg #[.int .i64 0, .int .i64 0, .int .i64 0]), 3, 24) := by kernel_rfl
set_option maxRecDepth 100000 in
set_option maxHeartbeats 2000000 in
theorem known46_any (g : Gnd) (A : Option Addr) (ap : Nat) (days : List Day) (D : Option Addr) (dp : Nat) (snow soak : Int) (lv : List Int) (L : Option Addr) (lp : Nat) (rn : List Int) (R : Option Addr) (rp : Nat) (w : World) (hn : g.cells.length ≤ 1000) (hn1 : 1 ≤ g.cells.length) (hm : days.length ≤ 1000)
    (hlv : lv.length = g.cells.length) (hrn : rn.length = days.length)
    (hc : Row cellL 7 w w.heap.size A g.cells) (hd : Row dayL 3 w w.heap.size D days) (hL : Row intL 1 w w.heap.size L lv) (hR : Row intL 1 w w.heap.size R rn) :
    Calls Try.prog 46 #[gndV A ap g, .slice D days.length dp, truthV snow soak L lv.length lp R rn.length rp] w fun e w' => (∃ v1 v2, e = .returned (.tuple #[v1, v2]) ∧ vGn (knG g snow lv) v1 w' ∧ vDy (knD days rn) v2 w') ∧ Below w.heap.size w w' := by
  obtain ⟨b0, off0, eA, _, _⟩ := hc (by intro e; rw [e] at hn1; simp at hn1)
  subst eA
  have HC := Lib.hid hc
  have HD := Lib.hid hd
  have HL := Lib.hid hL
  have HR := Lib.hid hR
  have HLE := Lib.hid (And.intro hlv hrn)
  rw [hlv, hrn]
  clear hc hd hL hR hlv hrn
  obtain ⟨i74, hi0, hz0, hz1, hz2⟩ := info_parts Try.info74k
  have HI := Lib.hid (And.intro hi0 (And.intro hz0 (And.intro hz1 hz2)))
  clear hi0 hz0 hz1 hz2
  obtain ⟨i122, hi0, hz0, hz1, hz2⟩ := info_parts Try.info122k
  have HI2 := Lib.hid (And.intro hi0 (And.intro hz0 (And.intro hz1 hz2)))
  clear hi0 hz0 hz1 hz2
  go_enter Try.func46, Try.ntmps46
  go_wp2_with fail
  have ha : KnA w (gndC (some ⟨b0, off0, none⟩) ap g) #[vi snow, vi soak, .slice L g.cells.length lp, .slice R days.length rp] (((w.alloc (.cells (gndC (some ⟨b0, off0, none⟩) ap g) 26)).alloc (.cells #[vi snow, vi soak, .slice L g.cells.length lp, .slice R days.length rp] 47)).alloc (.cells #[.slice none 0 0, vi 0, vi 0, vi 0, vi 0, vi 0] 26)) := by
    refine ⟨?_, ?_, ?_, (((Below.refl _ _).alloc (Nat.le_refl _) _).alloc (by simp) _).alloc (by simp; omega) _⟩
    · (simp only [Whole, heap_if, World.size_alloc]; (repeat rw [if_neg (by omega)]); rfl)
    · (simp only [Whole, heap_if, World.size_alloc]; (repeat rw [if_neg (by omega)]); rfl)
    · (simp only [Whole, heap_if, World.size_alloc]; (repeat rw [if_neg (by omega)]); rfl)
  refine gen_world (KnA w (gndC (some ⟨b0, off0, none⟩) ap g) #[vi snow, vi soak, .slice L g.cells.length lp, .slice R days.length rp]) ha ?_
  clear ha
  intro wv ha
  have x0 := ha.b0.at 0 (v := .slice (some ⟨b0, off0, none⟩) g.cells.length ap) rfl
  have x3 := ha.b0.at 3 (v := vi g.klo) rfl
  have x4 := ha.b0.at 4 (v := vi g.khi) rfl
  have x5 := ha.b0.at 5 (v := vi g.melt) rfl
  have t0 := ha.b1.at 0 (v := vi snow) rfl
  have HA := Lib.hid ha
  clear ha
  refine wp_words (by kernel_rfl) (region_told 15 (by kernel_rfl) (by kernel_rfl) (fun W => Below wv.heap.size wv W) newer (pickD [vIs (.pointer (some ⟨w.heap.size + 1, 0, none⟩)), vIs (vi snow), vIs (.pointer (some ⟨w.heap.size + 1, 0, none⟩)), vIs (vi snow), vIs (.agg #[vi snow, vi snow]), vIs (.pointer (some ⟨w.heap.size, 3, none⟩)), vIs (.agg #[vi g.klo, vi g.khi]), vIs (.pointer (some ⟨w.heap.size, 5, none⟩)), vIs (vi g.melt), vEmp wv.heap.size, vIs (.pointer (some ⟨w.heap.size, 0, none⟩)), vIs (.slice (some ⟨b0, off0, none⟩) g.cells.length ap), vCs wv.heap.size g.cells, vGs wv.heap.size g snow, vNew wv.heap.size 26 #[.slice none 0 0, vi 0, vi 0, vi 0, vi 0, vi 0]]) (fun h k => newer_trans h k) (pickD_stable _ ⟨vIs_st, vIs_st, vIs_st, vIs_st, vIs_st, vIs_st, vIs_st, vIs_st, vIs_st, vEmp_st, vIs_st, vIs_st, vCs_st, vGs_st, vNew_st, trivial⟩) (Below.refl _ wv).drew (Below.refl _ _) ?_ ?_)
  · refine ⟨?_, ?_, ?_, ?_, ?_, ?_, ?_, ?_, ?_, ?_, ?_, ?_, ?_, ?_, ?_, trivial⟩
    · intro a W hG hR hO hp
      have h5 := hO.slot 5 (by kernel_rfl)
      refine wp_yields (v := .pointer (some ⟨w.heap.size + 1, 0, none⟩)) ?_ ⟨_, rfl, rfl, Below.refl _ _, hG⟩
      simp [slotOf] at h5
      simp [execOp, go_sem, h5]
    · intro a W hG hR hO hp
      have h12 : slotOf a 12 = .pointer (some ⟨w.heap.size + 1, 0, none⟩) := hp.1
      have c0 := keep_cell t0 hG
      refine wp_yields (v := vi snow) ?_ ⟨_, rfl, rfl, Below.refl _ _, hG⟩
      simp [slotOf] at h12
      simp [execOp, go_sem, h12, c0]
    · intro a W hG hR hO hp
      have h5 := hO.slot 5 (by kernel_rfl)
      refine wp_yields (v := .pointer (some ⟨w.heap.size + 1, 0, none⟩)) ?_ ⟨_, rfl, rfl, Below.refl _ _, hG⟩
      simp [slotOf] at h5
      simp [execOp, go_sem, h5]
    · intro a W hG hR hO hp
      have h14 : slotOf a 14 = .pointer (some ⟨w.heap.size + 1, 0, none⟩) := hp.1
      have c0 := keep_cell t0 hG
      refine wp_yields (v := vi snow) ?_ ⟨_, rfl, rfl, Below.refl _ _, hG⟩
      simp [slotOf] at h14
      simp [execOp, go_sem, h14, c0]
    · intro a W hG hR hO hp
      have h13 : slotOf a 13 = vi snow := hp.1
      have h15 : slotOf a 15 = vi snow := hp.2.1
      refine wp_yields (v := .agg #[vi snow, vi snow]) ?_ ⟨_, rfl, rfl, Below.refl _ _, hG⟩
      simp [slotOf] at h13 h15
      simp [execOp, go_sem, h13, h15]
    · intro a W hG hR hO hp
      have h3 := hO.slot 3 (by kernel_rfl)
      refine wp_yields (v := .pointer (some ⟨w.heap.size, 3, none⟩)) ?_ ⟨_, rfl, rfl, Below.refl _ _, hG⟩
      simp [slotOf] at h3
      simp [execOp, go_sem, h3]
    · intro a W hG hR hO hp
      have h17 : slotOf a 17 = .pointer (some ⟨w.heap.size, 3, none⟩) := hp.1
      have c0 := keep_cell x3 hG
      have c1 := keep_cell x4 hG
      refine wp_yields (v := .agg #[vi g.klo, vi g.khi]) ?_ ⟨_, rfl, rfl, Below.refl _ _, hG⟩
      simp [slotOf] at h17
      simp [execOp, go_sem, h17, c0, c1]
    · intro a W hG hR hO hp
      have h3 := hO.slot 3 (by kernel_rfl)
      refine wp_yields (v := .pointer (some ⟨w.heap.size, 5, none⟩)) ?_ ⟨_, rfl, rfl, Below.refl _ _, hG⟩
      simp [slotOf] at h3
      simp [execOp, go_sem, h3]
    · intro a W hG hR hO hp
      have h19 : slotOf a 19 = .pointer (some ⟨w.heap.size, 5, none⟩) := hp.1
      have c0 := keep_cell x5 hG
      refine wp_yields (v := vi g.melt) ?_ ⟨_, rfl, rfl, Below.refl _ _, hG⟩
      simp [slotOf] at h19
      simp [execOp, go_sem, h19, c0]
    · intro a W hG hR hO hp
      refine wp_makes (v := .slice (some ⟨W.heap.size, 0, none⟩) 0 0) (W' := W.alloc (.cells #[] 74)) ?_ ⟨_, rfl, ⟨_, rfl, hG.size⟩, newer_allocK _ _, hG.alloc hG.size _⟩
      skip
      simp [execOp, go_sem]
    · intro a W hG hR hO hp
      have h3 := hO.slot 3 (by kernel_rfl)
      refine wp_yields (v := .pointer (some ⟨w.heap.size, 0, none⟩)) ?_ ⟨_, rfl, rfl, Below.refl _ _, hG⟩
      simp [slotOf] at h3
      simp [execOp, go_sem, h3]
    · intro a W hG hR hO hp
      have h22 : slotOf a 22 = .pointer (some ⟨w.heap.size, 0, none⟩) := hp.1
      have c0 := keep_cell x0 hG
      refine wp_yields (v := .slice (some ⟨b0, off0, none⟩) g.cells.length ap) ?_ ⟨_, rfl, rfl, Below.refl _ _, hG⟩
      simp [slotOf] at h22
      simp [execOp, go_sem, h22, c0]
    · intro a W hG hR hO hp
      have h21 := hp.1
      have h23 : slotOf a 23 = .slice (some ⟨b0, off0, none⟩) g.cells.length ap := hp.2.1
      obtain ⟨nb, h21, _⟩ := h21
      obtain ⟨hi0, hz0, hz1, hz2⟩ := HI.out
      refine wp_append_new (.tmp 21) (.tmp 23) 22 rfl 74 i74 (.agg #[.int .i64 0, .int .i64 0, .int .i64 0, .int .i64 0, .int .i64 0, .int .i64 0, .int .i64 0]) 7 56 Try.underlying22 hi0 hz0 hz1 hz2 rfl (by omega) ⟨nb, 0, none⟩ ((eval_slot a 21).trans h21) ⟨b0, off0, none⟩ g.cells.length ap (g.cells.flatMap cellL) ((eval_slot a 23).trans h23) (flat_len (enc := cellL) (s := 7) (fun _ => rfl) g.cells) (row_news (enc := cellL) (s := 7) (by omega) (fun _ => rfl) (HC.out.below (HA.out.newer hG).below)) (by omega) (by unfold maxLen; omega) (by omega) ?_
      intro gg cap W' hown hb
      exact ⟨_, rfl, ⟨gg, cap, rfl, own_more hown hG.size⟩, hb, below_next hG hb⟩
    · intro a W hG hR hO hp
      have h16 : slotOf a 16 = .agg #[vi snow, vi snow] := hp.1
      have h18 : slotOf a 18 = .agg #[vi g.klo, vi g.khi] := hp.2.1
      have h20 : slotOf a 20 = vi g.melt := hp.2.2.1
      have h24 := hp.2.2.2.1
      obtain ⟨gg, cp, h24, ho⟩ := h24
      refine wp_yields (v := .agg #[.slice (some ⟨gg, 0, none⟩) g.cells.length cp, vi snow, vi snow, vi g.klo, vi g.khi, vi g.melt]) ?_ ⟨_, rfl, ⟨gg, cp, rfl, ho⟩, Below.refl _ _, hG⟩
      simp [slotOf] at h16 h18 h20 h24
      simp [execOp, go_sem, h16, h18, h20, h24]
    · intro a W hG hR hO hp
      refine wp_makes (v := .pointer (some ⟨W.heap.size, 0, none⟩)) (W' := W.alloc (.cells #[.slice none 0 0, vi 0, vi 0, vi 0, vi 0, vi 0] 26)) ?_ ⟨_, rfl, ⟨_, rfl, hG.size, Whole.made _ _ _⟩, newer_allocK _ _, hG.alloc hG.size _⟩
      skip
      simp [execOp, go_sem]
  · intro W hG hR
    rintro _ rfl _ rfl _ rfl _ rfl _ rfl _ rfl _ rfl _ rfl _ rfl _ _ _ rfl _ rfl _ _ _ ⟨gg, cp, rfl, hown⟩ _ ⟨bx, rfl, hbx, hwx⟩
    change wpList _ _ _ _ _ _
    simp only [Act.put, List.setIfInBounds_toArray, List.set_cons_zero, List.set_cons_succ, List.drop_succ_cons, List.drop_zero]
    have z0 := hwx.at 0 rfl
    have z1 := hwx.at 1 rfl
    have z2 := hwx.at 2 rfl
    have z3 := hwx.at 3 rfl
    have z4 := hwx.at 4 rfl
    have z5 := hwx.at 5 rfl
    have f0 := hwx.free 0
    have f1 := hwx.free 1
    have f2 := hwx.free 2
    have f3 := hwx.free 3
    have f4 := hwx.free 4
    have f5 := hwx.free 5
    have hB : w.heap.size + 1 + 1 < wv.heap.size := HA.out.b2.lt
    have HBX := Lib.hid hbx
    have HK0 : Hid (KnB w (gndC (some ⟨b0, off0, none⟩) ap g) #[vi snow, vi soak, .slice L g.cells.length lp, .slice R days.length rp] wv.heap.size bx gg #[.slice none 0 0, vi 0, vi 0, vi 0, vi 0, vi 0] (.slice (some ⟨gg, 0, none⟩) g.cells.length cp) g.cells.length ((knTo g.cells lv 0).flatMap cellL) W) :=
      Lib.hid ⟨HA.out.newer hG, hwx, hown, by omega, by omega⟩
    clear hwx hown hG hR HA hbx x0 x3 x4 x5 t0
    go_wp2_with fail
    have HK := Lib.hid ((((((HK0.out.set 0 (.slice (some ⟨gg, 0, none⟩) g.cells.length cp)).set 1 (vi snow)).set 2 (vi snow)).set 3 (vi g.klo)).set 4 (vi g.khi)).set 5 (vi g.melt))
    clear HK0 z0 z1 z2 z3 z4 z5 f0 f1 f2 f3 f4 f5
    go_loopw [9] (fun s9 wr => ∃ k : Nat, k ≤ g.cells.length ∧ s9 = .int .i64 k ∧ KnB w (gndC (some ⟨b0, off0, none⟩) ap g) #[vi snow, vi soak, .slice L g.cells.length lp, .slice R days.length rp] wv.heap.size bx gg #[.slice (some ⟨gg, 0, none⟩) g.cells.length cp, vi snow, vi snow, vi g.klo, vi g.khi, vi g.melt] (.slice (some ⟨gg, 0, none⟩) g.cells.length cp) g.cells.length ((knTo g.cells lv (k)).flatMap cellL) wr) (fun s9 _ => g.cells.length - (intOf s9).toNat)
    case atStart => exact ⟨0, Nat.zero_le _, rfl, HK.out⟩
    case round =>
      obtain ⟨k, hk, rfl, hx⟩ := hrel
      clear HK
      have HK := Lib.hid hx
      have e0 := hx.gb.at 0 (v := .slice (some ⟨gg, 0, none⟩) g.cells.length cp) rfl
      by_cases hlt : k < g.cells.length
      · obtain ⟨y, hy⟩ := get_of_lt (l := lv) (k := k) (by have := HLE.out.1; omega)
        obtain ⟨lb, lo, rfl, hlb, hly⟩ := row1 (HL.out.below hx.kn.below) hy
        have hkn : (k : Int) < g.cells.length := by omega
        have e2 := hx.kn.b1.at 2 (v := .slice (some ⟨lb, lo, none⟩) g.cells.length lp) rfl
        have HY := Lib.hid (iAt_of hy)
        clear hx hy
        go_wp2_with fail
        refine wp_words (by kernel_rfl) (region_told 16 (by kernel_rfl) (by kernel_rfl) (fun W => Below wr.heap.size wr W) newer (pickD [vIs (.pointer (some ⟨bx, 0, none⟩)), vIs (.slice (some ⟨gg, 0, none⟩) g.cells.length cp), vIs (.int .i64 k), vIs (.pointer (some ⟨w.heap.size + 1, 2, none⟩)), vIs (.slice (some ⟨lb, lo, none⟩) g.cells.length lp), vIs (.int .i64 k), vIs (.pointer (some ⟨lb, lo + k, none⟩)), vIs (vi y), vIs (.pointer (some ⟨w.heap.size + 1, 2, none⟩)), vIs (.slice (some ⟨lb, lo, none⟩) g.cells.length lp), vIs (.int .i64 k), vIs (.pointer (some ⟨lb, lo + k, none⟩)), vIs (vi y), vIs (.agg #[vi y, vi y]), vIs (.pointer (some ⟨gg, k * 7, none⟩)), vIs (.pointer (some ⟨gg, k * 7, none⟩))]) (fun h k => newer_trans h k) (pickD_stable _ ⟨vIs_st, vIs_st, vIs_st, vIs_st, vIs_st, vIs_st, vIs_st, vIs_st, vIs_st, vIs_st, vIs_st, vIs_st, vIs_st, vIs_st, vIs_st, vIs_st, trivial⟩) (Below.refl _ wr).drew (Below.refl _ _) ?_ ?_)
        · refine ⟨?_, ?_, ?_, ?_, ?_, ?_, ?_, ?_, ?_, ?_, ?_, ?_, ?_, ?_, ?_, ?_, trivial⟩
          · intro a W hG hR hO hp
            have h8 := hO.slot 8 (by kernel_rfl)
            refine wp_yields (v := .pointer (some ⟨bx, 0, none⟩)) ?_ ⟨_, rfl, rfl, Below.refl _ _, hG⟩
            simp [slotOf] at h8
            simp [execOp, go_sem, h8]
          · intro a W hG hR hO hp
            have h33 : slotOf a 33 = .pointer (some ⟨bx, 0, none⟩) := hp.1
            have c0 := keep_cell e0 hG
            refine wp_yields (v := .slice (some ⟨gg, 0, none⟩) g.cells.length cp) ?_ ⟨_, rfl, rfl, Below.refl _ _, hG⟩
            simp [slotOf] at h33
            simp [execOp, go_sem, h33, c0]
          · intro a W hG hR hO hp
            have h9 := hO.slot 9 (by kernel_rfl)
            refine wp_yields (v := .int .i64 k) ?_ ⟨_, rfl, rfl, Below.refl _ _, hG⟩
            simp [slotOf] at h9
            simp [execOp, go_sem, h9]
          · intro a W hG hR hO hp
            have h5 := hO.slot 5 (by kernel_rfl)
            refine wp_yields (v := .pointer (some ⟨w.heap.size + 1, 2, none⟩)) ?_ ⟨_, rfl, rfl, Below.refl _ _, hG⟩
            simp [slotOf] at h5
            simp [execOp, go_sem, h5]
          · intro a W hG hR hO hp
            have h36 : slotOf a 36 = .pointer (some ⟨w.heap.size + 1, 2, none⟩) := hp.1
            have c0 := keep_cell e2 hG
            refine wp_yields (v := .slice (some ⟨lb, lo, none⟩) g.cells.length lp) ?_ ⟨_, rfl, rfl, Below.refl _ _, hG⟩
            simp [slotOf] at h36
            simp [execOp, go_sem, h36, c0]
          · intro a W hG hR hO hp
            have h9 := hO.slot 9 (by kernel_rfl)
            refine wp_yields (v := .int .i64 k) ?_ ⟨_, rfl, rfl, Below.refl _ _, hG⟩
            simp [slotOf] at h9
            simp [execOp, go_sem, h9]
          · intro a W hG hR hO hp
            have h37 : slotOf a 37 = .slice (some ⟨lb, lo, none⟩) g.cells.length lp := hp.1
            have h38 : slotOf a 38 = .int .i64 k := hp.2.1
            refine wp_yields (v := .pointer (some ⟨lb, lo + k, none⟩)) ?_ ⟨_, rfl, rfl, Below.refl _ _, hG⟩
            simp [slotOf] at h37 h38 hkn
            simp [execOp, go_sem, h37, h38, hkn]
          · intro a W hG hR hO hp
            have h39 : slotOf a 39 = .pointer (some ⟨lb, lo + k, none⟩) := hp.1
            have c0 := keep_cell hly hG
            refine wp_yields (v := vi y) ?_ ⟨_, rfl, rfl, Below.refl _ _, hG⟩
            simp [slotOf] at h39
            simp [execOp, go_sem, h39, c0]
          · intro a W hG hR hO hp
            have h5 := hO.slot 5 (by kernel_rfl)
            refine wp_yields (v := .pointer (some ⟨w.heap.size + 1, 2, none⟩)) ?_ ⟨_, rfl, rfl, Below.refl _ _, hG⟩
            simp [slotOf] at h5
            simp [execOp, go_sem, h5]
          · intro a W hG hR hO hp
            have h41 : slotOf a 41 = .pointer (some ⟨w.heap.size + 1, 2, none⟩) := hp.1
            have c0 := keep_cell e2 hG
            refine wp_yields (v := .slice (some ⟨lb, lo, none⟩) g.cells.length lp) ?_ ⟨_, rfl, rfl, Below.refl _ _, hG⟩
            simp [slotOf] at h41
            simp [execOp, go_sem, h41, c0]
          · intro a W hG hR hO hp
            have h9 := hO.slot 9 (by kernel_rfl)
            refine wp_yields (v := .int .i64 k) ?_ ⟨_, rfl, rfl, Below.refl _ _, hG⟩
            simp [slotOf] at h9
            simp [execOp, go_sem, h9]
          · intro a W hG hR hO hp
            have h42 : slotOf a 42 = .slice (some ⟨lb, lo, none⟩) g.cells.length lp := hp.1
            have h43 : slotOf a 43 = .int .i64 k := hp.2.1
            refine wp_yields (v := .pointer (some ⟨lb, lo + k, none⟩)) ?_ ⟨_, rfl, rfl, Below.refl _ _, hG⟩
            simp [slotOf] at h42 h43 hkn
            simp [execOp, go_sem, h42, h43, hkn]
          · intro a W hG hR hO hp
            have h44 : slotOf a 44 = .pointer (some ⟨lb, lo + k, none⟩) := hp.1
            have c0 := keep_cell hly hG
            refine wp_yields (v := vi y) ?_ ⟨_, rfl, rfl, Below.refl _ _, hG⟩
            simp [slotOf] at h44
            simp [execOp, go_sem, h44, c0]
          · intro a W hG hR hO hp
            have h40 : slotOf a 40 = vi y := hp.1
            have h45 : slotOf a 45 = vi y := hp.2.1
            refine wp_yields (v := .agg #[vi y, vi y]) ?_ ⟨_, rfl, rfl, Below.refl _ _, hG⟩
            simp [slotOf] at h40 h45
            simp [execOp, go_sem, h40, h45]
          · intro a W hG hR hO hp
            have h34 : slotOf a 34 = .slice (some ⟨gg, 0, none⟩) g.cells.length cp := hp.1
            have h35 : slotOf a 35 = .int .i64 k := hp.2.1
            refine wp_yields (v := .pointer (some ⟨gg, k * 7, none⟩)) ?_ ⟨_, rfl, rfl, Below.refl _ _, hG⟩
            simp [slotOf] at h34 h35 hkn
            simp [execOp, go_sem, h34, h35, hkn]
          · intro a W hG hR hO hp
            have h47 : slotOf a 47 = .pointer (some ⟨gg, k * 7, none⟩) := hp.1
            refine wp_yields (v := .pointer (some ⟨gg, k * 7, none⟩)) ?_ ⟨_, rfl, rfl, Below.refl _ _, hG⟩
            simp [slotOf] at h47
            simp [execOp, go_sem, h47]
        · intro W hG hR
          rintro _ rfl _ rfl _ rfl _ rfl _ rfl _ rfl _ rfl _ rfl _ rfl _ rfl _ rfl _ rfl _ rfl _ rfl _ rfl _ rfl
          change wpList _ _ _ _ _ _
          simp only [Act.put, List.setIfInBounds_toArray, List.set_cons_zero, List.set_cons_succ, List.drop_succ_cons, List.drop_zero]
          have hx := HK.out.newer hG
          have hkl : (knTo g.cells lv k)[k]? = some (cAt g.cells k) := by
            rw [knTo_far _ _ _ _ (Nat.le_refl _)]
            obtain ⟨c, hc⟩ := get_of_lt hlt
            rw [cAt_of hc, hc]
          have hq := hx.own.cellAt (k * 7) (by omega)
          have hq1 := hx.own.cellAt (k * 7 + 1) (by omega)
          obtain ⟨u0, hu0⟩ := get_of_lt (l := (knTo g.cells lv k).flatMap cellL) (k := k * 7) (by rw [hx.own.1]; omega)
          obtain ⟨u1, hu1⟩ := get_of_lt (l := (knTo g.cells lv k).flatMap cellL) (k := k * 7 + 1) (by rw [hx.own.1]; omega)
          rw [hu0] at hq
          rw [hu1] at hq1
          have hf := hx.own.frozenAt (k * 7)
          have hf1 := hx.own.frozenAt (k * 7 + 1)
          have hk1 : knTo g.cells lv (k + 1) = (knTo g.cells lv k).set k (oneC (cAt g.cells k) y) := by rw [knTo, HY.out]
          have hput := hx.put hkl y
          rw [← hk1] at hput
          have HP := Lib.hid hput
          clear hx hput hkl hk1 hu0 hu1 hG hR HK e0 e2 hly
          go_wp2_with fail
          go_roundw
          case rel => exact ⟨k + 1, by omega, by go_num, HP.out⟩
          case measure => simp [intOf]; omega
      · have hke : k = g.cells.length := by omega
        subst hke
        clear hx hlt hk
        go_wp2_with fail
        go_loopw [10, 11] (fun s10 s11 wr => ∃ k : Nat, k ≤ days.length ∧ s11 = .int .i64 k ∧ KnB w (gndC (some ⟨b0, off0, none⟩) ap g) #[vi snow, vi soak, .slice L g.cells.length lp, .slice R days.length rp] wv.heap.size bx gg #[.slice (some ⟨gg, 0, none⟩) g.cells.length cp, vi snow, vi snow, vi g.klo, vi g.khi, vi g.melt] (.slice (some ⟨gg, 0, none⟩) g.cells.length cp) g.cells.length ((knTo g.cells lv (g.cells.length)).flatMap cellL) wr ∧ wr.ownsRow w.heap.size 122 3 s10 k (((knD days rn).take k).flatMap dayL)) (fun _ s11 _ => days.length - (intOf s11).toNat)
        case atStart => exact ⟨0, Nat.zero_le _, rfl, HK.out, by simp, .inl ⟨rfl, rfl⟩⟩
        case round =>
          obtain ⟨k, hk, rfl, hx, hown⟩ := hrel
          clear HK e0
          have HK := Lib.hid hx
          have HO := Lib.hid hown
          by_cases hlt : k < days.length
          · obtain ⟨y, hy⟩ := get_of_lt (l := rn) (k := k) (by have := HLE.out.2; omega)
            obtain ⟨lb, lo, rfl, hlb, hly⟩ := row1 (HR.out.below hx.kn.below) hy
            obtain ⟨d, hdk⟩ := get_of_lt hlt
            obtain ⟨db, doff, rfl, hdb, _, _, hwm⟩ := row3 (HD.out.below hx.kn.below) hdk
            have hkn : (k : Int) < days.length := by omega
            have e2 := hx.kn.b1.at 3 (v := .slice (some ⟨lb, lo, none⟩) days.length rp) rfl
            have HDK : Hid ((knD days rn)[k]? = some (oneD d y)) := Lib.hid (by rw [knD_at _ _ hlt, iAt_of hy, dAt_of hdk])
            clear hx hown hy hdk
            go_wp2_with fail
            refine wp_words (by kernel_rfl) (region_told 19 (by kernel_rfl) (by kernel_rfl) (fun W => Below wr.heap.size wr W) newer (pickD [vIs (u10), vIs (.pointer (some ⟨w.heap.size + 1, 3, none⟩)), vIs (.slice (some ⟨lb, lo, none⟩) days.length rp), vIs (.int .i64 k), vIs (.pointer (some ⟨lb, lo + k, none⟩)), vIs (vi y), vIs (.pointer (some ⟨w.heap.size + 1, 3, none⟩)), vIs (.slice (some ⟨lb, lo, none⟩) days.length rp), vIs (.int .i64 k), vIs (.pointer (some ⟨lb, lo + k, none⟩)), vIs (vi y), vIs (.agg #[vi y, vi y]), vIs (.slice (some ⟨db, doff, none⟩) days.length dp), vIs (.int .i64 k), vIs (.pointer (some ⟨db, doff + k * 3, none⟩)), vIs (.pointer (some ⟨db, doff + k * 3 + 2, none⟩)), vIs (vi d.warm), vIs (.agg #[vi y, vi y, vi d.warm]), vOne wr.heap.size 122 #[vi y, vi y, vi d.warm]]) (fun h k => newer_trans h k) (pickD_stable _ ⟨vIs_st, vIs_st, vIs_st, vIs_st, vIs_st, vIs_st, vIs_st, vIs_st, vIs_st, vIs_st, vIs_st, vIs_st, vIs_st, vIs_st, vIs_st, vIs_st, vIs_st, vIs_st, vOne_st, trivial⟩) (Below.refl _ wr).drew (Below.refl _ _) ?_ ?_)
            · refine ⟨?_, ?_, ?_, ?_, ?_, ?_, ?_, ?_, ?_, ?_, ?_, ?_, ?_, ?_, ?_, ?_, ?_, ?_, ?_, trivial⟩
              · intro a W hG hR hO hp
                have h10 := hO.slot 10 (by kernel_rfl)
                refine wp_yields (v := u10) ?_ ⟨_, rfl, rfl, Below.refl _ _, hG⟩
                simp [slotOf] at h10
                simp [execOp, go_sem, h10]
              · intro a W hG hR hO hp
                have h5 := hO.slot 5 (by kernel_rfl)
                refine wp_yields (v := .pointer (some ⟨w.heap.size + 1, 3, none⟩)) ?_ ⟨_, rfl, rfl, Below.refl _ _, hG⟩
                simp [slotOf] at h5
                simp [execOp, go_sem, h5]
              · intro a W hG hR hO hp
                have h56 : slotOf a 56 = .pointer (some ⟨w.heap.size + 1, 3, none⟩) := hp.1
                have c0 := keep_cell e2 hG
                refine wp_yields (v := .slice (some ⟨lb, lo, none⟩) days.length rp) ?_ ⟨_, rfl, rfl, Below.refl _ _, hG⟩
                simp [slotOf] at h56
                simp [execOp, go_sem, h56, c0]
              · intro a W hG hR hO hp
                have h11 := hO.slot 11 (by kernel_rfl)
                refine wp_yields (v := .int .i64 k) ?_ ⟨_, rfl, rfl, Below.refl _ _, hG⟩
                simp [slotOf] at h11
                simp [execOp, go_sem, h11]
              · intro a W hG hR hO hp
                have h57 : slotOf a 57 = .slice (some ⟨lb, lo, none⟩) days.length rp := hp.1
                have h58 : slotOf a 58 = .int .i64 k := hp.2.1
                refine wp_yields (v := .pointer (some ⟨lb, lo + k, none⟩)) ?_ ⟨_, rfl, rfl, Below.refl _ _, hG⟩
                simp [slotOf] at h57 h58 hkn
                simp [execOp, go_sem, h57, h58, hkn]
              · intro a W hG hR hO hp
                have h59 : slotOf a 59 = .pointer (some ⟨lb, lo + k, none⟩) := hp.1
                have c0 := keep_cell hly hG
                refine wp_yields (v := vi y) ?_ ⟨_, rfl, rfl, Below.refl _ _, hG⟩
                simp [slotOf] at h59
                simp [execOp, go_sem, h59, c0]
              · intro a W hG hR hO hp
                have h5 := hO.slot 5 (by kernel_rfl)
                refine wp_yields (v := .pointer (some ⟨w.heap.size + 1, 3, none⟩)) ?_ ⟨_, rfl, rfl, Below.refl _ _, hG⟩
                simp [slotOf] at h5
                simp [execOp, go_sem, h5]
              · intro a W hG hR hO hp
                have h61 : slotOf a 61 = .pointer (some ⟨w.heap.size + 1, 3, none⟩) := hp.1
                have c0 := keep_cell e2 hG
                refine wp_yields (v := .slice (some ⟨lb, lo, none⟩) days.length rp) ?_ ⟨_, rfl, rfl, Below.refl _ _, hG⟩
                simp [slotOf] at h61
                simp [execOp, go_sem, h61, c0]
              · intro a W hG hR hO hp
                have h11 := hO.slot 11 (by kernel_rfl)
                refine wp_yields (v := .int .i64 k) ?_ ⟨_, rfl, rfl, Below.refl _ _, hG⟩
                simp [slotOf] at h11
                simp [execOp, go_sem, h11]
              · intro a W hG hR hO hp
                have h62 : slotOf a 62 = .slice (some ⟨lb, lo, none⟩) days.length rp := hp.1
                have h63 : slotOf a 63 = .int .i64 k := hp.2.1
                refine wp_yields (v := .pointer (some ⟨lb, lo + k, none⟩)) ?_ ⟨_, rfl, rfl, Below.refl _ _, hG⟩
                simp [slotOf] at h62 h63 hkn
                simp [execOp, go_sem, h62, h63, hkn]
              · intro a W hG hR hO hp
                have h64 : slotOf a 64 = .pointer (some ⟨lb, lo + k, none⟩) := hp.1
                have c0 := keep_cell hly hG
                refine wp_yields (v := vi y) ?_ ⟨_, rfl, rfl, Below.refl _ _, hG⟩
                simp [slotOf] at h64
                simp [execOp, go_sem, h64, c0]
              · intro a W hG hR hO hp
                have h60 : slotOf a 60 = vi y := hp.1
                have h65 : slotOf a 65 = vi y := hp.2.1
                refine wp_yields (v := .agg #[vi y, vi y]) ?_ ⟨_, rfl, rfl, Below.refl _ _, hG⟩
                simp [slotOf] at h60 h65
                simp [execOp, go_sem, h60, h65]
              · intro a W hG hR hO hp
                have h1 := hO.slot 1 (by kernel_rfl)
                refine wp_yields (v := .slice (some ⟨db, doff, none⟩) days.length dp) ?_ ⟨_, rfl, rfl, Below.refl _ _, hG⟩
                simp [slotOf] at h1
                simp [execOp, go_sem, h1]
              · intro a W hG hR hO hp
                have h11 := hO.slot 11 (by kernel_rfl)
                refine wp_yields (v := .int .i64 k) ?_ ⟨_, rfl, rfl, Below.refl _ _, hG⟩
                simp [slotOf] at h11
                simp [execOp, go_sem, h11]
              · intro a W hG hR hO hp
                have h67 : slotOf a 67 = .slice (some ⟨db, doff, none⟩) days.length dp := hp.1
                have h68 : slotOf a 68 = .int .i64 k := hp.2.1
                refine wp_yields (v := .pointer (some ⟨db, doff + k * 3, none⟩)) ?_ ⟨_, rfl, rfl, Below.refl _ _, hG⟩
                simp [slotOf] at h67 h68 hkn
                simp [execOp, go_sem, h67, h68, hkn]
              · intro a W hG hR hO hp
                have h69 : slotOf a 69 = .pointer (some ⟨db, doff + k * 3, none⟩) := hp.1
                refine wp_yields (v := .pointer (some ⟨db, doff + k * 3 + 2, none⟩)) ?_ ⟨_, rfl, rfl, Below.refl _ _, hG⟩
                simp [slotOf] at h69
                simp [execOp, go_sem, h69]
              · intro a W hG hR hO hp
                have h70 : slotOf a 70 = .pointer (some ⟨db, doff + k * 3 + 2, none⟩) := hp.1
                have c0 := keep_cell hwm hG
                refine wp_yields (v := vi d.warm) ?_ ⟨_, rfl, rfl, Below.refl _ _, hG⟩
                simp [slotOf] at h70
                simp [execOp, go_sem, h70, c0]
              · intro a W hG hR hO hp
                have h66 : slotOf a 66 = .agg #[vi y, vi y] := hp.1
                have h71 : slotOf a 71 = vi d.warm := hp.2.1
                refine wp_yields (v := .agg #[vi y, vi y, vi d.warm]) ?_ ⟨_, rfl, rfl, Below.refl _ _, hG⟩
                simp [slotOf] at h66 h71
                simp [execOp, go_sem, h66, h71]
              · intro a W hG hR hO hp
                have h72 : slotOf a 72 = .agg #[vi y, vi y, vi d.warm] := hp.1
                refine wp_makes (v := .slice (some ⟨W.heap.size, 0, none⟩) 1 1) (W' := W.alloc (.cells #[vi y, vi y, vi d.warm] 122)) ?_ ⟨_, rfl, ⟨_, rfl, hG.size, Whole.made _ _ _⟩, newer_allocK _ _, hG.alloc hG.size _⟩
                simp [slotOf] at h72
                simp [execOp, go_sem, h72]
            · intro W hG hR
              rintro _ rfl _ rfl _ rfl _ rfl _ rfl _ rfl _ rfl _ rfl _ rfl _ rfl _ rfl _ rfl _ rfl _ rfl _ rfl _ rfl _ rfl _ rfl _ ⟨nb1, rfl, hnb1, hW1⟩
              change wpList _ _ _ _ _ _
              simp only [Act.put, List.setIfInBounds_toArray, List.set_cons_zero, List.set_cons_succ, List.drop_succ_cons, List.drop_zero]
              have HO2 := Lib.hid (own_below HO.out hG)
              have HNW := Lib.hid (World.news_of_block hW1)
              have HK2 := Lib.hid (HK.out.newer hG)
              have hbs := (HK.out.newer hG).kn.below.size
              obtain ⟨hi0, hz0, hz1, hz2⟩ := HI2.out
              clear hG hR hnb1 hW1 HK e2 hly hwm
              go_wp2_with (at_builtin; go_loud ((refine wpList_append_lies _ rfl (.tmp 55) (.tmp 73) 27 rfl w.heap.size 122 i122 (.agg #[.int .i64 0, .int .i64 0, .int .i64 0]) 3 24 Try.underlying27 hi0 hz0 hz1 hz2 rfl (by omega) _ k _ rfl HO2.out ⟨nb1, 0, none⟩ 1 1 (dayL (oneD d y)) rfl rfl HNW.out (by simp [Value.oneCell']) (by omega) (by unfold maxLen; omega) (by omega) hbs W.heap.size rfl ?_); intro gg2 cp2 w2 hown2 hgrow2 hat2 hlt2; rw [← take_flat dayL (knD days rn) k (oneD d y) HDK.out] at hown2; have HO3 := Lib.hid hown2; have HK3 := Lib.hid ((HK2.out).grown HO2.out (Nat.le_refl _) (by decide) (by decide) (own_two (HK2.out).own HO2.out (by decide)) hgrow2); clear hown2 hgrow2 hat2 hlt2 hi0 hz0 hz1 hz2 hbs))
              go_roundw
              case rel => exact ⟨k + 1, by omega, by go_num, HK3.out, HO3.out⟩
              case measure => simp [intOf]; omega
          · have hke : k = days.length := by omega
            subst hke
            rw [List.take_of_length_le (by rw [knD_len]; omega)] at hown
            obtain ⟨A2, c2, rfl⟩ := own_form hown
            have HF := Lib.hid hown
            have HKX := Lib.hid hx
            clear hown hx hlt hk HO HK
            have c0 := HKX.out.gb.at 0 rfl
            have c1 := HKX.out.gb.at 1 rfl
            have c2' := HKX.out.gb.at 2 rfl
            have c3 := HKX.out.gb.at 3 rfl
            have c4 := HKX.out.gb.at 4 rfl
            have c5 := HKX.out.gb.at 5 rfl
            have r0 := HKX.out.kn.b2.at 0 rfl
            have r1 := HKX.out.kn.b2.at 1 rfl
            have r2 := HKX.out.kn.b2.at 2 rfl
            have r3 := HKX.out.kn.b2.at 3 rfl
            have r4 := HKX.out.kn.b2.at 4 rfl
            have r5 := HKX.out.kn.b2.at 5 rfl
            have f0 := HKX.out.kn.b2.free 0
            have f1 := HKX.out.kn.b2.free 1
            have f2 := HKX.out.kn.b2.free 2
            have f3 := HKX.out.kn.b2.free 3
            have f4 := HKX.out.kn.b2.free 4
            have f5 := HKX.out.kn.b2.free 5
            go_wp2_with fail
            have hm := HKX.out.kn
            have c := (((((hm.b2.set 0 (.slice (some ⟨gg, 0, none⟩) g.cells.length cp)).set 1 (vi snow)).set 2 (vi snow)).set 3 (vi g.klo)).set 4 (vi g.khi)).set 5 (vi g.melt)
            have k0 := c.at 0 rfl
            have k1 := c.at 1 rfl
            have k2 := c.at 2 rfl
            have k3 := c.at 3 rfl
            have k4 := c.at 4 rfl
            have k5 := c.at 5 rfl
            have ne := own_ne HKX.out.own hm.b2 (by decide)
            have ne2 := own_ne HF.out hm.b2 (by decide)
            have s : ∀ {X : World} {u : Value} {i : Nat}, Below w.heap.size w X → Below w.heap.size w (X.setCell ⟨w.heap.size + 1 + 1, i, none⟩ u) := fun h => h.setCell (p := ⟨w.heap.size + 1 + 1, _, none⟩) (by dsimp only; omega) _
            have q : ∀ {X : World} {u : Value} {i : Nat} {xs : List Value}, X.ownsRow wv.heap.size 74 7 (.slice (some ⟨gg, 0, none⟩) g.cells.length cp) g.cells.length xs → (X.setCell ⟨w.heap.size + 1 + 1, i, none⟩ u).ownsRow wv.heap.size 74 7 (.slice (some ⟨gg, 0, none⟩) g.cells.length cp) g.cells.length xs := fun h => own_set h ne _
            have q2 : ∀ {X : World} {u : Value} {i : Nat} {xs : List Value}, X.ownsRow w.heap.size 122 3 (.slice A2 days.length c2) days.length xs → (X.setCell ⟨w.heap.size + 1 + 1, i, none⟩ u).ownsRow w.heap.size 122 3 (.slice A2 days.length c2) days.length xs := fun h => own_set h ne2 _
            have hgv : gndV (some ⟨gg, 0, none⟩) cp (knG g snow lv) = .agg #[.slice (some ⟨gg, 0, none⟩) g.cells.length cp, vi snow, vi snow, vi g.klo, vi g.khi, vi g.melt] := by
              unfold gndV knG
              dsimp only
              rw [knTo_len]
            exact bodyPost_ret (v := .tuple #[.agg #[.slice (some ⟨gg, 0, none⟩) g.cells.length cp, vi snow, vi snow, vi g.klo, vi g.khi, vi g.melt], .slice A2 days.length c2]) (by simp [results, Try.results46, go_sem, k0, k1, k2, k3, k4, k5]) rfl ⟨⟨_, _, rfl, ⟨some ⟨gg, 0, none⟩, cp, hgv.symm, row_of_own (cap := cp) (base := wv.heap.size) (e := 74) (by omega) (fun _ => rfl) (q (q (q (q (q (q HKX.out.own))))))⟩, ⟨A2, c2, by rw [knD_len], row_of_own (by omega) (fun _ => rfl) (q2 (q2 (q2 (q2 (q2 (q2 HF.out))))))⟩⟩, s (s (s (s (s (s hm.below)))))⟩
end Go.Proofs.Yteonkhohloabfaa

/- Plain laws of Known: the ground of which all is known but the soak is valid, and runs as the truth runs on the given one. -/
namespace Go.Proofs.Yteonkhohloabfaa

/-- Cells that do the same. -/
structure Like (l' l : List Cell) : Prop where
  len : l'.length = l.length
  cap : ∀ i, (cAt l' i).cap = (cAt l i).cap
  keep : ∀ i, (cAt l' i).keep = (cAt l i).keep
  pass : ∀ i, (cAt l' i).pass = (cAt l i).pass
  goes : ∀ i, (cAt l' i).to = (cAt l i).to
  pump : ∀ i, (cAt l' i).pump = (cAt l i).pump
section
variable {l' l : List Cell} {f : Nat → Int}
theorem Like.taken (h : Like l' l) (i : Nat) (x : Int) : takenF (cAt l' i) x = takenF (cAt l i) x := by unfold takenF; rw [h.pump]
theorem Like.stays (h : Like l' l) (i : Nat) (x : Int) : staysF (cAt l' i) x = staysF (cAt l i) x := by unfold staysF; rw [h.taken]
theorem Like.over (h : Like l' l) (i : Nat) (x : Int) : overF (cAt l' i) x = overF (cAt l i) x := by unfold overF; rw [h.stays, h.keep]
theorem Like.on (h : Like l' l) (i : Nat) (x : Int) : onF (cAt l' i) x = onF (cAt l i) x := by unfold onF; rw [h.over, h.pass]
theorem Like.base (h : Like l' l) (i : Nat) (x s : Int) : baseF (cAt l' i) x s = baseF (cAt l i) x s := by unfold baseF; rw [h.stays, h.on]
theorem Like.inflow (h : Like l' l) (i : Nat) : ∀ k, inflow l' f i k = inflow l f i k
  | 0 => rfl
  | k + 1 => by simp only [Proofs.Yteonkhohloabfaa.inflow]; rw [h.inflow i k, h.goes, h.on]
theorem Like.now (h : Like l' l) (s : Int) (k i : Nat) : nowF l' f s k i = nowF l f s k i := by unfold nowF; rw [h.base, h.inflow]
theorem Like.leftA (h : Like l' l) (d s : Int) : ∀ k, leftA l' f d s k = leftA l f d s k
  | 0 => rfl
  | k + 1 => by simp only [Proofs.Yteonkhohloabfaa.leftA]; rw [h.leftA d s k, h.goes, h.on, h.taken]
theorem Like.newLv (h : Like l' l) (s : Int) : newLv l' f s = newLv l f s := by
  funext i
  unfold Proofs.Yteonkhohloabfaa.newLv
  rw [h.len, h.now, h.cap]
theorem Like.leftB (h : Like l' l) (s : Int) : ∀ k, leftB l' f s k = leftB l f s k
  | 0 => rfl
  | k + 1 => by simp only [Proofs.Yteonkhohloabfaa.leftB]; rw [h.leftB s k, h.len, h.now, h.cap]
theorem Like.newLeft (h : Like l' l) (d s : Int) : newLeft l' f d s = newLeft l f d s := by unfold Proofs.Yteonkhohloabfaa.newLeft; rw [h.len, h.leftA, h.leftB]
theorem Like.step (h : Like l' l) {m k : Int} {d' d : Day} (hd : d'.warm = d.warm) (r : Int) (x : St) : dayStep l' m k d' r x = dayStep l m k d r x := by
  unfold dayStep downOf snowOf meltOf
  rw [hd, h.newLv, h.newLeft]
theorem Like.stAt (h : Like l' l) {m s : Int} {days' days : List Day} {rn' rn : List Int} {x' x : St} (hd : ∀ k, k < days.length → (dAt days' k).warm = (dAt days k).warm) (hr : ∀ k, k < days.length → iAt rn' k = iAt rn k) (hx : x' = x) : ∀ k, k ≤ days.length → stAt l' m s days' rn' x' k = stAt l m s days rn x k
  | 0, _ => hx
  | k + 1, hk => by
    simp only [Proofs.Yteonkhohloabfaa.stAt]
    rw [h.stAt hd hr hx k (by omega), hr k (by omega), h.step (hd k (by omega))]
end
theorem knTo_cAt (l : List Cell) (lv : List Int) (i : Nat) : cAt (knTo l lv l.length) i = if i < l.length then oneC (cAt l i) (iAt lv i) else cAt l i := by
  by_cases h : i < l.length
  · rw [if_pos h, cAt_of (knTo_at l lv l.length i h h)]
  · rw [if_neg h]
    unfold cAt
    rw [knTo_far l lv l.length i (by omega)]
theorem knLike (l : List Cell) (lv : List Int) : Like (knTo l lv l.length) l := by
  refine ⟨knTo_len _ _ _, ?_, ?_, ?_, ?_, ?_⟩ <;> (intro i; rw [knTo_cAt]; split <;> rfl)
theorem mapAtK {α : Type} (p : α → Int) (l : List α) {i : Nat} {c : α} (h : l[i]? = some c) : iAt (l.map p) i = p c := by
  unfold iAt
  rw [List.getElem?_map, h]
  rfl
theorem iAt_far {l : List Int} {i : Nat} (h : l.length ≤ i) : iAt l i = 0 := by unfold iAt; rw [List.getElem?_eq_none h]; rfl
/-- With whatever soak: the days run as the truth runs. -/
theorem stL_kn {g : Gnd} {days : List Day} {snow : Int} {lv rn : List Int} (hlv : lv.length = g.cells.length) (soak : Int) {k : Nat} (hk : k ≤ days.length) : stL (knG g snow lv) (knD days rn) soak k = stR g days snow soak lv rn k := by
  unfold stL stR
  refine (knLike g.cells lv).stAt (fun j hj => ?_) (fun j hj => ?_) ?_ k hk
  · rw [dAt_of (knD_at days rn hj)]; rfl
  · rw [mapAtK _ _ (knD_at days rn hj)]; rfl
  · unfold stEnd
    have hfun : iAt ((knG g snow lv).cells.map fun c => endOf false c.lo c.hi) = iAt lv := by
      funext i
      by_cases h : i < g.cells.length
      · rw [mapAtK _ _ (show (knG g snow lv).cells[i]? = some (oneC (cAt g.cells i) (iAt lv i)) from knTo_at g.cells lv g.cells.length i h h)]
        rfl
      · rw [iAt_far (by rw [List.length_map]; show (knTo g.cells lv g.cells.length).length ≤ i; rw [knTo_len]; omega), iAt_far (by omega)]
    rw [hfun]
    rfl
theorem all_at {α : Type} {l : List α} {p : α → Bool} (h : ∀ (i : Nat) (c : α), l[i]? = some c → p c = true) : l.all p = true := by
  rw [List.all_eq_true]
  intro c hc
  obtain ⟨i, hi⟩ := List.mem_iff_getElem?.1 hc
  exact h i c hi
theorem all_get {α : Type} {l : List α} {p : α → Bool} (h : l.all p = true) {i : Nat} {c : α} (hc : l[i]? = some c) : p c = true := List.all_eq_true.1 h c (List.mem_of_getElem? hc)
theorem kn_fault {g : Gnd} {days : List Day} {snow soak : Int} {lv rn : List Int} (hf : faultN g days = 0) (hfit : fitsB g days snow soak lv rn = true) : faultN (knG g snow lv) (knD days rn) = 0 := by
  obtain ⟨hg, hm, hd⟩ := fault_zero hf
  simp only [fitsB, Bool.and_eq_true, decide_eq_true_eq] at hfit
  obtain ⟨⟨⟨⟨⟨f1, f2⟩, f3⟩, f4⟩, f5⟩, f6⟩ := hfit
  simp only [gndB, Bool.and_eq_true] at hg
  obtain ⟨⟨⟨⟨⟨g1, g2⟩, g3⟩, g4⟩, g5⟩, g6⟩ := hg
  have hlen : (knG g snow lv).cells.length = g.cells.length := knTo_len _ _ _
  have hG : gndB (knG g snow lv) = true := by
    simp only [gndB, Bool.and_eq_true, hlen]
    refine ⟨⟨⟨⟨⟨g1, ?_⟩, ?_⟩, g4⟩, g5⟩, ?_⟩
    · refine all_at fun i c hc => ?_
      have hi : i < g.cells.length := by rw [← hlen]; exact (List.getElem?_eq_some_iff.1 hc).1
      rw [show (knG g snow lv).cells[i]? = some (oneC (cAt g.cells i) (iAt lv i)) from knTo_at g.cells lv g.cells.length i hi hi] at hc
      injection hc with hc
      subst hc
      obtain ⟨c0, hc0⟩ := get_of_lt hi
      have h0 := all_get g2 hc0
      have h5 := goodB_at f5 i hi
      unfold lvB at h5
      rw [cAt_of hc0] at h5 ⊢
      simp only [cellB, inB, upB, Bool.and_eq_true, decide_eq_true_eq] at h0 h5 ⊢
      dsimp only [oneC]
      refine ⟨⟨⟨⟨⟨h0.1.1.1.1.1, ⟨?_, ?_⟩, ?_⟩, h0.1.1.1.2⟩, h0.1.1.2⟩, h0.1.2⟩, h0.2⟩ <;> omega
    · simp only [inB, upB, Bool.and_eq_true, decide_eq_true_eq] at f3 g3 ⊢
      dsimp only [knG]
      refine ⟨⟨?_, ?_⟩, ?_⟩ <;> omega
    · refine noSelf_true _ 0 fun j c hc => ?_
      have hi : j < g.cells.length := by rw [← hlen]; exact (List.getElem?_eq_some_iff.1 hc).1
      rw [show (knG g snow lv).cells[j]? = some (oneC (cAt g.cells j) (iAt lv j)) from knTo_at g.cells lv g.cells.length j hi hi] at hc
      injection hc with hc
      subst hc
      obtain ⟨c0, hc0⟩ := get_of_lt hi
      rw [cAt_of hc0]
      exact noSelf_spec _ 0 g6 j c0 hc0
  have hD : (knD days rn).all dayB = true := by
    refine all_at fun i c hc => ?_
    have hi : i < days.length := by have := (List.getElem?_eq_some_iff.1 hc).1; rw [knD_len] at this; exact this
    rw [knD_at days rn hi] at hc
    injection hc with hc
    subst hc
    obtain ⟨c0, hc0⟩ := get_of_lt hi
    have h0 := all_get hd hc0
    have h6 := goodB_at f6 i hi
    unfold rnB at h6
    rw [dAt_of hc0] at h6 ⊢
    simp only [dayB, inB, upB, Bool.and_eq_true, decide_eq_true_eq] at h0 h6 ⊢
    dsimp only [oneD]
    refine ⟨⟨⟨?_, ?_⟩, ?_⟩, h0.2⟩ <;> omega
  unfold faultN
  rw [if_pos hG, if_neg (by rw [knD_len]; omega), if_pos hD]
theorem kn_fits {g : Gnd} {days : List Day} {snow soak s : Int} {lv rn : List Int} (hfit : fitsB g days snow soak lv rn = true) (h0 : g.klo ≤ s) (h1 : s ≤ g.khi) : fitsB (knG g snow lv) (knD days rn) snow s lv rn = true := by
  have hlen : (knG g snow lv).cells.length = g.cells.length := knTo_len _ _ _
  simp only [fitsB, Bool.and_eq_true, decide_eq_true_eq] at hfit ⊢
  obtain ⟨⟨⟨⟨⟨f1, f2⟩, f3⟩, f4⟩, f5⟩, f6⟩ := hfit
  refine ⟨⟨⟨⟨⟨by rw [hlen]; exact f1, by rw [knD_len]; exact f2⟩, ?_⟩, ?_⟩, ?_⟩, ?_⟩
  · simp only [inB, Bool.and_eq_true, decide_eq_true_eq]; dsimp only [knG]; refine ⟨?_, ?_⟩ <;> omega
  · simp only [inB, Bool.and_eq_true, decide_eq_true_eq]; dsimp only [knG]; refine ⟨?_, ?_⟩ <;> omega
  · refine goodB_true fun i hi => ?_
    rw [hlen] at hi
    unfold lvB
    rw [cAt_of (show (knG g snow lv).cells[i]? = some (oneC (cAt g.cells i) (iAt lv i)) from knTo_at g.cells lv g.cells.length i hi hi)]
    simp only [inB, Bool.and_eq_true, decide_eq_true_eq]; dsimp only [oneC]; refine ⟨?_, ?_⟩ <;> omega
  · refine goodB_true fun i hi => ?_
    rw [knD_len] at hi
    unfold rnB
    rw [dAt_of (knD_at days rn hi)]
    simp only [inB, Bool.and_eq_true, decide_eq_true_eq]; dsimp only [oneD]; refine ⟨?_, ?_⟩ <;> omega
theorem kn_known (g : Gnd) (days : List Day) (snow : Int) (lv rn : List Int) : knownB (knG g snow lv) (knD days rn) = true := by
  have hlen : (knG g snow lv).cells.length = g.cells.length := knTo_len _ _ _
  simp only [knownB, Bool.and_eq_true]
  refine ⟨⟨by simp [knG], all_at fun i c hc => ?_⟩, all_at fun i c hc => ?_⟩
  · have hi : i < g.cells.length := by rw [← hlen]; exact (List.getElem?_eq_some_iff.1 hc).1
    rw [show (knG g snow lv).cells[i]? = some (oneC (cAt g.cells i) (iAt lv i)) from knTo_at g.cells lv g.cells.length i hi hi] at hc
    injection hc with hc
    subst hc
    simp [oneC]
  · have hi : i < days.length := by have := (List.getElem?_eq_some_iff.1 hc).1; rw [knD_len] at this; exact this
    rw [knD_at days rn hi] at hc
    injection hc with hc
    subst hc
    simp [oneD]
end Go.Proofs.Yteonkhohloabfaa

/- Plain laws of WaterTold: readings that a truth made. -/
namespace Go.Proofs.Yteonkhohloabfaa

/-- The reading that a word makes of a truth's levels (f: by day and cell) of n cells on m days. -/
def tolR (n m : Nat) (f : Nat → Nat → Int) (w : Int) : Rdg :=
  ⟨w % n, w / 8 % m, mxI 0 (f (w / 8 % m).toNat (w % n).toNat - w / 256 % 4), mnI 100000 (f (w / 8 % m).toNat (w % n).toNat + w / 1024 % 4)⟩
theorem tol_spot {n m : Nat} {w : Int} (hn : 1 ≤ n) (hm : 1 ≤ m) : (0 ≤ w % n ∧ w % (n : Int) < n) ∧ (0 ≤ w / 8 % (m : Int) ∧ w / 8 % (m : Int) < m) :=
  ⟨⟨Int.emod_nonneg _ (by omega), Int.emod_lt_of_pos _ (by omega)⟩, ⟨Int.emod_nonneg _ (by omega), Int.emod_lt_of_pos _ (by omega)⟩⟩
theorem tol_ok {n m : Nat} {f : Nat → Nat → Int} (hn : 1 ≤ n) (hm : 1 ≤ m) (hf : ∀ k i, k < m → i < n → 0 ≤ f k i ∧ f k i ≤ 100000) (w : Int) : rdgB n m (tolR n m f w) = true ∧ inB (f (w / 8 % m).toNat (w % n).toNat) (tolR n m f w).lo (tolR n m f w).hi = true := by
  obtain ⟨⟨c0, c1⟩, d0, d1⟩ := tol_spot (w := w) hn hm
  have hx := hf (w / 8 % m).toNat (w % n).toNat (by omega) (by omega)
  have a0 : 0 ≤ w / 256 % 4 := Int.emod_nonneg _ (by omega)
  have b0 : 0 ≤ w / 1024 % 4 := Int.emod_nonneg _ (by omega)
  have h1 := mxI_ge 0 (f (w / 8 % m).toNat (w % n).toNat - w / 256 % 4)
  have h2 := mnI_le 100000 (f (w / 8 % m).toNat (w % n).toNat + w / 1024 % 4)
  simp only [rdgB, inB, upB, Bool.and_eq_true, decide_eq_true_eq]
  dsimp only [tolR]
  refine ⟨⟨⟨⟨?_, ?_⟩, ?_, ?_⟩, ⟨?_, ?_⟩, ?_⟩, ?_, ?_⟩ <;> omega
/-- The levels of a truth lie between 0 and 100000. -/
theorem stR_bd {g : Gnd} {days : List Day} {sn so : Int} {lv rn : List Int} (hf : faultN g days = 0) (hfit : fitsB g days sn so lv rn = true) {k i : Nat} (hk : k ≤ days.length) (hi : i < g.cells.length) : 0 ≤ (stR g days sn so lv rn k).f i ∧ (stR g days sn so lv rn k).f i ≤ 100000 := by
  have ok := wayOk_tr hf hfit
  exact (stAt_ok ok k hk).lv i hi
/-- The levels of the truth with a soak. -/
def tolF (g : Gnd) (days : List Day) (sn so : Int) (lv rn : List Int) (k i : Nat) : Int := (stR g days sn so lv rn (k + 1)).f i
theorem lvL_kn {g : Gnd} {days : List Day} {sn : Int} {lv rn : List Int} (hlv : lv.length = g.cells.length) (s : Int) {c d : Int} (hd : d.toNat < days.length) : lvL (knG g sn lv) (knD days rn) s (c, d) = tolF g days sn s lv rn d.toNat c.toNat := by
  unfold lvL tolF
  rw [stL_kn hlv s (by omega)]
/-- Readings that the truth made agree with its soak; what Learn is asked is right. -/
theorem tol_says {g : Gnd} {days : List Day} {sn so : Int} {lv rn : List Int} (hf : faultN g days = 0) (hfit : fitsB g days sn so lv rn = true) (hm : 1 ≤ days.length) (ws : List Int) (h30 : ws.length ≤ 30) :
    lnErr (knG g sn lv) (knD days rn) (ws.map (tolR g.cells.length days.length (tolF g days sn so lv rn))) = 0 ∧ (ws.map (tolR g.cells.length days.length (tolF g days sn so lv rn))).all (agB (knG g sn lv) (knD days rn) so) = true := by
  have hn := (fault_cells hf).1
  have hlv := (fits_len hfit).1
  have hlen : (knG g sn lv).cells.length = g.cells.length := knTo_len _ _ _
  have hb : ∀ k i, k < days.length → i < g.cells.length → 0 ≤ tolF g days sn so lv rn k i ∧ tolF g days sn so lv rn k i ≤ 100000 := fun k i hk hi => stR_bd hf hfit (by omega) hi
  constructor
  · unfold lnErr
    rw [if_pos (kn_fault hf hfit), if_neg (by rw [List.length_map]; omega), if_pos, if_pos (kn_known g days sn lv rn)]
    rw [hlen, knD_len, List.all_eq_true]
    intro x hx
    obtain ⟨w, _, rfl⟩ := List.mem_map.1 hx
    exact (tol_ok hn hm hb w).1
  · rw [List.all_eq_true]
    intro x hx
    obtain ⟨w, _, rfl⟩ := List.mem_map.1 hx
    obtain ⟨⟨c0, c1⟩, d0, d1⟩ := tol_spot (w := w) hn hm
    unfold agB
    rw [lvL_kn hlv so (d := (tolR g.cells.length days.length (tolF g days sn so lv rn) w).day) (by show (w / 8 % (days.length : Int)).toNat < days.length; omega)]
    exact (tol_ok hn hm hb w).2
end Go.Proofs.Yteonkhohloabfaa

/- A region that draws its order, by words, with one store that a later operation need not wait for. -/
namespace Go.Proofs.Yteonkhohloabfaa
open Go.RowKit
variable {P : Program}

theorem region_late_any {l : List Oper} {n : Nat} {Q : Exit → Act → World → Prop} {a₀ : Act} {w : World} (hB : relB l n = true) (m : Nat) (hmn : m < n) (hmd : ∀ o, l[m]? = some o → o.dst = none)
    (G : World → Prop) (D : Bool → Nat → Value → World → Prop)
    (hDs : ∀ b j v W W', D b j v W → newer W W' → D b j v W')
    (hsz : ∀ i o d, i < n → l[i]? = some o → o.dst = some d → d < a₀.tmps.size)
    (hG : G w)
    (hstep : ∀ i o, i < n → i ≠ m → l[i]? = some o → ∀ b, ((∃ om, l[m]? = some om ∧ ∃ e ∈ om.after, Region.binds .any e = true ∧ e.on = i) → b = false) → ∀ a W, G W → Outer l n a₀ a →
      (∀ j oj d, j < n → l[j]? = some oj → oj.dst = some d → (∃ e ∈ o.after, Region.binds .any e = true ∧ e.on = j) → D b j (slotOf a d) W) →
      o.wp P a W (fun a' W' => ∃ v, a' = a.put o.dst v ∧ D b i v W' ∧ newer W W' ∧ G W') Q)
    (hlate : ∀ o, l[m]? = some o → ∀ a W, G W → Outer l n a₀ a →
      (∀ j oj d, j < n → l[j]? = some oj → oj.dst = some d → (∃ e ∈ o.after, Region.binds .any e = true ∧ e.on = j) → D false j (slotOf a d) W) →
      o.wp P a W (fun a' W' => a' = a ∧ G W' ∧ ∀ j oj d, j < n → l[j]? = some oj → oj.dst = some d → D false j (slotOf a d) W → D true j (slotOf a d) W') Q)
    (htail : ∀ a W, G W → Outer l n a₀ a → (∀ j oj d, j < n → l[j]? = some oj → oj.dst = some d → D true j (slotOf a d) W) → wpList P l.toArray Q (l.drop n) a W) :
    wpAny P .any l.toArray Q l.toArray.size (Array.replicate l.toArray.size false) a₀ w := by
  simp only [relB, Bool.and_eq_true, decide_eq_true_eq] at hB
  obtain ⟨⟨⟨⟨⟨hn, hs⟩, hc⟩, hback⟩, hdst⟩, hseq⟩ := hB
  have hback' : ∀ (i : Nat) (o : Oper), l[i]? = some o → (∀ e ∈ o.after, Region.binds .any e = true → e.on < i) ∧ o.guard = none := by
    intro i o ho
    have := List.all_eq_true.1 hback i (List.mem_range.2 (List.getElem?_eq_some_iff.1 ho).1)
    simp only [ho, Bool.and_eq_true, Array.all_eq_true_iff_forall_mem] at this
    exact ⟨fun e he hb => by simpa [hb] using this.1 e he, by simpa using this.2⟩
  have hdst' : ∀ (i j : Nat) (o o' : Oper) (d : Tmp), i < n → j < n → i ≠ j → l[i]? = some o → l[j]? = some o' → o.dst = some d → o'.dst ≠ some d := by
    intro i j o o' d hi hj hij ho ho' hd hd'
    have := List.all_eq_true.1 (List.all_eq_true.1 hdst i (List.mem_range.2 hi)) j (List.mem_range.2 hj)
    simp [hij, ho, ho', hd, hd'] at this
  have key : ∀ (f : Nat) (listed : Array Bool) (a : Act) (W : World), HeadInv .any l.toArray n listed → ((List.range n).filter fun i => !listed.getD i false).length = f →
      G W → Outer l n a₀ a → (∀ (j : Nat) (oj : Oper) (d : Tmp), j < n → l[j]? = some oj → listed.getD j false = true → oj.dst = some d → D (listed.getD m false) j (slotOf a d) W) →
      wpAny P .any l.toArray Q (f + (l.length - n)) listed a W := by
    intro f
    induction f with
    | zero =>
      intro listed a W inv hcnt hGW hO hD
      have hall : ∀ i, i < n → listed.getD i false = true := by
        intro i hi
        have := List.eq_nil_of_length_eq_zero hcnt
        have h2 := List.filter_eq_nil_iff.1 this i (List.mem_range.2 hi)
        simpa using h2
      have hcanon : listed = headDone n l.length := by
        apply Array.ext
        · rw [inv.size]; simp [headDone]
        · intro i h1 h2
          have hi : i < l.length := by simpa [headDone] using h2
          simp only [headDone, Array.getElem_ofFn]
          by_cases hin : i < n
          · have := hall i hin
            simp [h1] at this
            simp [this, hin]
          · have := inv.tail i (by omega) (by simpa using hi)
            simp [h1] at this
            simp [this, hin]
      rw [Nat.zero_add]
      have := wpAny_of_seq (md := .any) (Q' := Q) (P := P) (ops := l.toArray) (l.drop n) n listed a W (fun j => by simp [List.getElem?_drop]) (by rw [List.length_drop, hcanon]; exact hseq) (htail a W hGW hO (fun j oj d hj ho hd => by have := hD j oj d hj ho (hall j hj) hd; rw [hall m hmn] at this; exact this))
      rwa [List.length_drop] at this
    | succ f ih =>
      intro listed a W inv hcnt hGW hO hD
      -- some operation of the head has not come up
      have hex : ∃ i, i < n ∧ listed.getD i false = false ∧ ∀ j, j < i → listed.getD j false = true := by
        have hne : ((List.range n).filter fun i => !listed.getD i false) ≠ [] := by intro h; rw [h] at hcnt; cases hcnt
        have : ∃ i, i < n ∧ listed.getD i false = false := by
          obtain ⟨x, hx⟩ := List.exists_mem_of_ne_nil _ hne
          have hx' := List.mem_filter.1 hx
          exact ⟨x, List.mem_range.1 hx'.1, by simpa using hx'.2⟩
        obtain ⟨i, hi, hl⟩ := this
        have : ∀ k i, i ≤ k → i < n → listed.getD i false = false → ∃ i, i < n ∧ listed.getD i false = false ∧ ∀ j, j < i → listed.getD j false = true := by
          intro k
          induction k with
          | zero => intro i hik hi hl; exact ⟨i, hi, hl, fun j hj => by omega⟩
          | succ k ihk =>
            intro i hik hi hl
            by_cases h : ∃ j, j < i ∧ listed.getD j false = false
            · obtain ⟨j, hj, hjl⟩ := h
              exact ihk j (by omega) (by omega) hjl
            · refine ⟨i, hi, hl, fun j hj => ?_⟩
              cases hh : listed.getD j false with
              | true => rfl
              | false => exact absurd ⟨j, hj, hh⟩ h
        exact this i i (Nat.le_refl _) hi hl
      obtain ⟨i₀, hi₀, hun₀, hbelow⟩ := hex
      have hi₀s : i₀ < listed.size := by rw [inv.size]; simp; omega
      have hl₀ : listed.getD i₀ true = false := getD_in hi₀s hun₀
      have hready₀ : i₀ ∈ Region.ready .any l.toArray listed := by
        have ho : l[i₀]? = some l[i₀] := List.getElem?_eq_getElem (by omega)
        refine mem_ready.2 ⟨hl₀, l[i₀], by simp, fun e he hb => hbelow _ ((hback' i₀ _ ho).1 e he hb)⟩
      rw [show f + 1 + (l.length - n) = f + (l.length - n) + 1 by omega]
      refine ⟨fun h => (by rw [h] at hready₀; cases hready₀), fun i hi => ?_⟩
      have hin : i < n := by
        rcases Nat.lt_or_ge i n with h | h
        · exact h
        · exact absurd hi (tail_waits hs hc (by simpa using hn) inv _ i₀ rfl hi₀ hl₀ i h)
      obtain ⟨hiun, o, ho, hall⟩ := mem_ready.1 hi
      have ho' : l[i]? = some o := by simpa using ho
      unfold wpOp
      simp only [ho]
      have hw : Region.wanted o (yielded l.toArray a.tmps) = true := by simp [Region.wanted, (hback' i o ho').2]
      rw [if_pos hw]
      have hiun' : listed.getD i false = false := getD_both hiun
      have his : i < listed.size := by rw [inv.size]; simp; omega
      have hcount : ((List.range n).filter fun j => !(listed.setIfInBounds i true).getD j false).length = f := by
        have e1 : ((List.range n).filter fun j => !(listed.setIfInBounds i true).getD j false) = ((List.range n).filter fun j => !listed.getD j false).filter (fun j => decide (j ≠ i)) := by
          rw [List.filter_filter]
          apply List.filter_congr
          intro j _
          by_cases hji : j = i
          · subst hji; simp [his]
          · rw [getD_set_ne false (Ne.symm hji)]; simp [hji]
        rw [e1]
        have hnd : ((List.range n).filter fun j => !listed.getD j false).Nodup := List.nodup_range.filter _
        have hmem : i ∈ ((List.range n).filter fun j => !listed.getD j false) := List.mem_filter.2 ⟨List.mem_range.2 hin, by simp [hiun']⟩
        have := filter_ne_length i _ hnd hmem
        omega
      by_cases him : i = m
      · subst him
        rw [hiun'] at hD
        have hdn := hmd o ho'
        have hst := hlate o ho' a W hGW hO (fun j oj d hj hoj hd ⟨e, he, hb, hon⟩ => hD j oj d hj hoj (by rw [← hon]; exact hall e he hb) hd)
        refine .inl (Oper.wp_mono ?_ hst)
        rintro a' W' ⟨rfl, hGv, hkeep⟩
        refine ih _ _ _ (inv.set hi hin) hcount hGv hO ?_
        intro j oj d hj hoj hlj hd
        have hmt : (listed.setIfInBounds i true).getD i false = true := by simp [his]
        rw [hmt]
        by_cases hji : j = i
        · subst hji
          rw [hoj] at ho'
          injection ho' with ho'
          subst ho'
          rw [hdn] at hd
          cases hd
        · rw [getD_set_ne false (Ne.symm hji)] at hlj
          exact hkeep j oj d hj hoj hd (hD j oj d hj hoj hlj hd)
      · have hst := hstep i o hin him ho' (listed.getD m false) (fun hp => by
          cases hm : listed.getD m false with
          | false => rfl
          | true =>
            obtain ⟨om, hom, hin2⟩ := hp
            have := inv.closed m om (by simpa using hom) hm
            obtain ⟨e, he, hb, hon⟩ := hin2
            have h2 := this e he hb
            rw [hon, hiun'] at h2
            cases h2) a W hGW hO (fun j oj d hj hoj hd ⟨e, he, hb, hon⟩ => hD j oj d hj hoj (by rw [← hon]; exact hall e he hb) hd)
        refine .inl (Oper.wp_mono ?_ hst)
        rintro a' W' ⟨v, rfl, hDv, hRv, hGv⟩
        have hOut : Outer l n a₀ (a.put o.dst v) := by
          refine ⟨?_, ?_, fun t ht => ?_⟩
          · cases hd : o.dst <;> simp [Act.put, hO.defers]
          · cases hd : o.dst <;> simp [Act.put, hO.size]
          · cases hd : o.dst with
            | none => simpa [Act.put] using hO.same t ht
            | some d =>
              have hne : d ≠ t := fun h => ht i o hin ho' (by rw [hd, h])
              simp only [Act.put]
              rw [Array.getElem?_setIfInBounds_ne hne]
              exact hO.same t ht
        refine ih _ _ _ (inv.set hi hin) hcount hGv hOut ?_
        intro j oj d hj hoj hlj hd
        rw [getD_set_ne false him]
        by_cases hji : j = i
        · subst hji
          have : oj = o := Option.some.inj (hoj.symm.trans ho')
          subst this
          have hds : d < a.tmps.size := by rw [hO.size]; exact hsz j oj d hj hoj hd
          rw [hd, slot_put_same hds]
          exact hDv
        · rw [getD_set_ne false (Ne.symm hji)] at hlj
          have hold := hDs _ j _ W W' (hD j oj d hj hoj hlj hd) hRv
          cases hdo : o.dst with
          | none => simpa [Act.put] using hold
          | some d' =>
            have hne : d ≠ d' := fun h => hdst' j i oj o d hj hin hji hoj ho' hd (by rw [hdo, h])
            rw [slot_put_other hne]
            exact hold
  have inv0 : HeadInv .any l.toArray n (Array.replicate l.toArray.size false) :=
    ⟨by simp, fun j oj _ hl => (by rw [getD_replicate_false] at hl; cases hl), fun t _ ht => getD_in (by simpa using ht) (getD_replicate_false _ _)⟩
  have := key n _ a₀ w inv0 (by
    have : ((List.range n).filter fun i => !(Array.replicate l.toArray.size false).getD i false) = List.range n := List.filter_eq_self.2 (fun i _ => by rw [getD_replicate_false]; rfl)
    rw [this, List.length_range]) hG ⟨rfl, rfl, fun _ _ => rfl⟩ (fun j oj d _ _ hl => by rw [getD_replicate_false] at hl; cases hl)
  rw [show n + (l.length - n) = l.toArray.size by simp; omega] at this
  exact this

def predB (l : List Oper) (m i : Nat) : Bool := match l[m]? with
  | some o => o.after.toList.any fun e => Region.binds .any e && decide (e.on = i)
  | none => false
/-- One operation of the head; a store (number m) may have come or not. -/
def stepL (P : Program) (l : List Oper) (n m : Nat) (Q : Exit → Act → World → Prop) (a₀ : Act) (G : World → Prop) (D : Bool → Nat → Value → World → Prop) (i : Nat) (o : Oper) : Prop :=
  match Nat.beq i m with
  | true => ∀ a W, G W → Outer l n a₀ a → preds l (D false) a W o.after.toList → o.wp P a W (fun a' W' => a' = a ∧ G W' ∧ ∀ j oj d, j < n → l[j]? = some oj → oj.dst = some d → D false j (slotOf a d) W → D true j (slotOf a d) W') Q
  | false => match predB l m i with
    | true => ∀ a W, G W → Outer l n a₀ a → preds l (D false) a W o.after.toList → o.wp P a W (fun a' W' => ∃ v, a' = a.put o.dst v ∧ D false i v W' ∧ newer W W' ∧ G W') Q
    | false => ∀ b a W, G W → Outer l n a₀ a → preds l (D b) a W o.after.toList → o.wp P a W (fun a' W' => ∃ v, a' = a.put o.dst v ∧ D b i v W' ∧ newer W W' ∧ G W') Q
def stepsL (P : Program) (l : List Oper) (n m : Nat) (Q : Exit → Act → World → Prop) (a₀ : Act) (G : World → Prop) (D : Bool → Nat → Value → World → Prop) : Nat → List Oper → Prop
  | _, [] => True
  | i, o :: os => stepL P l n m Q a₀ G D i o ∧ stepsL P l n m Q a₀ G D (i + 1) os
theorem stepsL_get {l : List Oper} {n m : Nat} {Q : Exit → Act → World → Prop} {a₀ : Act} {G : World → Prop} {D : Bool → Nat → Value → World → Prop} : ∀ (os : List Oper) (k : Nat), stepsL P l n m Q a₀ G D k os → ∀ i o, os[i]? = some o → stepL P l n m Q a₀ G D (k + i) o
  | [], _, _, i, o, h => by simp at h
  | x :: os, k, hs, 0, o, h => by simp at h; subst h; exact hs.1
  | x :: os, k, hs, i + 1, o, h => by
    have := stepsL_get os (k + 1) hs.2 i o (by simpa using h)
    rw [show k + (i + 1) = k + 1 + i by omega]
    exact this
/-- As region_told; m is a store that some operations need not wait for: D false are the words ahead of it, D true behind it. -/
theorem region_late {l : List Oper} (n m : Nat) {Q : Exit → Act → World → Prop} {a₀ : Act} {w : World} (hB : relB l n = true) (hz : szOk a₀.tmps.size (l.take n) = true) (hmn : m < n) (hmd' : (match l[m]? with | some o => o.dst.isNone | none => true) = true)
    (G : World → Prop) (D : Bool → Nat → Value → World → Prop) (hDs : ∀ b j v W W', D b j v W → newer W W' → D b j v W')
    (hG : G w) (hstep : stepsL P l n m Q a₀ G D 0 (l.take n))
    (htail : ∀ W, G W → tailsOk (D true) W (fun a => wpList P l.toArray Q (l.drop n) a W) 0 (l.take n) a₀) :
    wpAny P .any l.toArray Q l.toArray.size (Array.replicate l.toArray.size false) a₀ w := by
  have htake : ∀ (i : Nat) (o : Oper), i < n → l[i]? = some o → (l.take n)[i]? = some o := fun i o hi ho => by rw [List.getElem?_take, if_pos hi]; exact ho
  have hback : ∀ (i : Nat) (o : Oper), i < n → l[i]? = some o → ∀ e ∈ o.after, Region.binds .any e = true → e.on < n := by
    have hB' := hB
    simp only [relB, Bool.and_eq_true, decide_eq_true_eq] at hB'
    obtain ⟨⟨⟨⟨⟨_, _⟩, _⟩, hback⟩, _⟩, _⟩ := hB'
    intro i o hi ho e he hbd
    have := List.all_eq_true.1 hback i (List.mem_range.2 (List.getElem?_eq_some_iff.1 ho).1)
    simp only [ho, Bool.and_eq_true, Array.all_eq_true_iff_forall_mem] at this
    have h2 : e.on < i := by simpa [hbd] using this.1 e he
    omega
  have hmd : ∀ o, l[m]? = some o → o.dst = none := fun o ho => by
    rw [ho] at hmd'
    simpa using hmd'
  refine region_late_any hB m hmn hmd G D hDs (fun i o d hi ho hd => sz_of _ hz i o d (htake i o hi ho) hd) hG ?_ ?_ ?_
  · intro i o hi him ho b hb a W hGW hO hp
    have h := stepsL_get _ _ hstep i o (htake i o hi ho)
    rw [Nat.zero_add] at h
    unfold stepL at h
    have hm : Nat.beq i m = false := by
      cases hq : Nat.beq i m with
      | false => rfl
      | true => exact absurd (Nat.eq_of_beq_eq_true hq) him
    rw [hm] at h
    cases hpb : predB l m i with
    | true =>
      rw [hpb] at h
      obtain rfl : b = false := hb (by
        unfold predB at hpb
        cases hom : l[m]? with
        | none => rw [hom] at hpb; cases hpb
        | some om =>
          rw [hom] at hpb
          obtain ⟨e, he, h2⟩ := List.any_eq_true.1 hpb
          rw [Bool.and_eq_true, decide_eq_true_eq] at h2
          exact ⟨om, rfl, e, by simpa using he, h2.1, h2.2⟩)
      exact h a W hGW hO (preds_of o (hback i o hi ho) hp)
    | false =>
      rw [hpb] at h
      exact h b a W hGW hO (preds_of o (hback i o hi ho) hp)
  · intro o ho a W hGW hO hp
    have h := stepsL_get _ _ hstep m o (htake m o hmn ho)
    rw [Nat.zero_add] at h
    unfold stepL at h
    have hm : Nat.beq m m = true := Nat.beq_refl m
    rw [hm] at h
    exact h a W hGW hO (preds_of o (hback m o hmn ho) hp)
  · intro a W hGW hO hd
    have hh : heads (D true) a W 0 (l.take n) := heads_of _ _ fun j oj d hj hdd => by
      rw [List.getElem?_take] at hj
      split at hj
      · rename_i hjn
        rw [Nat.zero_add]
        exact hd j oj d hjn hj hdd
      · cases hj
    have := tails_filled _ _ _ hh (htail W hGW)
    rwa [filled_eq hO] at this
/-- The words ahead of the store, and behind it. -/
def pickB (p q : List (Value → World → Prop)) (b : Bool) : Nat → Value → World → Prop := match b with
  | true => pickD q
  | false => pickD p
theorem pickB_stable {p q : List (Value → World → Prop)} (hp : allStable newer p) (hq : allStable newer q) : ∀ b i v W W', pickB p q b i v W → newer W W' → pickB p q b i v W'
  | true => pickD_stable q hq
  | false => pickD_stable p hp
end Go.Proofs.Yteonkhohloabfaa

/- What WaterTold calls: Run and Learn on the ground of which all is known but the soak. -/
namespace Go.Proofs.Yteonkhohloabfaa
open Go.RowKit

theorem stR_kn (g : Gnd) (days : List Day) (sn s : Int) (lv rn : List Int) {k : Nat} (hk : k ≤ days.length) : stR (knG g sn lv) (knD days rn) sn s lv rn k = stR g days sn s lv rn k := by
  unfold stR
  exact (knLike g.cells lv).stAt (fun j hj => by rw [dAt_of (knD_at days rn hj)]; rfl) (fun _ _ => rfl) rfl k hk
theorem vT1_congr {n N : Nat} {f f' : Nat → Nat → Int} (h : ∀ j, j < N → f j = f' j) : ∀ v W, vT1 n N f v W → vT1 n N f' v W := by
  rintro v W ⟨Q, cq, A, c, base, h1, h2, h3⟩
  exact ⟨Q, cq, A, c, base, h1, h2, fun j hj => by rw [← h j hj]; exact h3 j hj⟩
/-- What Run leaves on the known ground: the levels of the truth with its soak. -/
def vKn (g : Gnd) (days : List Day) (sn so : Int) (lv rn : List Int) (v : Value) (W : World) : Prop :=
  ∃ v1 v2 s, v = .tuple #[v1, v2, vi s, vi 0] ∧ vT1 g.cells.length days.length (tolF g days sn so lv rn) v1 W ∧ (∃ sl, vT2 days.length sl v2 W)
theorem vKn_st {g : Gnd} {days : List Day} {sn so : Int} {lv rn : List Int} : ∀ v W W', vKn g days sn so lv rn v W → newer W W' → vKn g days sn so lv rn v W' :=
  fun _ _ _ ⟨v1, v2, s, h1, h2, sl, h3⟩ hb => ⟨v1, v2, s, h1, vT1_st _ _ _ h2 hb, sl, vT2_st _ _ _ h3 hb⟩
def vT2a (n : Nat) (v : Value) (W : World) : Prop := ∃ sl, vT2 n sl v W
theorem vT2a_st {n : Nat} : ∀ v W W', vT2a n v W → newer W W' → vT2a n v W' := fun _ _ _ ⟨sl, h⟩ hb => ⟨sl, vT2_st _ _ _ h hb⟩
def vSome (v : Value) (_ : World) : Prop := ∃ s : Int, v = vi s
theorem vSome_st : ∀ v W W', vSome v W → newer W W' → vSome v W' := fun _ _ _ h _ => h
theorem kn_run {g : Gnd} {days : List Day} {sn so : Int} {lv rn : List Int} (hf : faultN g days = 0) (hfit : fitsB g days sn so lv rn = true) {kg : Gnd} {kd : List Day} (hkg : kg = knG g sn lv) (hkd : kd = knD days rn) (s : Int) (h0 : g.klo ≤ s) (h1 : s ≤ g.khi)
    (A : Option Addr) (ap : Nat) (D : Option Addr) (dp : Nat) (L : Option Addr) (lp : Nat) (R : Option Addr) (rp : Nat) (w : World)
    (hc : Row cellL 7 w w.heap.size A kg.cells) (hd : Row dayL 3 w w.heap.size D kd) (hL : Row intL 1 w w.heap.size L lv) (hR : Row intL 1 w w.heap.size R rn) :
    Calls Try.prog 32 #[gndV A ap kg, .slice D kd.length dp, truthV sn s L lv.length lp R rn.length rp] w fun e w' => (∃ v, e = .returned v ∧ vKn g days sn s lv rn v w') ∧ Below w.heap.size w w' := by
  subst hkg
  subst hkd
  have hn8 := (fault_cells hf).2
  have hm30 := (fault_zero hf).2.1
  have hlen : (knG g sn lv).cells.length = g.cells.length := knTo_len _ _ _
  have hdl := knD_len days rn
  have hll := fits_len hfit
  refine (run_yes _ A ap _ D dp sn s lv L lp rn R rp w (by omega) (by omega) (by omega) (by omega) hc hd hL hR (by unfold runN; rw [if_pos (kn_fault hf hfit), if_pos (kn_fits hfit h0 h1)])).mono ?_
  rintro e w' ⟨⟨v, rfl, v1, v2, rfl, hv1, hv2⟩, hb⟩
  rw [hlen, hdl] at hv1
  rw [hdl] at hv2
  refine ⟨⟨_, rfl, v1, v2, _, rfl, vT1_congr (fun j hj => ?_) _ _ hv1, _, hv2⟩, hb⟩
  rw [stR_kn g days sn s lv rn (by omega)]
  rfl
/-- A range of soaks that agree, and no others. -/
structure TolO (g : Gnd) (days : List Day) (l : List Rdg) (lo hi : Int) : Prop where
  h1 : g.klo ≤ lo
  h2 : lo ≤ hi
  h3 : hi ≤ g.khi
  says : ∀ s, g.klo ≤ s → s ≤ g.khi → l.all (agB g days s) = inB s lo hi
def vLn (g : Gnd) (days : List Day) (l : List Rdg) (v : Value) (_ : World) : Prop := ∃ lo hi, v = .tuple #[.agg #[vi lo, vi hi], vi 0] ∧ TolO g days l lo hi
theorem vLn_st {g : Gnd} {days : List Day} {l : List Rdg} : ∀ v W W', vLn g days l v W → newer W W' → vLn g days l v W' := fun _ _ _ h _ => h
theorem learn_told (g : Gnd) (A : Option Addr) (ap : Nat) (days : List Day) (D : Option Addr) (dp : Nat) (l : List Rdg) (R : Option Addr) (rp : Nat) (w : World)
    (hc : Row cellL 7 w w.heap.size A g.cells) (hd : Row dayL 3 w w.heap.size D days) (hr : Row rdgL 4 w w.heap.size R l) (h0 : lnErr g days l = 0) (so : Int) (hso : l.all (agB g days so) = true) (k0 : g.klo ≤ so) (k1 : so ≤ g.khi) :
    Calls Try.prog 42 #[gndV A ap g, .slice D days.length dp, .slice R l.length rp] w fun e w' => (∃ v, e = .returned v ∧ vLn g days l v w') ∧ newer w w' := by
  obtain ⟨hf, hlen, hall, hkn⟩ := lnErr_zero h0
  refine (learn_yes g A ap days D dp l R rp w hc hd hr h0).mono ?_
  rintro e w' ⟨⟨v, rfl, n, m, hn, hm, rfl⟩, hb⟩
  have hs : ∀ s, g.klo ≤ s → s ≤ g.khi → l.all (agB g days s) = inB s n (m - 1) := fun s h0 h1 => learn_says hf hall hn hm h0 h1
  have h2 := hs so k0 k1
  rw [hso] at h2
  have h3 := h2.symm
  simp only [inB, Bool.and_eq_true, decide_eq_true_eq] at h3
  have h4 := hm.le3
  rw [if_neg (by omega)]
  exact ⟨⟨_, rfl, n, m - 1, rfl, hn.le1, by omega, by omega, hs⟩, hb⟩
theorem TolO.holds {g : Gnd} {days : List Day} {l : List Rdg} {lo hi : Int} (h : TolO g days l lo hi) {s : Int} (k0 : g.klo ≤ s) (k1 : s ≤ g.khi) (hs : l.all (agB g days s) = true) : lo ≤ s ∧ s ≤ hi := by
  have h2 := h.says s k0 k1
  rw [hs] at h2
  have h3 := h2.symm
  simpa only [inB, Bool.and_eq_true, decide_eq_true_eq] using h3
/-- With fewer readings the range is not narrower. -/
theorem TolO.few {g : Gnd} {days : List Day} {x : Rdg} {l : List Rdg} {lo hi lo' hi' : Int} (h : TolO g days (x :: l) lo hi) (h' : TolO g days l lo' hi') : lo' ≤ lo ∧ hi ≤ hi' := by
  have k1 := h.h1
  have k2 := h.h2
  have k3 := h.h3
  have a1 := h.says lo k1 (by omega)
  have a2 := h.says hi (by omega) k3
  have b1 : inB lo lo hi = true := by simp only [inB, Bool.and_eq_true, decide_eq_true_eq]; omega
  have b2 : inB hi lo hi = true := by simp only [inB, Bool.and_eq_true, decide_eq_true_eq]; omega
  rw [b1, List.all_cons, Bool.and_eq_true] at a1
  rw [b2, List.all_cons, Bool.and_eq_true] at a2
  exact ⟨(h'.holds k1 (by omega) a1.2).1, (h'.holds (by omega) k3 a2.2).2⟩
/-- The tail of a row. -/
theorem row_tail {w : World} {B b off : Nat} {x : Rdg} {l : List Rdg} (h : Row rdgL 4 w B (some ⟨b, off, none⟩) (x :: l)) : Row rdgL 4 w B (some ⟨b, off + 4, none⟩) l := by
  intro _
  obtain ⟨b', off', e, hb, hc⟩ := h (by simp)
  injection e with e
  injection e with e1 e2
  subst e1
  subst e2
  refine ⟨b, off + 4, rfl, hb, fun k y hk j v hv => ?_⟩
  have := hc (k + 1) y (by simpa using hk) j v hv
  rw [show off + 4 + k * 4 + j = off + (k + 1) * 4 + j by omega]
  exact this
theorem lnErr_tail {g : Gnd} {days : List Day} {x : Rdg} {l : List Rdg} (h : lnErr g days (x :: l) = 0) : lnErr g days l = 0 := by
  obtain ⟨hf, hlen, hall, hkn⟩ := lnErr_zero h
  rw [List.all_cons, Bool.and_eq_true] at hall
  rw [List.length_cons] at hlen
  unfold lnErr
  rw [if_pos hf, if_neg (by omega), if_pos hall.2, if_pos hkn]
/-- Does a level agree with the readings so far? -/
def tolB (n m : Nat) (f f' : Nat → Nat → Int) (ws : List Int) (k : Nat) : Bool := (ws.take k).all fun w => inB (f' (w / 8 % m).toNat (w % n).toNat) (tolR n m f w).lo (tolR n m f w).hi
theorem tolB_next {n m : Nat} {f f' : Nat → Nat → Int} {ws : List Int} {k : Nat} {w : Int} (h : ws[k]? = some w) : tolB n m f f' ws (k + 1) = (tolB n m f f' ws k && inB (f' (w / 8 % m).toNat (w % n).toNat) (tolR n m f w).lo (tolR n m f w).hi) := by
  unfold tolB
  rw [List.take_add_one, h]
  simp
theorem tolB_all {g : Gnd} {days : List Day} {sn so : Int} {lv rn : List Int} (hf : faultN g days = 0) (hlv : lv.length = g.cells.length) (hm : 1 ≤ days.length) (ws : List Int) (s : Int) :
    tolB g.cells.length days.length (tolF g days sn so lv rn) (tolF g days sn s lv rn) ws ws.length = (ws.map (tolR g.cells.length days.length (tolF g days sn so lv rn))).all (agB (knG g sn lv) (knD days rn) s) := by
  have hn := (fault_cells hf).1
  unfold tolB
  rw [List.take_length, List.all_map]
  refine List.all_congr rfl fun w => ?_
  obtain ⟨⟨c0, c1⟩, d0, d1⟩ := tol_spot (w := w) hn hm
  show _ = agB _ _ _ (tolR _ _ _ w)
  unfold agB
  rw [lvL_kn hlv s (d := (tolR g.cells.length days.length (tolF g days sn so lv rn) w).day) (by show (w / 8 % (days.length : Int)).toNat < days.length; omega)]
  rfl
theorem row_word {w : World} {B : Nat} {A : Option Addr} {l : List Word} (h : Row wordL 1 w B A l) {k : Nat} {c : Word} (hk : l[k]? = some c) : ∃ b off, A = some ⟨b, off, none⟩ ∧ b < B ∧ w.cell? ⟨b, off + k, none⟩ = some (.int .u16 c.n) := by
  obtain ⟨b, off, e, hb, hc⟩ := h (ne_nil_of_get hk)
  exact ⟨b, off, e, hb, by simpa using hc k c hk 0 _ rfl⟩
theorem ready_zeroH {g : Gnd} {days : List Day} (h : readyB g days = true) : g.cells.length ≤ 10 ∧ days.length ≤ 35 ∧ faultN g days = 0 := by
  simp only [readyB, thinB, Bool.and_eq_true, decide_eq_true_eq, beq_iff_eq] at h
  omega
/-- A truth's box. -/
structure TbH (tb : Nat) (sn so : Int) (lv : List Int) (L : Option Addr) (lp : Nat) (rn : List Int) (R : Option Addr) (rp : Nat) (W : World) : Prop where
  tb : Whole W tb 47 (truC sn so L lv.length lp R rn.length rp)
  hl : Row intL 1 W W.heap.size L lv
  hr : Row intL 1 W W.heap.size R rn
theorem TbH.next {tb : Nat} {sn so : Int} {lv : List Int} {L : Option Addr} {lp : Nat} {rn : List Int} {R : Option Addr} {rp : Nat} {W W' : World} (h : TbH tb sn so lv L lp rn R rp W) (hb : newer W W') : TbH tb sn so lv L lp rn R rp W' :=
  ⟨h.tb.below hb h.tb.lt, (h.hl.below hb).more hb.size, (h.hr.below hb).more hb.size⟩
/-- A ground's box. -/
structure GwH (kb : Nat) (g : Gnd) (A : Option Addr) (cp : Nat) (W : World) : Prop where
  gb : Whole W kb 26 (gndC A cp g)
  hc : Row cellL 7 W W.heap.size A g.cells
theorem GwH.next {kb : Nat} {g : Gnd} {A : Option Addr} {cp : Nat} {W W' : World} (h : GwH kb g A cp W) (hb : newer W W') : GwH kb g A cp W' := ⟨h.gb.below hb h.gb.lt, (h.hc.below hb).more hb.size⟩
/-- What WaterTold carries: ground and days, the truth, the known ground and the known days. -/
structure TlW (w : World) (g : Gnd) (A : Option Addr) (cp : Nat) (days : List Day) (D : Option Addr) (tb : Nat) (sn so : Int) (lv : List Int) (L : Option Addr) (lp : Nat) (rn : List Int) (R : Option Addr) (rp : Nat) (kb : Nat) (kg : Gnd) (K : Option Addr) (kc : Nat) (kd : List Day) (E : Option Addr) (W : World) : Prop where
  lw : Lh w g A cp days D W
  tt : TbH tb sn so lv L lp rn R rp W
  kk : GwH kb kg K kc W
  kd : Row dayL 3 W W.heap.size E kd
section
variable {w : World} {g : Gnd} {A : Option Addr} {cp : Nat} {days : List Day} {D : Option Addr} {tb : Nat} {sn so : Int} {lv : List Int} {L : Option Addr} {lp : Nat} {rn : List Int} {R : Option Addr} {rp : Nat} {kb : Nat} {kg : Gnd} {K : Option Addr} {kc : Nat} {kd : List Day} {E : Option Addr} {W W' : World}
theorem TlW.next (h : TlW w g A cp days D tb sn so lv L lp rn R rp kb kg K kc kd E W) (hb : newer W W') : TlW w g A cp days D tb sn so lv L lp rn R rp kb kg K kc kd E W' :=
  ⟨h.lw.next hb, h.tt.next hb, h.kk.next hb, (h.kd.below hb).more hb.size⟩
end
/-- A range's box, the levels, and the readings. -/
structure TlR (n m : Nat) (f : Nat → Nat → Int) (Q : Option Addr) (cq : Nat) (xb : Nat) (lo hi : Int) (rl : List Rdg) (R0 : Option Addr) (W : World) : Prop where
  lv : vT1 n m f (.slice Q m cq) W
  rb : Whole W xb 36 #[vi lo, vi hi]
  rd : Row rdgL 4 W W.heap.size R0 rl
theorem TlR.next {n m : Nat} {f : Nat → Nat → Int} {Q : Option Addr} {cq : Nat} {xb : Nat} {lo hi : Int} {rl : List Rdg} {R0 : Option Addr} {W W' : World} (h : TlR n m f Q cq xb lo hi rl R0 W) (hb : newer W W') : TlR n m f Q cq xb lo hi rl R0 W' :=
  ⟨vT1_st _ _ _ h.lv hb, h.rb.below hb h.rb.lt, (h.rd.below hb).more hb.size⟩
/-- Four numbers stored in a box. -/
abbrev putH (W : World) (tb : Nat) (v0 v1 v2 v3 : Value) : World := (((W.setCell ⟨tb, 0, none⟩ v0).setCell ⟨tb, 1, none⟩ v1).setCell ⟨tb, 2, none⟩ v2).setCell ⟨tb, 3, none⟩ v3
theorem putH_whole {W : World} {tb : Nat} {t : TypeId} {c0 c1 c2 c3 : Value} (h : Whole W tb t #[c0, c1, c2, c3]) (v0 v1 v2 v3 : Value) : Whole (putH W tb v0 v1 v2 v3) tb t #[v0, v1, v2, v3] :=
  (((h.set 0 v0).set 1 v1).set 2 v2).set 3 v3
theorem putH_below {B : Nat} {w W : World} {tb : Nat} (h : Below B w W) (hB : B ≤ tb) (v0 v1 v2 v3 : Value) : Below B w (putH W tb v0 v1 v2 v3) :=
  (((h.setCell (p := ⟨tb, 0, none⟩) hB _).setCell (p := ⟨tb, 1, none⟩) hB _).setCell (p := ⟨tb, 2, none⟩) hB _).setCell (p := ⟨tb, 3, none⟩) hB _
theorem putH_own {W : World} {tb base : Nat} {e : TypeId} {size n : Nat} {v : Value} {xs : List Value} (h : W.ownsRow base e size v n xs) (hne : v.ownBlock ≠ some tb) (v0 v1 v2 v3 : Value) : (putH W tb v0 v1 v2 v3).ownsRow base e size v n xs :=
  own_set (own_set (own_set (own_set h hne _) hne _) hne _) hne _
/-- What a word says, in the machine's own words. -/
theorem tol_word {n m : Nat} (hn : 1 ≤ n) (hm : 1 ≤ m) {x : Int} (h0 : 0 ≤ x) (h1 : x ≤ 65535) : ∃ (cn dn : Nat) (q8 q2 q10 a b : Int), x.tmod n = cn ∧ x.tdiv 8 = q8 ∧ q8.tmod m = dn ∧ x.tdiv 256 = q2 ∧ q2.tmod 4 = a ∧ x.tdiv 1024 = q10 ∧ q10.tmod 4 = b ∧
    cn < n ∧ dn < m ∧ (0 ≤ q8 ∧ q8 ≤ 65535) ∧ (0 ≤ q2 ∧ q2 ≤ 65535) ∧ (0 ≤ q10 ∧ q10 ≤ 65535) ∧ (0 ≤ a ∧ a < 4) ∧ (0 ≤ b ∧ b < 4) ∧
    (x / 8 % m).toNat = dn ∧ (x % n).toNat = cn ∧ ∀ f, tolR n m f x = ⟨cn, dn, mxI 0 (f dn cn - a), mnI 100000 (f dn cn + b)⟩ := by
  have e1 : x.tmod n = x % n := Int.tmod_eq_emod_of_nonneg h0
  have e2 : x.tdiv 8 = x / 8 := Int.tdiv_eq_ediv_of_nonneg h0
  have e3 : x.tdiv 256 = x / 256 := Int.tdiv_eq_ediv_of_nonneg h0
  have e4 : x.tdiv 1024 = x / 1024 := Int.tdiv_eq_ediv_of_nonneg h0
  have e5 : (x / 8).tmod m = x / 8 % m := Int.tmod_eq_emod_of_nonneg (by omega)
  have e6 : (x / 256).tmod 4 = x / 256 % 4 := Int.tmod_eq_emod_of_nonneg (by omega)
  have e7 : (x / 1024).tmod 4 = x / 1024 % 4 := Int.tmod_eq_emod_of_nonneg (by omega)
  obtain ⟨⟨c0, c1⟩, d0, d1⟩ := tol_spot (w := x) hn hm
  refine ⟨(x % n).toNat, (x / 8 % m).toNat, x / 8, x / 256, x / 1024, x / 256 % 4, x / 1024 % 4, by rw [e1]; omega, e2, by rw [e5]; omega, e3, e6, e4, e7, by omega, by omega, by omega, by omega, by omega, by omega, by omega, rfl, rfl, fun f => ?_⟩
  unfold tolR
  rw [show (((x % n).toNat : Nat) : Int) = x % n by omega, show (((x / 8 % m).toNat : Nat) : Int) = x / 8 % m by omega]
def vLa (g : Gnd) (days : List Day) (l : List Rdg) (v : Value) (_ : World) : Prop := ∃ lo hi, v = .agg #[vi lo, vi hi] ∧ TolO g days l lo hi
theorem vLa_st {g : Gnd} {days : List Day} {l : List Rdg} : ∀ v W W', vLa g days l v W → newer W W' → vLa g days l v W' := fun _ _ _ h _ => h
/-- A row of one's own has room. -/
theorem own_room {w : World} {base : Nat} {e : TypeId} {size n cap : Nat} {a : Option Addr} {xs : List Value} (h : w.ownsRow base e size (.slice a n cap) n xs) : n ≤ cap ∧ cap ≤ maxLen := by
  rcases h.2 with ⟨e1, e2⟩ | ⟨g', cap', cur, e1, _, _, h1, h2, _⟩
  · injection e1 with _ e3 e4
    subst e3
    subst e4
    exact ⟨Nat.le_refl _, by unfold maxLen; omega⟩
  · injection e1 with _ _ e4
    subst e4
    exact ⟨h1, h2⟩
/-- A range's box, made and filled. -/
def vSto (B : Nat) (g : Gnd) (days : List Day) (l : List Rdg) (v : Value) (W : World) : Prop := ∃ fb, v = .pointer (some ⟨fb, 0, none⟩) ∧ B ≤ fb ∧ ∃ lo hi, Whole W fb 36 #[vi lo, vi hi] ∧ TolO g days l lo hi
theorem vSto_st {B : Nat} {g : Gnd} {days : List Day} {l : List Rdg} : ∀ v W W', vSto B g days l v W → newer W W' → vSto B g days l v W' := fun _ _ _ ⟨fb, h1, h2, lo, hi, h3, h4⟩ hb => ⟨fb, h1, h2, lo, hi, h3.below hb h3.lt, h4⟩
theorem wp_stores {P : Program} {o : Oper} {a : Act} {W W' : World} {K : Act → World → Prop} {Q : Exit → Act → World → Prop} (h : (execOp a.eval o).run P W = .ok .skip W') (hk : K (a.put o.dst undef) W') : o.wp P a W K Q := by
  unfold Oper.wp
  rw [h]
  exact hk
end Go.Proofs.Yteonkhohloabfaa

