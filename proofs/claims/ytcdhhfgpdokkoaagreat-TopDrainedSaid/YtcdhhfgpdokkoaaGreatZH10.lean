/- TopDrained returns true: the least pump that keeps a cell below the margins water keeps the slope, in each truth. -/
import Derived.Test.YtcdhhfgpdokkoaaGreatZH06
import Derived.Test.YtcdhhfgpdokkoaaGreatZH09
namespace Go.Proofs.YtcdhhfgpdokkoaaGreat
section
open Go.RowKit Go.Shelf Go.Deep
def setBd (r : Rg) (b : Bd) : Bd := { b with wa := r }
def setS (s : Sd) (r : Rg) : Sd := { s with cols := s.cols.map fun l => l.map (setBd r) }
theorem set_n (s : Sd) (r : Rg) : (setS s r).n = s.n := by
 unfold Sd.n setS
 cases s.cols <;> simp
theorem set_bd {r : Rg} {b : Bd} (hr : 0 <= r.lo /\ r.lo <= r.hi /\ r.hi <= 100000) (h : bdB b = true) : bdB (setBd r b) = true := by
 unfold bdB at h ⊢
 rw [Bool.and_eq_true] at h ⊢
 refine ⟨h.1, ?_⟩
 show (decide (0 <= r.lo) && decide (r.lo <= r.hi) && decide (r.hi <= 100000)) = true
 simp only [Bool.and_eq_true, decide_eq_true_eq]
 omega
theorem set_ok {s : Sd} {r : Rg} (hr : 0 <= r.lo /\ r.lo <= r.hi /\ r.hi <= 100000) (h : SdOk s) : SdOk (setS s r) where
 cols := by have := h.cols; simpa [setS] using this
 beds := by rw [set_n]; exact h.beds
 least := h.least
 len l hl := by
  obtain ⟨x, hx, rfl⟩ := List.mem_map.1 hl
  rw [set_n, List.length_map]
  exact h.len x hx
 bd l hl b hb := by
  obtain ⟨x, hx, rfl⟩ := List.mem_map.1 hl
  obtain ⟨y, hy, rfl⟩ := List.mem_map.1 hb
  exact set_bd hr (h.bd x hx y hy)
theorem set_drive {s : Sd} {r : Rg} : dAt (setS s r) = dAt s := by
 funext k b
 unfold dAt setS
 rw [bedAt_map]
 cases bedAt s.cols k b <;> rfl
theorem set_set (s : Sd) (r r' : Rg) : setS (setS s r) r' = setS s r' := by
 unfold setS
 rw [List.map_map]
 congr 1
 refine List.map_congr_left fun l _ => ?_
 show (l.map (setBd r)).map (setBd r') = l.map (setBd r')
 rw [List.map_map]
 rfl
theorem worst_set {s : Sd} (r : Rg) : worstS (setS s r) = worstR (hAt false (setS s r)) (dAt s) s.n s.cols.length s.K := by
 unfold worstS
 rw [set_drive, set_n]
 have e1 : (setS s r).cols.length = s.cols.length := by simp [setS]
 rw [e1]
 rfl
theorem set_hold {s : Sd} (h : SdOk s) {r : Rg} {m v : Int} (hv : v <= mnI 100000 (r.hi + m)) (k b : Nat) : hAt false (wetS (setS s r) m) k b <= hAt false (setS s ⟨v, v⟩) k b := by
 unfold hAt wetS setS
 rw [bedAt_map, bedAt_map, bedAt_map]
 cases hx : bedAt s.cols k b with
 | none => exact Int.le_refl _
 | some x =>
  obtain ⟨l, hl, _, _, hb⟩ := bedAt_mem hx
  obtain ⟨_, _, h3, _⟩ := bdB_parts (h.bd l hl x hb)
  show holdsN (wetBd m (setBd r x)) (endR false (wetBd m (setBd r x))) <= holdsN (setBd ⟨v, v⟩ x) (endR false (setBd ⟨v, v⟩ x))
  exact holds_le rfl (by simp [endR, wetBd, setBd]; omega) (by simp [endR, wetBd, setBd]) (by simp [endR, wetBd, setBd]) (by simp only [endR, wetBd, setBd, Bool.false_eq_true, if_false]; exact hv)
theorem set_below {s : Sd} (hs : SdOk s) {r : Rg} (hr : 0 <= r.lo /\ r.lo <= r.hi /\ r.hi <= 100000) {m : Nat} {v : Int} (v0 : 0 <= v) (v1 : v <= 100000) (hv : v <= mnI 100000 (r.hi + m)) {f : Int}
  (hm : wE (wetS (setS s r) m) = 0 -> f <= wV (wetS (setS s r) m)) (he : wE (setS s ⟨v, v⟩) = 0) : f <= wV (setS s ⟨v, v⟩) := by
 have ok := hd_ok (set_ok (r := ⟨v, v⟩) ⟨v0, Int.le_refl _, v1⟩ hs) false
 have ok' := hd_ok (wet_ok (m := (m : Int)) (by omega) (set_ok hr hs)) false
 rw [set_drive, set_n, show (setS s ⟨v, v⟩).cols.length = s.cols.length by simp [setS]] at ok
 rw [wet_drive, set_drive, wet_n, set_n, show (wetS (setS s r) m).cols.length = s.cols.length by simp [wetS, setS]] at ok'
 rcases worst_of _ (worst_set (s := s) ⟨v, v⟩) with ⟨_, h2, _⟩ | ⟨u, x, h1, _, h3⟩
 ·omega
 ·obtain ⟨u', x', h4, h5⟩ := worst_weak ok ok' (fun k b => set_hold hs hv k b) (fun _ _ => Int.le_refl _) h1
  have hw : worstS (wetS (setS s r) m) = some (u', x') := by
   rw [worst_wet, set_drive, set_n, show (setS s r).cols.length = s.cols.length by simp [setS]]
   exact h4
  rcases worst_of _ hw with ⟨h6, _, _⟩ | ⟨u2, x2, h6, h7, h8⟩
  ·cases h6
  ·simp only [Option.some.injEq, Prod.mk.injEq] at h6
   have := hm h7
   omega
structure SetTo (r : Rg) (s t : Sd) (i j : Nat) : Prop where
 ls : t.least = s.least
 ln : t.cols.length = s.cols.length
 cl : ∀ k, (t.cols.getD k []).length = (s.cols.getD k []).length
 at_ : ∀ k b, bedAt t.cols k b = if k < i ∨ k = i /\ b < j then (bedAt s.cols k b).map (setBd r) else bedAt s.cols k b
theorem SetTo.zero (r : Rg) (s : Sd) : SetTo r s s 0 0 := ⟨rfl, rfl, fun _ => rfl, fun k b => by rw [if_neg (by omega)]⟩
theorem bedAt_len {cols : List (List Bd)} {k b : Nat} : (bedAt cols k b).isSome = true ↔ b < (cols.getD k []).length := by
 unfold bedAt
 rw [List.getD_eq_getElem?_getD]
 cases cols[k]? with
 | none => simp
 | some l => simp
theorem SetTo.step {r : Rg} {s t : Sd} {i j : Nat} {b : Bd} (h : SetTo r s t i j) (hb : bedAt t.cols i j = some b) : SetTo r s (chS t i j (setBd r b)) i (j + 1) where
 ls := h.ls
 ln := by unfold chS; rw [List.length_set]; exact h.ln
 cl k := by
  rw [<- h.cl k]
  unfold chS
  dsimp only
  rw [List.getD_eq_getElem?_getD, List.getD_eq_getElem?_getD, List.getElem?_set]
  by_cases e : i = k
  ·subst e
   rw [if_pos rfl]
   by_cases h1 : i < t.cols.length
   ·rw [if_pos h1]
    simp [List.getD_eq_getElem?_getD]
   ·rw [if_neg h1, List.getD_eq_getElem?_getD, List.getElem?_eq_none (l := t.cols) (i := i) (by omega)]
  ·rw [if_neg e, List.getD_eq_getElem?_getD]
 at_ k q := by
  rw [chS_at, h.at_]
  by_cases e : k = i /\ q = j
  ·obtain ⟨rfl, rfl⟩ := e
   have h1 := h.at_ k q
   rw [if_neg (by omega), hb] at h1
   rw [if_pos ⟨rfl, rfl⟩, if_neg (by omega), if_pos (by omega), <- h1]
   rfl
  ·rw [if_neg e]
   by_cases h2 : k < i ∨ k = i /\ q < j
   ·rw [if_pos h2, if_pos (by omega)]
   ·rw [if_neg h2, if_neg (by omega)]
theorem SetTo.row {r : Rg} {s t : Sd} {i j : Nat} (h : SetTo r s t i j) (hj : (s.cols.getD i []).length <= j) : SetTo r s t (i + 1) 0 := ⟨h.ls, h.ln, h.cl, fun k b => by
 rw [h.at_]
 by_cases h1 : k < i ∨ k = i /\ b < j
 ·rw [if_pos h1, if_pos (by omega)]
 ·rw [if_neg h1]
  by_cases h2 : k = i
  ·subst h2
   have h3 : bedAt s.cols k b = none := by
    cases e : bedAt s.cols k b with
    | none => rfl
    | some x =>
     have := bedAt_len.1 (show (bedAt s.cols k b).isSome = true by rw [e]; rfl)
     omega
   rw [h3]
   split <;> rfl
  ·rw [if_neg (by omega)]⟩
theorem cols_ext {a b : List (List Bd)} (hl : a.length = b.length) (h2 : ∀ k i, bedAt a k i = bedAt b k i) : a = b := by
 refine List.ext_getElem hl fun k hk hk2 => ?_
 refine List.ext_getElem? fun i => ?_
 have h := h2 k i
 unfold bedAt at h
 rw [List.getElem?_eq_getElem hk, List.getElem?_eq_getElem hk2] at h
 exact h
theorem SetTo.all {r : Rg} {s t : Sd} {i : Nat} (h : SetTo r s t i 0) (hi : s.cols.length <= i) : t = setS s r := by
 obtain ⟨cols, least⟩ := t
 have h1 := h.ls
 dsimp only at h1
 subst h1
 unfold setS
 congr 1
 refine cols_ext (by rw [List.length_map]; exact h.ln) fun k b => ?_
 ·rw [bedAt_map, h.at_]
  by_cases h2 : k < i ∨ k = i /\ b < 0
  ·rw [if_pos h2]
  ·rw [if_neg h2]
   have h3 : bedAt s.cols k b = none := by
    unfold bedAt
    rw [List.getElem?_eq_none (by omega)]
   rw [h3]
   rfl
theorem set_thin {s : Sd} {r : Rg} : thinS (setS s r) = thinS s := by
 unfold thinS setS
 simp [List.all_map, Function.comp_def]
end

section
open Go.RowKit Go.Shelf Go.Deep
def drG : Gnd := ⟨[⟨9, 9, 10, 0, 0, -1, 0⟩], 0, 0, 0, 0, 0⟩
def drD : List Day := [⟨0, 0, 0⟩]
def drS : Sd := ⟨[[⟨100, 300, ⟨500, 500⟩, ⟨0, 0⟩, ⟨0, 0⟩⟩]], 1⟩
theorem dr_fault : faultN drG drD = 0 := by decide +kernel
theorem dr_keeps : keepsB drG drD 0 4 5 = true /\ keepsB drG drD 0 4 4 = false := by decide +kernel
theorem dr_least {n : Int} (h : Halved (keepsB drG drD 0 4) 0 100000 n (n - 1)) : n = 5 := by
 obtain ⟨h0, h1, h2, h3⟩ := least_says dr_fault (show 0 < drG.cells.length by decide) h
 have k5 := dr_keeps.1
 have k4 := dr_keeps.2
 have up : ∀ q : Int, 5 <= q -> q <= 100000 -> keepsB drG drD 0 4 q = true := fun q a b => by
  cases e : keepsB drG drD 0 4 q with
  | true => rfl
  | false =>
   rw [keeps_less dr_fault (show 0 < drG.cells.length by decide) (by omega) a b e] at k5
   cases k5
 by_cases hb : 100000 < n
 ·have := h3 hb
  rw [up 100000 (by omega) (by omega)] at this
  cases this
 ·by_cases h5 : n <= 4
  ·have := keeps_less dr_fault (show 0 < drG.cells.length by decide) h0 h5 (by omega) k4
   rw [h1 (by omega)] at this
   cases this
  ·by_cases h6 : n = 5
   ·exact h6
   ·have := h2 (by omega) (by omega)
    rw [up (n - 1) (by omega) (by omega)] at this
    cases this
theorem dr_margin : enoughN drS 1000 = 0 /\ wV (wetS drS (100 : Nat)) = 1000 /\ wV (wetS drS (101 : Nat)) = 990 /\ wE (wetS drS (101 : Nat)) = 0 /\ wE drS = 0 /\ wV drS = 1500 /\ slopeB drS = true := by decide +kernel
theorem dr_says : marginOut drS 1000 = .tuple #[vi 100, vi 0] := by
 have hs : SdOk drS := sdOk_iff.1 dr_margin.2.2.2.2.2.2
 obtain ⟨_, h100, h101, e101, e0, v0, _⟩ := dr_margin
 obtain ⟨m, q, h1, h2⟩ := margin_says hs (f := 1000) (by omega) (by omega)
 rcases h2 with ⟨_, _, h⟩ | ⟨rfl, _, h3, h4⟩
 ·omega
 ·have hm : m = 100 := by
   by_cases ha : m <= 99
   ·have := (h4 (by omega)).2
    have := (wet_less hs (m := m + 1) (m' := 100) (by omega)).2
    omega
   ·by_cases hb : m = 100
    ·exact hb
    ·have h5 := wet_less hs (m := 101) (m' := m) (by omega)
     have := h3 (by omega)
     omega
  rw [h1, hm]
  rfl
set_option maxRecDepth 100000 in
set_option maxHeartbeats 4000000 in
theorem drains_any (w : World) : Calls Tryz.prog 8 #[] w fun e w' => e = .returned (.bool true) /\ newer w w' := by
 have H1 : Hid (newer w ((w.alloc (.cells #[vi 9, vi 9, vi 10, vi 0, vi 0, vi (-1), vi 0] 86)).alloc (.cells #[vi 0, vi 0, vi 0] 88)) /\ Row cellL 7 ((w.alloc (.cells #[vi 9, vi 9, vi 10, vi 0, vi 0, vi (-1), vi 0] 86)).alloc (.cells #[vi 0, vi 0, vi 0] 88)) ((w.alloc (.cells #[vi 9, vi 9, vi 10, vi 0, vi 0, vi (-1), vi 0] 86)).alloc (.cells #[vi 0, vi 0, vi 0] 88)).heap.size (some ⟨w.heap.size, 0, none⟩) drG.cells /\ Row dayL 3 ((w.alloc (.cells #[vi 9, vi 9, vi 10, vi 0, vi 0, vi (-1), vi 0] 86)).alloc (.cells #[vi 0, vi 0, vi 0] 88)) ((w.alloc (.cells #[vi 9, vi 9, vi 10, vi 0, vi 0, vi (-1), vi 0] 86)).alloc (.cells #[vi 0, vi 0, vi 0] 88)).heap.size (some ⟨w.heap.size + 1, 0, none⟩) drD) := Lib.hid (by
  have a0 := (Whole.made w 86 #[vi 9, vi 9, vi 10, vi 0, vi 0, vi (-1), vi 0]).alloc (.cells #[vi 0, vi 0, vi 0] 88)
  have a1 := Whole.made (w.alloc (.cells #[vi 9, vi 9, vi 10, vi 0, vi 0, vi (-1), vi 0] 86)) 88 #[vi 0, vi 0, vi 0]
  simp only [World.size_alloc] at a1
  exact ⟨newer_trans (newer_allocH _ _) (newer_allocH _ _), row_of_whole (enc := cellL) (s := 7) (fun _ => rfl) a0 rfl, row_of_whole (enc := dayL) (s := 3) (fun _ => rfl) a1 rfl⟩)
 have HLS := Lib.hid (least_yes drG (some ⟨w.heap.size, 0, none⟩) 1 drD (some ⟨w.heap.size + 1, 0, none⟩) 1 0 4 _ (by decide) (by decide) H1.out.2.1 H1.out.2.2 (by decide +kernel))
 go_enter Tryz.func8, Tryz.ntmps8
 go_wp2_with fail
 refine (HLS.out).mono ?_
 rintro e w2 ⟨⟨n, hh, rfl⟩, hb⟩
 obtain rfl := dr_least hh
 have HN := Lib.hid (newer_trans H1.out.1 hb)
 clear hb hh HLS H1
 have H2 : Hid (newer w ((w2.alloc (.cells #[vi 100, vi 300, vi 500, vi 500, vi 0, vi 0, vi 0, vi 0] 91)).alloc (.cells #[.slice (some ⟨w2.heap.size, 0, none⟩) 1 1] 92)) /\ SmOk ⟨[⟨[⟨100, 300, ⟨500, 500⟩, ⟨0, 0⟩, ⟨0, 0⟩⟩], some ⟨w2.heap.size, 0, none⟩, 1⟩], some ⟨w2.heap.size + 1, 0, none⟩, 1, 1⟩ ((w2.alloc (.cells #[vi 100, vi 300, vi 500, vi 500, vi 0, vi 0, vi 0, vi 0] 91)).alloc (.cells #[.slice (some ⟨w2.heap.size, 0, none⟩) 1 1] 92))) := Lib.hid (by
  have a0 := (Whole.made w2 91 #[vi 100, vi 300, vi 500, vi 500, vi 0, vi 0, vi 0, vi 0]).alloc (.cells #[.slice (some ⟨w2.heap.size, 0, none⟩) 1 1] 92)
  have a1 := Whole.made (w2.alloc (.cells #[vi 100, vi 300, vi 500, vi 500, vi 0, vi 0, vi 0, vi 0] 91)) 92 #[.slice (some ⟨w2.heap.size, 0, none⟩) 1 1]
  simp only [World.size_alloc] at a1
  refine ⟨newer_trans HN.out (newer_trans (newer_allocH _ _) (newer_allocH _ _)), row_of_whole (enc := clL) (s := 1) (fun _ => rfl) a1 rfl, fun x hx => ?_⟩
  rw [List.mem_singleton.1 hx]
  exact row_of_whole (enc := bdL) (s := 8) (fun _ => rfl) a0 rfl)
 have HM := Lib.hid (margin_any _ 1000 _ H2.out.2 ⟨by simp, fun x hx => by rw [List.mem_singleton.1 hx]; simp⟩)
 rw [show Sm.sd ⟨[⟨[⟨100, 300, ⟨500, 500⟩, ⟨0, 0⟩, ⟨0, 0⟩⟩], some ⟨w2.heap.size, 0, none⟩, 1⟩], some ⟨w2.heap.size + 1, 0, none⟩, 1, 1⟩ = drS from rfl, dr_says] at HM
 rw [if_neg (by decide)]
 go_wp2_with fail
 refine (HM.out).mono ?_
 rintro e w3 ⟨rfl, hb⟩
 have HF := Lib.hid (newer_trans H2.out.1 hb)
 clear hb HM H2
 go_wp2_with fail
 go_ret
 exact ⟨rfl, HF.out⟩
end

section
open Go.RowKit
def vLvT (n N kk : Nat) (level : Int) (v : Value) (W : World) : Prop := ∃ f : Nat -> Nat -> Int, vT1W n N f v W /\ ∀ k, k < N -> 0 <= f k kk /\ f k kk <= level
theorem vLvT_st {n N kk : Nat} {level : Int} : ∀ v W W', vLvT n N kk level v W -> newer W W' -> vLvT n N kk level v W' := fun _ _ _ ⟨f, h1, h2⟩ hb => ⟨f, vT1_stW _ _ _ h1 hb, h2⟩
def vSnT (v : Value) (_ : World) : Prop := ∃ s : Int, v = vi s
theorem vSnT_st : ∀ v W W', vSnT v W -> newer W W' -> vSnT v W' := fun _ _ _ h _ => h
def vRunT (n N kk : Nat) (level : Int) (v : Value) (W : World) : Prop := ∃ v1 v2 v3, v = .tuple #[v1, v2, v3, vi 0] /\ vLvT n N kk level v1 W /\ (∃ sl, vT2 N sl v2 W) /\ vSnT v3 W
theorem vRunT_st {n N kk : Nat} {level : Int} : ∀ v W W', vRunT n N kk level v W -> newer W W' -> vRunT n N kk level v W' := fun _ _ _ ⟨a, b, c, h1, h2, ⟨sl, h3⟩, h4⟩ hb => ⟨a, b, c, h1, vLvT_st _ _ _ h2 hb, ⟨sl, vT2_st _ _ _ h3 hb⟩, h4⟩
theorem vRunT_of {g : Gnd} {days : List Day} {snow soak : Int} {lv rn : List Int} {kk : Nat} {level : Int} {v : Value} {W : World} (hf : faultN g days = 0) (hfit : fitsB g days snow soak lv rn = true) (hk : kk < g.cells.length) (hkp : ∀ k, k < days.length -> (stE true g days (k + 1)).f kk <= level) (h : vRun g days snow soak lv rn v W) : vRunT g.cells.length days.length kk level v W := by
 obtain ⟨v1, v2, rfl, h1, h2⟩ := h
 refine ⟨v1, v2, _, rfl, ⟨_, h1, fun k hk2 => ⟨?_, ?_⟩⟩, ⟨_, h2⟩, _, rfl⟩
 ·exact ((stAt_ok (wayOk_tr hf hfit) (k + 1) (by omega)).lv kk hk).1
 ·exact Int.le_trans ((stR_hi hf hfit (by omega)).1 kk hk) (hkp k hk2)
def vTrZ (g : Gnd) (days : List Day) (v : Value) (W : World) : Prop := ∃ sn so lv rn, vTr sn so lv rn v W /\ fitsB g days sn so lv rn = true
theorem vTrZ_st {g : Gnd} {days : List Day} : ∀ v W W', vTrZ g days v W -> newer W W' -> vTrZ g days v W' := fun _ _ _ ⟨a, b, c, d, h1, h2⟩ hb => ⟨a, b, c, d, vTr_st _ _ _ h1 hb, h2⟩
def vLz (n : Nat) (v : Value) (W : World) : Prop := ∃ sl, vT2 n sl v W
theorem vLz_st {n : Nat} : ∀ v W W', vLz n v W -> newer W W' -> vLz n v W' := fun _ _ _ ⟨sl, h⟩ hb => ⟨sl, vT2_st _ _ _ h hb⟩
theorem least_one {g : Gnd} {days : List Day} (hf : faultN g days = 0) {cell : Nat} (hc : cell < g.cells.length) (level : Int) :
  ∃ n e : Int, (∀ n' : Int, Halved (keepsB g days cell level) 0 100000 n' (n' - 1) -> (if 100000 < n' then #[vi 0, vi 9] else #[vi n', vi 0] : Array Value) = #[vi n, vi e]) /\ (e = 9 ∨ e = 0 /\ 0 <= n /\ n <= 100000 /\ keepsB g days cell level n = true) := by
 by_cases hx : ∃ n' : Int, Halved (keepsB g days cell level) 0 100000 n' (n' - 1)
 ·obtain ⟨n, hn⟩ := hx
  obtain ⟨a0, a1, a2, a3⟩ := least_says hf hc hn
  by_cases hb : 100000 < n
  ·refine ⟨0, 9, fun n' h' => ?_, .inl rfl⟩
   obtain ⟨b0, b1, b2, b3⟩ := least_says hf hc h'
   by_cases hb' : 100000 < n'
   ·rw [if_pos hb']
   ·have h1 := keeps_less hf hc b0 (show n' <= 100000 by omega) (Int.le_refl _) (a3 hb)
    rw [b1 (by omega)] at h1
    cases h1
  ·refine ⟨n, 0, fun n' h' => ?_, .inr ⟨rfl, a0, by omega, a1 (by omega)⟩⟩
   obtain ⟨b0, b1, b2, b3⟩ := least_says hf hc h'
   by_cases hb' : 100000 < n'
   ·have h1 := keeps_less hf hc a0 (show n <= 100000 by omega) (Int.le_refl _) (b3 hb')
    rw [a1 (by omega)] at h1
    cases h1
   ·rw [if_neg hb']
    have e : n' = n := by
     by_cases h1 : n' < n
     ·have h2 := keeps_less hf hc b0 (show n' <= n - 1 by omega) (by omega) (a2 (by omega) (by omega))
      rw [b1 (by omega)] at h2
      cases h2
     ·by_cases h3 : n < n'
      ·have h2 := keeps_less hf hc a0 (show n <= n' - 1 by omega) (by omega) (b2 (by omega) (by omega))
       rw [a1 (by omega)] at h2
       cases h2
      ·omega
    rw [e]
 ·exact ⟨0, 9, fun n' h' => absurd ⟨n', h'⟩ hx, .inl rfl⟩
end

section
open Go.RowKit Go.Shelf Go.Deep
theorem kY {P : Program} {o : Oper} {a : Act} {W : World} {D : Value -> World -> Prop} {G : World -> Prop} {Q : Exit -> Act -> World -> Prop} {v : Value} (hG : G W) (hD : D v W) (h : (execOp a.eval o).run P W = .ok (.value v) W) : o.wp P a W (fun a' W' => ∃ v', a' = a.put o.dst v' /\ D v' W' /\ newer W W' /\ G W') Q := wp_yields h ⟨v, rfl, hD, Below.refl _ _, hG⟩
theorem kM {P : Program} {o : Oper} {a : Act} {W : World} {D : Value -> World -> Prop} {G : World -> Prop} {Q : Exit -> Act -> World -> Prop} {v : Value} (t : Tmp) (ho : o.op = .move (.tmp t)) (h : slotOf a t = v) (hD : D v W) (hG : G W) : o.wp P a W (fun a' W' => ∃ v', a' = a.put o.dst v' /\ D v' W' /\ newer W W' /\ G W') Q := by
 refine wp_yields (v := v) ?_ ⟨v, rfl, hD, Below.refl _ _, hG⟩
 unfold execOp
 rw [ho]
 simp only [slotOf] at h
 simp [go_sem, h]
abbrev putS (s : Sm) (kc : Nat) (x : Cl) (kb : Nat) (b' : Bd) : Sm := ⟨s.cs.set kc ⟨x.beds.set kb b', x.a, x.cp⟩, s.a, s.c, s.least⟩
theorem SmOwn.put1 {B : Nat} {s : Sm} {W : World} (h : SmOwn B s W) {kc kb i g : Nat} {x : Cl} {b b' : Bd} {v : Value} (hx : s.cs[kc]? = some x) (hg : x.a = some ⟨g, 0, none⟩) (hb : x.beds[kb]? = some b) (hi : i < 8) (he : bdL b' = (bdL b).set i v) :
  SmOwn B (putS s kc x kb b') (W.setCell ⟨g, kb * 8 + i, none⟩ v) := by
 obtain ⟨g0, h1, h2⟩ := h.col x (List.mem_of_getElem? hx)
 rw [hg] at h1
 injection h1 with h1
 injection h1 with h1
 subst h1
 obtain ⟨cs', hcs⟩ := own_cells h2
 have hk := (List.getElem?_eq_some_iff.1 hx).1
 have hcl : (s.cs.set kc ⟨x.beds.set kb b', x.a, x.cp⟩).flatMap clL = s.cs.flatMap clL := by
  rw [List.flatMap_def, List.flatMap_def, List.map_set]
  congr 1
  have e : clL ⟨x.beds.set kb b', x.a, x.cp⟩ = clL x := by simp [clL]
  rw [e]
  refine List.ext_getElem? fun q => ?_
  rw [List.getElem?_set]
  by_cases hq : kc = q
  ·subst hq
   rw [if_pos rfl, List.length_map, if_pos hk, List.getElem?_map, hx]
   rfl
  ·rw [if_neg hq]
 refine ⟨?_, fun z hz => ?_, fun p q y z hp hq hpq => ?_⟩
 ·show (W.setCell ⟨g, kb * 8 + i, none⟩ v).ownsRow B 41 1 (.slice s.a (s.cs.set kc ⟨x.beds.set kb b', x.a, x.cp⟩).length s.c) (s.cs.set kc ⟨x.beds.set kb b', x.a, x.cp⟩).length ((s.cs.set kc ⟨x.beds.set kb b', x.a, x.cp⟩).flatMap clL)
  rw [hcl, List.length_set]
  exact own_set h.own (own_ne h.own hcs (by decide)) v
 ·obtain ⟨q, hq⟩ := List.mem_iff_getElem?.1 hz
  rw [List.getElem?_set] at hq
  by_cases hkq : kc = q
  ·subst hkq
   rw [if_pos rfl, if_pos hk] at hq
   injection hq with hq
   subst hq
   refine ⟨g, hg, ?_⟩
   have h6 := own_setAt (off := kb * 8 + i) (u := v) h2
   rw [flat_setB _ _ _ _ _ _ hb hi he] at h6
   show (W.setCell ⟨g, kb * 8 + i, none⟩ v).ownsRow B 40 8 (.slice (some ⟨g, 0, none⟩) (x.beds.set kb b').length x.cp) (x.beds.set kb b').length ((x.beds.set kb b').flatMap bdL)
   rw [List.length_set]
   exact h6
  ·rw [if_neg hkq] at hq
   obtain ⟨g', h8, h9⟩ := h.col z (List.mem_of_getElem? hq)
   have hne : g' ≠ g := fun e => h.ap q kc z x hq hx (Ne.symm hkq) (by rw [h8, hg, e])
   exact ⟨g', h8, own_set h9 (by show some g' ≠ some g; exact fun e => hne (Option.some.inj e)) v⟩
 ·have key : ∀ (n : Nat) (u : Cl), (putS s kc x kb b').cs[n]? = some u -> ∃ u', s.cs[n]? = some u' /\ u'.a = u.a := fun n u hn => by
   dsimp only [putS] at hn
   rw [List.getElem?_set] at hn
   by_cases e : kc = n
   ·subst e
    rw [if_pos rfl, if_pos hk] at hn
    injection hn with hn
    exact ⟨x, hx, by rw [<- hn]⟩
   ·rw [if_neg e] at hn
    exact ⟨u, hn, rfl⟩
  obtain ⟨y', hy, ey⟩ := key p y hp
  obtain ⟨z', hz, ez⟩ := key q z hq
  rw [<- ey, <- ez]
  exact h.ap p q y' z' hy hz hpq
theorem SmOwn.putW {B : Nat} {s : Sm} {W : World} (h : SmOwn B s W) {kc kb g : Nat} {x : Cl} {b : Bd} (r : Rg) (hx : s.cs[kc]? = some x) (hg : x.a = some ⟨g, 0, none⟩) (hb : x.beds[kb]? = some b) :
  SmOwn B (putS s kc x kb (setBd r b)) ((W.setCell ⟨g, kb * 8 + 6, none⟩ (vi r.lo)).setCell ⟨g, kb * 8 + 7, none⟩ (vi r.hi)) /\ (putS s kc x kb (setBd r b)).sd = chS s.sd kc kb (setBd r b) /\ B <= g := by
 obtain ⟨g0, h1, h2⟩ := h.col x (List.mem_of_getElem? hx)
 rw [hg] at h1
 injection h1 with h1
 injection h1 with h1
 subst h1
 have hk := (List.getElem?_eq_some_iff.1 hx).1
 have hkb := (List.getElem?_eq_some_iff.1 hb).1
 have h3 := h.put1 (i := 6) (b' := setBd ⟨r.lo, b.wa.hi⟩ b) (v := vi r.lo) hx hg hb (by omega) rfl
 have h4 := h3.put1 (kc := kc) (kb := kb) (i := 7) (g := g) (x := ⟨x.beds.set kb (setBd ⟨r.lo, b.wa.hi⟩ b), x.a, x.cp⟩) (b := setBd ⟨r.lo, b.wa.hi⟩ b) (b' := setBd r b) (v := vi r.hi) (by dsimp only [putS]; rw [List.getElem?_set, if_pos rfl, if_pos hk]) hg (by dsimp only; rw [List.getElem?_set, if_pos rfl, if_pos hkb]) (by omega) rfl
 refine ⟨?_, ?_, own_ge h2 g rfl⟩
 ·dsimp only [putS] at h4 ⊢
  rw [List.set_set, List.set_set] at h4
  exact h4
 ·unfold chS Sm.sd
  dsimp only
  have e : (s.cs.map fun x => x.beds).getD kc [] = x.beds := by simp [List.getD, hx]
  rw [List.map_set, e]
structure EvJ (w : World) (B xb : Nat) (s0 : Sd) (r : Rg) (t : Sm) (i j : Nat) (W : World) : Prop where
 nw : newer w W
 own : SmOwn B t W
 bx : Whole W xb 24 (smC t)
 stt : SetTo r s0 t.sd i j
 lo : w.heap.size <= B
theorem EvJ.next {w : World} {B xb : Nat} {s0 : Sd} {r : Rg} {t : Sm} {i j : Nat} {W W' : World} (h : EvJ w B xb s0 r t i j W) (hb : newer W W') : EvJ w B xb s0 r t i j W' := ⟨newer_trans h.nw hb, h.own.next hb, h.bx.below hb h.bx.lt, h.stt, h.lo⟩
theorem EvJ.put {w : World} {B xb : Nat} {s0 : Sd} {r : Rg} {t : Sm} {i j g : Nat} {x : Cl} {b : Bd} {W : World} (h : EvJ w B xb s0 r t i j W) (hx : t.cs[i]? = some x) (hg : x.a = some ⟨g, 0, none⟩) (hb : x.beds[j]? = some b) :
  EvJ w B xb s0 r (putS t i x j (setBd r b)) i (j + 1) ((W.setCell ⟨g, j * 8 + 6, none⟩ (vi r.lo)).setCell ⟨g, j * 8 + 7, none⟩ (vi r.hi)) := by
 obtain ⟨h1, h2, h3⟩ := h.own.putW r hx hg hb
 obtain ⟨g0, e1, h5⟩ := h.own.col x (List.mem_of_getElem? hx)
 rw [hg] at e1
 injection e1 with e1
 injection e1 with e1
 subst e1
 obtain ⟨cs', hcs⟩ := own_cells h5
 have hlo := Nat.le_trans h.lo h3
 have hne : xb ≠ g := h.bx.ne hcs (by decide)
 refine ⟨(h.nw.setCell (p := ⟨g, j * 8 + 6, none⟩) hlo _).setCell (p := ⟨g, j * 8 + 7, none⟩) hlo _, h1, ?_, ?_, h.lo⟩
 ·have e : smC (putS t i x j (setBd r b)) = smC t := by simp only [smC, List.length_set]
  rw [e]
  exact (h.bx.far (p := ⟨g, j * 8 + 6, none⟩) hne _).far (p := ⟨g, j * 8 + 7, none⟩) hne _
 ·rw [h2]
  refine h.stt.step ?_
  unfold bedAt Sm.sd
  dsimp only
  rw [List.getElem?_map, hx]
  exact hb
theorem EvJ.parts {w : World} {B xb : Nat} {s0 : Sd} {r : Rg} {t : Sm} {i j : Nat} {W : World} (h : EvJ w B xb s0 r t i j W) : t.cs.length = s0.cols.length := by rw [<- sd_len]; exact h.stt.ln
theorem EvJ.col {w : World} {B xb : Nat} {s0 : Sd} {r : Rg} {t : Sm} {i j : Nat} {W : World} (h : EvJ w B xb s0 r t i j W) (hs : SdOk s0) {k : Nat} (hk : k < s0.cols.length) : ∃ x, t.cs[k]? = some x /\ x.beds.length = s0.n := by
 have h1 := h.stt.cl k
 have hk2 : k < t.cs.length := by rw [h.parts]; exact hk
 refine ⟨t.cs[k], List.getElem?_eq_getElem hk2, ?_⟩
 have h2 := hs.len _ (List.getElem_mem hk)
 rw [List.getD_eq_getElem?_getD, List.getD_eq_getElem?_getD, List.getElem?_eq_getElem hk] at h1
 unfold Sm.sd at h1
 dsimp only at h1
 rw [List.getElem?_map, List.getElem?_eq_getElem hk2] at h1
 simp only [Option.map_some, Option.getD_some] at h1
 omega
theorem EvJ.row {w : World} {B xb : Nat} {s0 : Sd} {r : Rg} {t : Sm} {i j : Nat} {W : World} (h : EvJ w B xb s0 r t i j W) (hs : SdOk s0) (hi : i < s0.cols.length) (hj : s0.n <= j) : EvJ w B xb s0 r t (i + 1) 0 W := ⟨h.nw, h.own, h.bx, h.stt.row (by
 rw [List.getD_eq_getElem?_getD, List.getElem?_eq_getElem hi]
 have := hs.len _ (List.getElem_mem hi)
 simp only [Option.getD_some]
 omega), h.lo⟩
theorem SmOwn.apart {B : Nat} {s : Sm} {W : World} (h : SmOwn B s W) {k : Nat} {x : Cl} (hx : s.cs[k]? = some x) :
  ∃ tb g, s.a = some ⟨tb, 0, none⟩ /\ x.a = some ⟨g, 0, none⟩ /\ W.cell? ⟨tb, k, none⟩ = some (.slice (some ⟨g, 0, none⟩) x.beds.length x.cp) := by
 obtain ⟨g, hg, _⟩ := h.col x (List.mem_of_getElem? hx)
 obtain ⟨b, off, e, _, hc⟩ := rowC h.ok.cs hx
 have h0 := h.own
 rcases h0.2 with ⟨_, h1⟩ | ⟨q, cap, cs, e2, _⟩
 ·have := (List.getElem?_eq_some_iff.1 hx).1
  omega
 ·injection e2 with e2 _ _
  rw [e2] at e
  injection e with e
  injection e with e3 e4
  subst e3
  subst e4
  rw [Nat.zero_add, hg] at hc
  exact ⟨q, g, e2, hg, hc⟩
end

section
open Go.RowKit Go.Shelf Go.Deep
set_option maxRecDepth 100000 in
set_option maxHeartbeats 8000000 in
theorem topDrained_walk (s : Sm) (g : Gnd) (A : Option Addr) (cp : Nat) (days : List Day) (D : Option Addr) (dp : Nat) (cell fac : Nat) (ws : List Word) (V : Option Addr) (vp : Nat) (hs : List Hlf) (HA : Option Addr) (hc : Nat) (bs : List Byt) (BA : Option Addr) (bc : Nat) (w : World)
  (hok : SmOk s w) (hgr : Row cellL 7 w w.heap.size A g.cells) (hdr : Row dayL 3 w w.heap.size D days) (hcell : cell <= 255) (hfac : fac <= 65535) (hwl : ws.length <= maxLen) (hvr : Row wordL 1 w w.heap.size V ws) (hhr : Row hwL 1 w w.heap.size HA hs) (hbr : Row byL 1 w w.heap.size BA bs) :
  Calls Tryz.prog 3 #[smV s, gndV A cp g, .slice D days.length dp, .int .u8 (cell : Int), .int .u16 (fac : Int), .slice V ws.length vp, .slice HA hs.length hc, .slice BA bs.length bc] w fun e w' => e = .returned (.bool true) /\ newer w w' := by
 have hn1 := newer_trans (newer_allocH w (.cells (smC s) 24)) (newer_allocH (w.alloc (.cells (smC s) 24)) (.cells (gndC A cp g) 29))
 have hb1 := (Whole.made w 24 (smC s)).alloc (.cells (gndC A cp g) 29)
 have hb2 := Whole.made (w.alloc (.cells (smC s) 24)) 29 (gndC A cp g)
 simp only [World.size_alloc] at hb2
 have HOK := Lib.hid hok
 have HGR := Lib.hid (And.intro hgr hdr)
 have HRW := Lib.hid (And.intro hvr (And.intro hhr hbr))
 have HWL := Lib.hid hwl
 have HTH := Lib.hid (lawThin s _ (hok.next hn1))
 have H1 := Lib.hid (And.intro hn1 (And.intro hb1 hb2))
 clear hn1 hb1 hb2 hok hgr hdr hvr hhr hbr hwl
 have x0 := H1.out.2.1.at 0 (v := .slice s.a s.cs.length s.c) rfl
 have x1 := H1.out.2.1.at 1 (v := vi s.least) rfl
 have g0 := H1.out.2.2.at 0 (v := .slice A g.cells.length cp) rfl
 have g1 := H1.out.2.2.at 1 (v := vi g.slo) rfl
 have g2 := H1.out.2.2.at 2 (v := vi g.shi) rfl
 have g3 := H1.out.2.2.at 3 (v := vi g.klo) rfl
 have g4 := H1.out.2.2.at 4 (v := vi g.khi) rfl
 have g5 := H1.out.2.2.at 5 (v := vi g.melt) rfl
 cases hth : thinS s.sd with
 | false =>
  rw [hth] at HTH
  clear hth
  go_enter Tryz.func3, Tryz.ntmps3
  go_wp2_with fail
  refine (HTH.out).mono ?_
  rintro e w2 ⟨rfl, hb⟩
  have H2 := Lib.hid (newer_trans H1.out.1 hb)
  clear hb H1 HTH x0 x1 g0 g1 g2 g3 g4 g5
  go_wp2_with fail
  refine (drains_any _).mono ?_
  rintro e wk ⟨rfl, hb⟩
  have HK := Lib.hid (newer_trans (H2.out) hb)
  clear hb
  go_wp2_with fail
  go_ret
  exact ⟨rfl, HK.out⟩
 | true =>
  rw [hth] at HTH
  have few := (thinS_few hth).1
  have HFW := Lib.hid few
  have HRG := fun V hV => right_any s V (HOK.out.next hV) HFW.out
  have HTS := Lib.hid hth
  have HRG0 := Lib.hid HRG
  clear hth few HRG
  go_enter Tryz.func3, Tryz.ntmps3
  go_wp2_with fail
  refine (HTH.out).mono ?_
  rintro e w2 ⟨rfl, hb⟩
  have H2 := Lib.hid (And.intro (newer_trans H1.out.1 hb) (And.intro (H1.out.2.1.below hb H1.out.2.1.lt) (H1.out.2.2.below hb H1.out.2.2.lt)))
  clear hb H1 HTH x0 x1 g0 g1 g2 g3 g4 g5
  have x0 := H2.out.2.1.at 0 (v := .slice s.a s.cs.length s.c) rfl
  have x1 := H2.out.2.1.at 1 (v := vi s.least) rfl
  have g0 := H2.out.2.2.at 0 (v := .slice A g.cells.length cp) rfl
  have g1 := H2.out.2.2.at 1 (v := vi g.slo) rfl
  have g2 := H2.out.2.2.at 2 (v := vi g.shi) rfl
  have g3 := H2.out.2.2.at 3 (v := vi g.klo) rfl
  have g4 := H2.out.2.2.at 4 (v := vi g.khi) rfl
  have g5 := H2.out.2.2.at 5 (v := vi g.melt) rfl
  have HRG := Lib.hid (HRG0.out w2 H2.out.1)
  clear HRG0
  cases hri : slopeB s.sd with
  | false =>
   rw [hri] at HRG
   clear hri
   go_wp2_with fail
   refine (HRG.out).mono ?_
   rintro e w3 ⟨rfl, hb⟩
   have H3 := Lib.hid (newer_trans H2.out.1 hb)
   clear hb H2 HRG x0 x1 g0 g1 g2 g3 g4 g5
   go_wp2_with fail
   refine (drains_any _).mono ?_
   rintro e wk ⟨rfl, hb⟩
   have HK := Lib.hid (newer_trans (H3.out) hb)
   clear hb
   go_wp2_with fail
   go_ret
   exact ⟨rfl, HK.out⟩
  | true =>
   rw [hri] at HRG
   have HSD := Lib.hid (sdOk_iff.1 hri)
   clear hri
   go_wp2_with fail
   refine (HRG.out).mono ?_
   rintro e w3 ⟨rfl, hb⟩
   have H3 := Lib.hid (And.intro (newer_trans H2.out.1 hb) (And.intro (H2.out.2.1.below hb H2.out.2.1.lt) (H2.out.2.2.below hb H2.out.2.2.lt)))
   clear hb H2 HRG x0 x1 g0 g1 g2 g3 g4 g5
   have x0 := H3.out.2.1.at 0 (v := .slice s.a s.cs.length s.c) rfl
   have x1 := H3.out.2.1.at 1 (v := vi s.least) rfl
   have g0 := H3.out.2.2.at 0 (v := .slice A g.cells.length cp) rfl
   have g1 := H3.out.2.2.at 1 (v := vi g.slo) rfl
   have g2 := H3.out.2.2.at 2 (v := vi g.shi) rfl
   have g3 := H3.out.2.2.at 3 (v := vi g.klo) rfl
   have g4 := H3.out.2.2.at 4 (v := vi g.khi) rfl
   have g5 := H3.out.2.2.at 5 (v := vi g.melt) rfl
   by_cases hlc : (s.cs.length : Int) < s.least
   case pos =>
    have H4 := Lib.hid H3.out.1
    clear H3
    go_wp2_with fail
    refine (drains_any _).mono ?_
    rintro e wk ⟨rfl, hb⟩
    have HK := Lib.hid (newer_trans (H4.out) hb)
    clear hb
    go_wp2_with fail
    go_ret
    exact ⟨rfl, HK.out⟩
   case neg =>
    have HLC := Lib.hid hlc
    go_wp2_with fail
    refine (thin_any g cp A days.length dp D _).mono ?_
    rintro e w4 ⟨rfl, hb⟩
    have H4 := Lib.hid (And.intro (newer_trans H3.out.1 hb) (And.intro (H3.out.2.1.below hb H3.out.2.1.lt) (H3.out.2.2.below hb H3.out.2.2.lt)))
    clear hb H3 x0 x1 g0 g1 g2 g3 g4 g5 hlc
    have x0 := H4.out.2.1.at 0 (v := .slice s.a s.cs.length s.c) rfl
    have x1 := H4.out.2.1.at 1 (v := vi s.least) rfl
    have g0 := H4.out.2.2.at 0 (v := .slice A g.cells.length cp) rfl
    have g1 := H4.out.2.2.at 1 (v := vi g.slo) rfl
    have g2 := H4.out.2.2.at 2 (v := vi g.shi) rfl
    have g3 := H4.out.2.2.at 3 (v := vi g.klo) rfl
    have g4 := H4.out.2.2.at 4 (v := vi g.khi) rfl
    have g5 := H4.out.2.2.at 5 (v := vi g.melt) rfl
    cases hth : thinBW g.cells.length days.length with
    | false =>
     have H5 := Lib.hid H4.out.1
     clear hth H4
     go_wp2_with fail
     refine (drains_any _).mono ?_
     rintro e wk ⟨rfl, hb⟩
     have HK := Lib.hid (newer_trans (H5.out) hb)
     clear hb
     go_wp2_with fail
     go_ret
     exact ⟨rfl, HK.out⟩
    | true =>
     have hfew : g.cells.length <= 10 /\ days.length <= 35 := by
      unfold thinBW at hth
      simpa using hth
     clear hth
     obtain ⟨f, hf⟩ : ∃ f, f = faultN g days := ⟨_, rfl⟩
     have HRF := Lib.hid (refFault_any g cp A days dp D w4 (by omega) (by omega) ((HGR.out.1.below H4.out.1).more H4.out.1.size) ((HGR.out.2.below H4.out.1).more H4.out.1.size))
     rw [<- hf] at HRF
     have HFE := Lib.hid hf
     clear hf
     go_wp2_with fail
     refine (HRF.out).mono ?_
     rintro e w5 ⟨rfl, hb⟩
     have H5 := Lib.hid (And.intro (newer_trans H4.out.1 hb) (And.intro (H4.out.2.1.below hb H4.out.2.1.lt) (H4.out.2.2.below hb H4.out.2.2.lt)))
     clear hb H4 HRF x0 x1 g0 g1 g2 g3 g4 g5
     have x0 := H5.out.2.1.at 0 (v := .slice s.a s.cs.length s.c) rfl
     have x1 := H5.out.2.1.at 1 (v := vi s.least) rfl
     have g0 := H5.out.2.2.at 0 (v := .slice A g.cells.length cp) rfl
     have g1 := H5.out.2.2.at 1 (v := vi g.slo) rfl
     have g2 := H5.out.2.2.at 2 (v := vi g.shi) rfl
     have g3 := H5.out.2.2.at 3 (v := vi g.klo) rfl
     have g4 := H5.out.2.2.at 4 (v := vi g.khi) rfl
     have g5 := H5.out.2.2.at 5 (v := vi g.melt) rfl
     by_cases hf0 : f = 0
     case neg =>
      have b1 : (f == 0) = false := by simpa using hf0
      have b2 : (f != 0) = true := by simpa using hf0
      have H6 := Lib.hid H5.out.1
      clear hf0 H5
      go_wp2_with fail
      refine (drains_any _).mono ?_
      rintro e wk ⟨rfl, hb⟩
      have HK := Lib.hid (newer_trans (H6.out) hb)
      clear hb
      go_wp2_with fail
      go_ret
      exact ⟨rfl, HK.out⟩
     subst hf0
     have hfz := HFE.out.symm
     have hn18 := fault_cells hfz
     have hm30 := (fault_zero hfz).2.1
     have HFZ := Lib.hid hfz
     clear HFE hfz hfew
     obtain ⟨f, hf⟩ : ∃ q : Int, q = ((fac % 10001 : Nat) : Int) := ⟨_, rfl⟩
     have hfb : 0 <= f /\ f <= 10000 := by have := Nat.mod_lt fac (show 0 < 10001 by decide); omega
     have ec1 : IntKind.i64.wrap (fac : Int) = fac := IntWalk.i64_in _ (by omega)
     have er1 : (fac : Int).tmod 10001 = f := by rw [hf, Int.tmod_eq_emod_of_nonneg (by omega)]; exact (Int.natCast_emod _ _).symm
     obtain ⟨kk, hkk⟩ : ∃ k : Nat, k = cell % g.cells.length := ⟨_, rfl⟩
     have hkl : kk < g.cells.length := by rw [hkk]; exact Nat.mod_lt _ (by omega)
     have ec2 : IntKind.i64.wrap (cell : Int) = cell := IntWalk.i64_in _ (by omega)
     have er2 : (cell : Int).tmod (g.cells.length : Int) = (kk : Int) := by rw [hkk, Int.tmod_eq_emod_of_nonneg (by omega)]; exact (Int.natCast_emod _ _).symm
     have hk0 : ¬ ((g.cells.length : Int) = 0) := by omega
     have ec3 : IntKind.i64.wrap (kk : Int) = kk := IntWalk.i64_in _ (by omega)
     clear hf hkk
     go_upto_region 3 with fail
     go_quiet (fail)
     go_upto_region 4 with fail
     refine genQ (fun X => newer w5 X) (newer_drewN _ _) ?_
     intro w6 hb
     have H6 := Lib.hid (And.intro (newer_trans H5.out.1 hb) (And.intro (H5.out.2.1.below hb H5.out.2.1.lt) (H5.out.2.2.below hb H5.out.2.2.lt)))
     clear hb H5 x0 x1 g0 g1 g2 g3 g4 g5 ec1 er1 ec2 er2 ec3 hk0
     have x0 := H6.out.2.1.at 0 (v := .slice s.a s.cs.length s.c) rfl
     have x1 := H6.out.2.1.at 1 (v := vi s.least) rfl
     have g0 := H6.out.2.2.at 0 (v := .slice A g.cells.length cp) rfl
     have g1 := H6.out.2.2.at 1 (v := vi g.slo) rfl
     have g2 := H6.out.2.2.at 2 (v := vi g.shi) rfl
     have g3 := H6.out.2.2.at 3 (v := vi g.klo) rfl
     have g4 := H6.out.2.2.at 4 (v := vi g.khi) rfl
     have g5 := H6.out.2.2.at 5 (v := vi g.melt) rfl
     have hcl := HSD.out.cols
     rw [sd_len] at hcl
     obtain ⟨c0, hc0⟩ : ∃ c, s.cs[0]? = some c := ⟨_, List.getElem?_eq_getElem (by omega)⟩
     have hcm := List.mem_of_getElem? hc0
     have hbl0 : c0.beds.length = s.sd.n := HSD.out.len _ (List.mem_map.2 ⟨c0, hcm, rfl⟩)
     have hbn := HSD.out.beds
     obtain ⟨b0, hb0⟩ : ∃ b, c0.beds[0]? = some b := ⟨_, List.getElem?_eq_getElem (by omega)⟩
     have hbb := HSD.out.bd c0.beds (List.mem_map.2 ⟨c0, hcm, rfl⟩) b0 (List.mem_of_getElem? hb0)
     obtain ⟨_, _, _, _, hwa⟩ := bdB_parts hbb
     have ho6 := HOK.out.next H6.out.1
     obtain ⟨sa, so, esa, _, s0⟩ := rowC ho6.cs hc0
     obtain ⟨ca, co, eca, _, d0, d1, d2, d3, d4, d5, d6, d7⟩ := row8 (ho6.bd c0 hcm) hb0
     have hb0l : (0 : Int) < c0.beds.length := by omega
     have hs0l : (0 : Int) < s.cs.length := by omega
     rw [esa] at x0
     rw [eca] at s0
     rw [Nat.add_zero] at s0
     rw [Nat.zero_mul, Nat.add_zero] at d6 d7
     have HES := Lib.hid (And.intro esa eca)
     have HBL := Lib.hid (And.intro hbl0 hbn)
     have HWA := Lib.hid hwa
     clear hc0 hcm hb0 hbb ho6 hbl0 hbn hwa esa eca d0 d1 d2 d3 d4 d5
     go_upto_region 5 with fail
     obtain ⟨r, hr⟩ : ∃ r, r = b0.wa := ⟨_, rfl⟩
     rw [<- hr] at HWA ⊢
     have HES2 := Lib.hid hr
     obtain ⟨rb, hrb⟩ : ∃ q, q = w6.heap.size := ⟨_, rfl⟩
     rw [<- hrb]
     refine genQ (fun X => newer w6 X /\ Whole X rb 38 #[vi r.lo, vi r.hi]) ⟨newer_allocH _ _, by rw [hrb]; exact Whole.made _ _ _⟩ ?_
     rintro w7 ⟨hb, hrw⟩
     have H7 := Lib.hid (And.intro (newer_trans H6.out.1 hb) (And.intro (H6.out.2.1.below hb H6.out.2.1.lt) (H6.out.2.2.below hb H6.out.2.2.lt)))
     have HRB := Lib.hid (And.intro hrw (Nat.le_trans H6.out.1.size (Nat.le_of_eq hrb.symm)))
     have HNR := Lib.hid hb
     clear hb hrw H6 x0 x1 g0 g1 g2 g3 g4 g5 s0 d6 d7 hr hrb HES HES2
     have x0 := H7.out.2.1.at 0 (v := .slice s.a s.cs.length s.c) rfl
     have x1 := H7.out.2.1.at 1 (v := vi s.least) rfl
     have g0 := H7.out.2.2.at 0 (v := .slice A g.cells.length cp) rfl
     have g1 := H7.out.2.2.at 1 (v := vi g.slo) rfl
     have g2 := H7.out.2.2.at 2 (v := vi g.shi) rfl
     have g3 := H7.out.2.2.at 3 (v := vi g.klo) rfl
     have g4 := H7.out.2.2.at 4 (v := vi g.khi) rfl
     have g5 := H7.out.2.2.at 5 (v := vi g.melt) rfl
     have HWT := Lib.hid (wetterO_any s 0 w7 (HOK.out.next H7.out.1) HSD.out (Int.le_refl _) (by decide))
     go_wp2_with fail
     refine HWT.out.mono ?_
     rintro e w8 ⟨s2, rfl, hsd, _, how, hb⟩
     rw [wet_zero HSD.out] at hsd
     have HEV : Hid (∀ W, newer w8 W -> Whole W w8.heap.size 24 (smC s2) -> EvJ w7 w7.heap.size w8.heap.size s.sd r s2 0 0 W) := Lib.hid (fun W hW hx => ⟨newer_trans hb hW, how.next hW, hx, by rw [hsd]; exact SetTo.zero _ _, Nat.le_refl _⟩)
     clear hb how hsd HWT x0 x1 g0 g1 g2 g3 g4 g5
     go_upto_region 6 with fail
     obtain ⟨eb, heb⟩ : ∃ q, q = w8.heap.size := ⟨_, rfl⟩
     rw [<- heb] at HEV ⊢
     refine genQ (fun X => EvJ w7 w7.heap.size eb s.sd r s2 0 0 X) (HEV.out _ (newer_allocH _ _) (by rw [heb]; exact Whole.made _ _ _)) ?_
     intro w9 hev
     have HE0 := Lib.hid hev
     obtain ⟨N, hN⟩ : ∃ N, N = s.sd.cols.length := ⟨_, rfl⟩
     obtain ⟨M, hM⟩ : ∃ M, M = s.sd.n := ⟨_, rfl⟩
     have HNM := Lib.hid (And.intro hN hM)
     have hNb := HSD.out.cols
     have hMb := HSD.out.beds
     rw [<- hN] at hNb
     rw [<- hM] at hMb
     clear hev HEV heb hN hM
     go_wp2_with fail
     go_loopw [21, 22] (fun s21 _ wr => ∃ (i : Nat) (t : Sm), i <= N /\ s21 = vi i /\ EvJ w7 w7.heap.size eb s.sd r t i 0 wr) (fun s21 _ _ => N - (intOf s21).toNat)
     case atStart => exact ⟨0, s2, Nat.zero_le _, rfl, HE0.out⟩
     case round =>
      obtain ⟨i, t, hi, rfl, hj⟩ := hrel
      have HJ := Lib.hid hj
      have hlen := hj.parts
      rw [<- HNM.out.1] at hlen
      have y0 := hj.bx.at 0 (v := .slice t.a t.cs.length t.c) rfl
      rw [hlen] at y0
      clear hj
      by_cases hlt : i < N
      case pos =>
       have hin : (i : Int) < N := by omega
       go_wp2_with fail
       go_loopw [22] (fun s22 wx => ∃ (j : Nat) (t : Sm), j <= M /\ s22 = vi j /\ EvJ w7 w7.heap.size eb s.sd r t i j wx) (fun s22 _ => M - (intOf s22).toNat)
       case atStart => exact ⟨0, t, Nat.zero_le _, rfl, HJ.out⟩
       case round =>
        obtain ⟨j, t, hj0, rfl, hj⟩ := hrel
        have HJ2 := Lib.hid hj
        have hlen := hj.parts
        rw [<- HNM.out.1] at hlen
        obtain ⟨x, hx, hxl⟩ := hj.col HSD.out (k := i) (by rw [<- HNM.out.1]; exact hlt)
        rw [<- HNM.out.2] at hxl
        have z0 := hj.bx.at 0 (v := .slice t.a t.cs.length t.c) rfl
        obtain ⟨tb, q, ea, eg, z1⟩ := hj.own.apart hx
        rw [hlen, ea] at z0
        rw [hxl] at z1
        have HX := Lib.hid (And.intro hx eg)
        clear hj hx ea eg
        by_cases hlj : j < M
        case pos =>
         have hjm : (j : Int) < M := by omega
         have r0 := (HRB.out.1.below HJ2.out.nw HRB.out.1.lt).at 0 (v := vi r.lo) rfl
         have r1 := (HRB.out.1.below HJ2.out.nw HRB.out.1.lt).at 1 (v := vi r.hi) rfl
         obtain ⟨b, hb⟩ : ∃ b, x.beds[j]? = some b := ⟨_, List.getElem?_eq_getElem (by omega)⟩
         have HPU := Lib.hid (HJ2.out.put HX.out.1 HX.out.2 hb)
         obtain ⟨q0, eq0, hown⟩ := HJ2.out.own.col x (List.mem_of_getElem? HX.out.1)
         rw [HX.out.2] at eq0
         injection eq0 with eq0
         injection eq0 with eq0
         subst eq0
         obtain ⟨b6, b7, bf⟩ := (fun h : Whole8 _ _ _ _ => And.intro h.c6 (And.intro h.c7 h.f)) (whole8 hown rfl hb)
         have f6 := bf 6
         have f7 := bf 7
         clear hown hb bf
         go_wp2_with fail
         go_region
         go_wp2_with fail
         refine ⟨⟨j + 1, _, by omega, rfl, HPU.out.next (Below.refl _ _).drew⟩, ?_⟩
         simp [intOf]
         omega
        case neg =>
         obtain rfl : j = M := by omega
         have hjm : ¬ (j : Int) < j := by omega
         have HRO := Lib.hid (HJ2.out.row HSD.out (by rw [<- HNM.out.1]; exact hlt) (by rw [<- HNM.out.2]; exact Nat.le_refl _))
         clear hlj
         go_wp2_with fail
         refine ⟨⟨i + 1, t, by omega, rfl, HRO.out⟩, ?_⟩
         simp [intOf]
         omega
      case neg =>
       obtain rfl : i = N := by omega
       have hin : ¬ (i : Int) < i := by omega
       clear hlt
       go_upto_region 13 with fail
       obtain ⟨wl, rfl⟩ : ∃ v, v = wr := ⟨_, rfl⟩
       have hte := HJ.out.stt.all (by rw [<- HNM.out.1]; exact Nat.le_refl _)
       have HTE := Lib.hid hte
       have HES := Lib.hid (set_ok HWA.out HSD.out)
       have hft : SmFew t := (thinS_few (by rw [hte, set_thin]; exact HTS.out)).1
       have HFT := Lib.hid hft
       have HNL := Lib.hid (newer_trans H7.out.1 HJ.out.nw)
       have HTO := Lib.hid HJ.out.own.ok
       have HEB := Lib.hid HJ.out.bx
       have HRL := Lib.hid (And.intro (HRB.out.1.below HJ.out.nw HRB.out.1.lt) HNL.out)
       have HGL := Lib.hid (H7.out.2.2.below HJ.out.nw H7.out.2.2.lt)
       obtain ⟨m, qm, hmo, hms⟩ := margin_says HES.out hfb.1 hfb.2
       have HMG := Lib.hid (fun (s3 : Sm) (W : World) (h1 : s3.sd = t.sd) (h2 : SmOk s3 W) => by
        have h := margin_any s3 f W h2 (few_sd h1 HFT.out)
        rw [h1, HTE.out, hmo] at h
        exact h)
       have HSL := Lib.hid (lawSlope t wl HTO.out HFT.out)
       have y1 := HEB.out.at 1 (v := vi t.least) rfl
       clear y0
       have y0 := HEB.out.at 0 (v := .slice t.a t.cs.length t.c) rfl
       have HMS := Lib.hid hms
       clear hte hft hmo hin hms hlen
       go_wp2_with fail
       refine HSL.out.mono ?_
       rintro e wa ⟨s3, rfl, h3, ho3, hb⟩
       have HM3 := Lib.hid (HMG.out s3 wa h3 ho3)
       have HNA := Lib.hid hb
       clear h3 ho3 hb HSL HMG y0 y1
       go_wp2_with fail
       refine HM3.out.mono ?_
       rintro e wb ⟨rfl, hb⟩
       have HNB := Lib.hid (newer_trans HNA.out hb)
       have HNW := Lib.hid (newer_trans HNL.out (newer_trans HNA.out hb))
       clear hb HM3 HNA
       rcases HMS.out with ⟨rfl, -, -⟩ | ⟨rfl, hm1, hm2, -⟩
       ·go_wp2_with fail
        refine (drains_any _).mono ?_
        rintro e wk ⟨rfl, hb⟩
        have HK := Lib.hid (newer_trans HNW.out hb)
        clear hb
        go_wp2_with fail
        go_ret
        exact ⟨rfl, HK.out⟩
       ·have HM2 := Lib.hid hm2
        have hm3 : ¬ (m : Int) < 0 := by omega
        have hm4 : ¬ (100000 : Int) < m := by omega
        have hg1 := HGL.out.below HNB.out HGL.out.lt
        have HGB := Lib.hid hg1
        have g0 := hg1.at 0 (v := .slice A g.cells.length cp) rfl
        have g1 := hg1.at 1 (v := vi g.slo) rfl
        have g2 := hg1.at 2 (v := vi g.shi) rfl
        have g3 := hg1.at 3 (v := vi g.klo) rfl
        have g4 := hg1.at 4 (v := vi g.khi) rfl
        have g5 := hg1.at 5 (v := vi g.melt) rfl
        have hr1 := HRL.out.1.below HNB.out HRL.out.1.lt
        have r1 := hr1.at 1 (v := vi r.hi) rfl
        have hwa := HWA.out
        obtain ⟨rx, hrx⟩ : ∃ q : Int, q = r.hi + m := ⟨_, rfl⟩
        have es : IntKind.i64.wrap (r.hi + (m : Int)) = rx := by rw [hrx]; exact IntWalk.i64_in _ (by omega)
        obtain ⟨lv, hlv⟩ : ∃ q : Int, q = mnI 100000 rx := ⟨_, rfl⟩
        have hlb : 0 <= lv /\ lv <= 100000 /\ (rx < 100000 -> lv = rx) /\ (¬ rx < 100000 -> lv = 100000) := by
         rw [hlv]
         unfold mnI
         split <;> omega
        have HLV := Lib.hid hlb
        have HLV2 : Hid (lv = mnI 100000 (r.hi + m)) := Lib.hid (by rw [hlv, hrx])
        have HRC : Hid (∀ W, newer wb W -> Row cellL 7 W W.heap.size A g.cells /\ Row dayL 3 W W.heap.size D days) := Lib.hid (fun W hW => ⟨(HGR.out.1.below (newer_trans HNW.out hW)).more (newer_trans HNW.out hW).size, (HGR.out.2.below (newer_trans HNW.out hW)).more (newer_trans HNW.out hW).size⟩)
        obtain ⟨n, e, hle, hne⟩ := least_one HFZ.out hkl lv
        have HNE := Lib.hid hne
        have HLS : Hid (∀ (A2 : Option Addr) (c2 : Nat) (D2 : Option Addr) (d2 : Nat) (W : World), Row cellL 7 W W.heap.size A2 g.cells -> Row dayL 3 W W.heap.size D2 days -> Calls Tryz.prog 12 #[gndV A2 c2 g, .slice D2 days.length d2, .int .i64 kk, .int .i64 lv] W fun e' w' => e' = .returned (.tuple #[vi n, vi e]) /\ newer W w') := Lib.hid (fun A2 c2 D2 d2 W h1 h2 => by
         refine (least_yes g A2 c2 days D2 d2 kk lv W (by omega) (by omega) h1 h2 (asked_ok HFZ.out hkl HLV.out.1 HLV.out.2.1)).mono ?_
         rintro e' w' ⟨⟨n', hn', rfl⟩, hb⟩
         rw [hle n' hn']
         exact ⟨rfl, hb⟩)
        clear hm1 hg1 hr1 hrx hlv hlb hle hne hwa
        go_upto_region 18 with fail
        refine wp_words (by kernel_rfl) (region_told 15 (by kernel_rfl) (by kernel_rfl) (fun W => Below wb.heap.size wb W) newer (pickD [vIs (gndV A cp g), vGn g, vIs (.slice D days.length dp), vDy days, vIs (vi (kk : Int)), vIs (.pointer (some ⟨rb, 1, none⟩)), vIs (vi r.hi), vIs (vi (m : Int)), vIs (vi rx), vIs (vi lv), vIs (.tuple #[vi n, vi e]), vIs (.tuple #[vi n, vi e]), vIs (vi n), vIs (vi e), vIs (vi n)]) (fun h k => newer_trans h k) (pickD_stable _ ⟨vIs_st, vGn_st, vIs_st, vDy_st, vIs_st, vIs_st, vIs_st, vIs_st, vIs_st, vIs_st, vIs_st, vIs_st, vIs_st, vIs_st, vIs_st, trivial⟩) (Below.refl _ wb).drew (Below.refl _ _) ?_ ?_)
        ·refine ⟨?_, ?_, ?_, ?_, ?_, ?_, ?_, ?_, ?_, ?_, ?_, ?_, ?_, ?_, ?_, trivial⟩
         ·intro a W hG hR hO hp; have h9 := hO.slot 9 (by kernel_rfl); have c0 := keep_cell g0 hG; have c1 := keep_cell g1 hG; have c2 := keep_cell g2 hG; have c3 := keep_cell g3 hG; have c4 := keep_cell g4 hG; have c5 := keep_cell g5 hG; refine kY (v := gndV A cp g) hG rfl ?_; simp [slotOf] at h9; simp [execOp, go_sem, h9, c0, c1, c2, c3, c4, c5]
         ·intro a W hG hR hO hp
          have h133 : slotOf a 133 = gndV A cp g := hp.1
          refine wp_enters (f := 13) (args := #[gndV A cp g]) ?_ ((lawGround g A cp W (by omega) (HRC.out W hG).1).mono ?_)
          ·simp [slotOf] at h133
           simp [go_sem, h133]
          ·rintro e' w' ⟨A2, c2, rfl, h1, hb⟩
           exact ⟨_, rfl, _, rfl, ⟨A2, c2, rfl, h1⟩, hb, below_next hG hb⟩
         ·exact fun a W hG _ hO _ => kM 2 rfl (hO.slot 2 (by kernel_rfl)) rfl hG
         ·intro a W hG hR hO hp
          have h135 : slotOf a 135 = .slice D days.length dp := hp.1
          refine wp_enters (f := 14) (args := #[.slice D days.length dp]) ?_ ((lawDays days D dp W (by omega) (HRC.out W hG).2).mono ?_)
          ·simp [slotOf] at h135
           simp [go_sem, h135]
          ·rintro e' w' ⟨A2, c2, rfl, h1, hb⟩
           exact ⟨_, rfl, _, rfl, ⟨A2, c2, rfl, h1⟩, hb, below_next hG hb⟩
         ·exact fun a W hG _ hO _ => kM 18 rfl (hO.slot 18 (by kernel_rfl)) rfl hG
         ·intro a W hG hR hO hp; have h19 := hO.slot 19 (by kernel_rfl); refine kY (v := .pointer (some ⟨rb, 1, none⟩)) hG rfl ?_; simp [slotOf] at h19; simp [execOp, go_sem, h19]
         ·intro a W hG hR hO hp; have h138 : slotOf a 138 = .pointer (some ⟨rb, 1, none⟩) := hp.1; have c0 := keep_cell r1 hG; refine kY (v := vi r.hi) hG rfl ?_; simp [slotOf] at h138; simp [execOp, go_sem, h138, c0]
         ·exact fun a W hG _ hO _ => kM 23 rfl (hO.slot 23 (by kernel_rfl)) rfl hG
         ·intro a W hG hR hO hp; have h139 : slotOf a 139 = vi r.hi := hp.1; have h140 : slotOf a 140 = vi (m : Int) := hp.2.1; refine kY (v := vi rx) hG rfl ?_; simp [slotOf] at h139 h140; simp [execOp, go_sem, h139, h140, es]
         ·intro a W hG hR hO hp
          have h141 : slotOf a 141 = vi rx := hp.1
          refine wp_yields (v := vi lv) ?_ ⟨_, rfl, rfl, Below.refl _ _, hG⟩
          simp [slotOf] at h141
          by_cases hq : rx < 100000
          ·have e9 := HLV.out.2.2.1 (by omega)
           simp [go_sem, h141, hq, e9]
          ·have e9 := HLV.out.2.2.2 (by omega)
           simp [go_sem, h141, hq, e9]
         ·intro a W hG hR hO hp
          have h134 := hp.1
          have h136 := hp.2.1
          have h137 : slotOf a 137 = vi (kk : Int) := hp.2.2.1
          have h142 : slotOf a 142 = vi lv := hp.2.2.2.1
          obtain ⟨A2, c2, h134, h1⟩ := h134
          obtain ⟨D2, d2, h136, h2⟩ := h136
          refine wp_enters (f := 12) (args := #[gndV A2 c2 g, .slice D2 days.length d2, .int .i64 kk, .int .i64 lv]) ?_ ((HLS.out A2 c2 D2 d2 W h1 h2).mono ?_)
          ·simp [slotOf] at h134 h136 h137 h142
           simp [go_sem, h134, h136, h137, h142]
          ·rintro e' w' ⟨rfl, hb⟩
           exact ⟨_, rfl, _, rfl, rfl, hb, below_next hG hb⟩
         ·exact fun a W hG _ _ hp => kM 143 rfl hp.1 rfl hG
         ·intro a W hG hR hO hp; have h132 : slotOf a 132 = .tuple #[vi n, vi e] := hp.1; refine kY (v := vi n) hG rfl ?_; simp [slotOf] at h132; simp [execOp, go_sem, h132]
         ·intro a W hG hR hO hp; have h132 : slotOf a 132 = .tuple #[vi n, vi e] := hp.1; refine kY (v := vi e) hG rfl ?_; simp [slotOf] at h132; simp [execOp, go_sem, h132]
         ·intro a W hG hR hO hp; have h144 : slotOf a 144 = vi n := hp.1; refine kY (v := vi n) hG rfl ?_; simp [slotOf] at h144; simp [execOp, go_sem, h144]
        ·intro w1 hG hR
         rintro _ rfl _ - _ rfl _ - _ rfl _ rfl _ rfl _ rfl _ rfl _ rfl _ rfl _ rfl _ rfl _ rfl _ rfl
         change wpList _ _ _ _ _ _
         simp only [Act.put, List.setIfInBounds_toArray, List.set_cons_zero, List.set_cons_succ, List.drop_succ_cons, List.drop_zero]
         have HNC := Lib.hid (newer_trans HNB.out hG)
         have HNX := Lib.hid (newer_trans HNW.out hG)
         have hg1 := HGB.out.below hG HGB.out.lt
         have HGC := Lib.hid hg1
         clear hG hR g0 g1 g2 g3 g4 g5 r1 es HRC HLS
         have g0 := hg1.at 0 (v := .slice A g.cells.length cp) rfl
         have g1 := hg1.at 1 (v := vi g.slo) rfl
         have g2 := hg1.at 2 (v := vi g.shi) rfl
         have g3 := hg1.at 3 (v := vi g.klo) rfl
         have g4 := hg1.at 4 (v := vi g.khi) rfl
         have g5 := hg1.at 5 (v := vi g.melt) rfl
         rcases HNE.out with rfl | ⟨rfl, hn0, hn1, hkp⟩
         ·clear hg1
          go_wp2_with fail
          refine (drains_any _).mono ?_
          rintro e wk ⟨rfl, hb⟩
          have HK := Lib.hid (newer_trans HNX.out hb)
          clear hb
          go_wp2_with fail
          go_ret
          exact ⟨rfl, HK.out⟩
         ·have HKP0 := Lib.hid hkp
          have hn2 : ¬ (n : Int) < 0 := by omega
          have hn3 : ¬ (100000 : Int) < n := by omega
          obtain ⟨g', hg'⟩ : ∃ g', g' = withPump g kk n := ⟨_, rfl⟩
          have HG' := Lib.hid hg'
          have hgl : g'.cells.length = g.cells.length := by rw [hg', withPump_len]
          have HFG : Hid (faultN g' days = 0) := Lib.hid (by rw [hg']; exact fault_pump HFZ.out kk hn0 hn1)
          have HKP : Hid (∀ k, k < days.length -> (stE true g' days (k + 1)).f kk <= lv) := Lib.hid (by rw [hg']; exact keeps_yes hkp)
          have HRW2 := Lib.hid (refWith g A cp kk n w1 (by omega) hkl ((HGR.out.1.below HNX.out).more HNX.out.size))
          rw [<- hg'] at HRW2
          have HGL' := Lib.hid hgl
          clear hg1 hkp hg' HNE HKP0 hgl
          go_wp2_with fail
          refine HRW2.out.mono ?_
          rintro e w2 ⟨A3, cz, rfl, hr3, hb⟩
          have HR3 := Lib.hid hr3
          have HNY := Lib.hid hb
          clear hr3 hb HRW2 g0 g1 g2 g3 g4 g5 hn0 hn1 hn2 hn3
          go_upto_region 24 with fail
          obtain ⟨pb, hpb⟩ : ∃ q, q = w2.heap.size := ⟨_, rfl⟩
          rw [<- hpb]
          refine genQ (fun X => newer w2 X /\ Whole X pb 29 (gndC A3 cz g')) ⟨newer_allocH _ _, by rw [hpb]; exact Whole.made _ _ _⟩ ?_
          rintro w3 ⟨hb, hpw⟩
          have HPB := Lib.hid hpw
          have HNZ := Lib.hid (newer_trans HNY.out hb)
          have HN3 := Lib.hid (newer_trans HNX.out HNZ.out)
          have HRC : Hid (∀ W, newer w3 W -> Row cellL 7 W W.heap.size A3 g'.cells /\ Row dayL 3 W W.heap.size D days /\ Row wordL 1 W W.heap.size V ws) := Lib.hid (fun W hW => ⟨(HR3.out.below (newer_trans hb hW)).more (newer_trans hb hW).size, (HGR.out.2.below (newer_trans HN3.out hW)).more (newer_trans HN3.out hW).size, (HRW.out.1.below (newer_trans HN3.out hW)).more (newer_trans HN3.out hW).size⟩)
          have x0 := hpw.at 0 (v := .slice A3 g'.cells.length cz) rfl
          have x1 := hpw.at 1 (v := vi g'.slo) rfl
          have x2 := hpw.at 2 (v := vi g'.shi) rfl
          have x3 := hpw.at 3 (v := vi g'.klo) rfl
          have x4 := hpw.at 4 (v := vi g'.khi) rfl
          have x5 := hpw.at 5 (v := vi g'.melt) rfl
          have HTR : Hid (∀ W, newer w3 W -> Calls Tryz.prog 18 #[gndV A3 cz g', .slice D days.length dp, .slice V ws.length vp] W (pickedOut W g' days)) := Lib.hid (fun W hW => picked_anyW g' A3 cz days D dp ws V vp W HFG.out HWL.out (HRC.out W hW).1 (HRC.out W hW).2.1 (HRC.out W hW).2.2)
          have hgl2 := HGL'.out
          have hnl : g'.cells.length <= 8 := by omega
          clear hb hpw hpb hgl2
          go_upto_region 24 with fail
          refine wp_words (by kernel_rfl) (region_told 18 (by kernel_rfl) (by kernel_rfl) (fun W => Below w3.heap.size w3 W) newer (pickD [vIs (gndV A3 cz g'), vGn g', vIs (.slice D days.length dp), vDy days, vIs (gndV A3 cz g'), vIs (.slice D days.length dp), vIs (.slice V ws.length vp), vTrZ g' days, vTrZ g' days, vRunT g'.cells.length days.length kk lv, vRunT g'.cells.length days.length kk lv, vLvT g'.cells.length days.length kk lv, vLz days.length, vSnT, vIs (vi 0), vLvT g'.cells.length days.length kk lv, vLz days.length, vSnT]) (fun h k => newer_trans h k) (pickD_stable _ ⟨vIs_st, vGn_st, vIs_st, vDy_st, vIs_st, vIs_st, vIs_st, vTrZ_st, vTrZ_st, vRunT_st, vRunT_st, vLvT_st, vLz_st, vSnT_st, vIs_st, vLvT_st, vLz_st, vSnT_st, trivial⟩) (Below.refl _ w3).drew (Below.refl _ _) ?_ ?_)
          ·refine ⟨?_, ?_, ?_, ?_, ?_, ?_, ?_, ?_, ?_, ?_, ?_, ?_, ?_, ?_, ?_, ?_, ?_, ?_, trivial⟩
           ·intro a W hG hR hO hp; have h27 := hO.slot 27 (by kernel_rfl); have c0 := keep_cell x0 hG; have c1 := keep_cell x1 hG; have c2 := keep_cell x2 hG; have c3 := keep_cell x3 hG; have c4 := keep_cell x4 hG; have c5 := keep_cell x5 hG; refine kY (v := gndV A3 cz g') hG rfl ?_; simp [slotOf] at h27; simp [execOp, go_sem, h27, c0, c1, c2, c3, c4, c5]
           ·intro a W hG hR hO hp
            have h164 : slotOf a 164 = gndV A3 cz g' := hp.1
            refine wp_enters (f := 13) (args := #[gndV A3 cz g']) ?_ ((lawGround g' A3 cz W (by omega) (HRC.out W hG).1).mono ?_)
            ·simp [slotOf] at h164
             simp [go_sem, h164]
            ·rintro e' w' ⟨A2, c2, rfl, h1, hb⟩
             exact ⟨_, rfl, _, rfl, ⟨A2, c2, rfl, h1⟩, hb, below_next hG hb⟩
           ·exact fun a W hG _ hO _ => kM 2 rfl (hO.slot 2 (by kernel_rfl)) rfl hG
           ·intro a W hG hR hO hp
            have h166 : slotOf a 166 = .slice D days.length dp := hp.1
            refine wp_enters (f := 14) (args := #[.slice D days.length dp]) ?_ ((lawDays days D dp W (by omega) (HRC.out W hG).2.1).mono ?_)
            ·simp [slotOf] at h166
             simp [go_sem, h166]
            ·rintro e' w' ⟨A2, c2, rfl, h1, hb⟩
             exact ⟨_, rfl, _, rfl, ⟨A2, c2, rfl, h1⟩, hb, below_next hG hb⟩
           ·intro a W hG hR hO hp; have h27 := hO.slot 27 (by kernel_rfl); have c0 := keep_cell x0 hG; have c1 := keep_cell x1 hG; have c2 := keep_cell x2 hG; have c3 := keep_cell x3 hG; have c4 := keep_cell x4 hG; have c5 := keep_cell x5 hG; refine kY (v := gndV A3 cz g') hG rfl ?_; simp [slotOf] at h27; simp [execOp, go_sem, h27, c0, c1, c2, c3, c4, c5]
           ·exact fun a W hG _ hO _ => kM 2 rfl (hO.slot 2 (by kernel_rfl)) rfl hG
           ·exact fun a W hG _ hO _ => kM 5 rfl (hO.slot 5 (by kernel_rfl)) rfl hG
           ·intro a W hG hR hO hp
            have h168 : slotOf a 168 = gndV A3 cz g' := hp.1
            have h169 : slotOf a 169 = .slice D days.length dp := hp.2.1
            have h170 : slotOf a 170 = .slice V ws.length vp := hp.2.2.1
            refine wp_enters (f := 18) (args := #[gndV A3 cz g', .slice D days.length dp, .slice V ws.length vp]) ?_ ((HTR.out W hG).mono ?_)
            ·simp [slotOf] at h168 h169 h170
             simp [go_sem, h168, h169, h170]
            ·rintro e' w' ⟨⟨sn, so, lv1, rn, v, rfl, hv, hfit⟩, hb⟩
             exact ⟨_, rfl, _, rfl, ⟨sn, so, lv1, rn, hv, hfit⟩, hb, below_next hG hb⟩
           ·intro a W hG hR hO hp
            have h171 := hp.1
            obtain ⟨sn, so, lv1, rn, ⟨L, lp, R, rp, h171, h1, h2⟩, hfit⟩ := h171
            have hlen := fits_lenW hfit
            refine wp_enters (f := 17) (args := #[truthV sn so L lv1.length lp R rn.length rp]) ?_ ((lawTruthW sn so lv1 rn L lp R rp W (by omega) (by omega) h1 h2).mono ?_)
            ·simp [slotOf] at h171
             simp [go_sem, h171]
            ·rintro e' w' ⟨⟨vx, rfl, hv⟩, hb⟩
             exact ⟨_, rfl, _, rfl, ⟨sn, so, lv1, rn, hv, hfit⟩, hb, below_next hG hb⟩
           ·intro a W hG hR hO hp
            have h165 := hp.1
            have h167 := hp.2.1
            have h172 := hp.2.2.1
            obtain ⟨Ag, cg, h165, hrg⟩ := h165
            obtain ⟨Ad, cd, h167, hrd⟩ := h167
            obtain ⟨sn, so, lv1, rn, ⟨L, lp, R, rp, h172, h1, h2⟩, hfit⟩ := h172
            have hlen := fits_lenW hfit
            refine wp_enters (f := 16) (args := #[gndV Ag cg g', .slice Ad days.length cd, truthV sn so L lv1.length lp R rn.length rp]) ?_ ((run_yes g' Ag cg days Ad cd sn so lv1 L lp rn R rp W (by omega) (by omega) (by omega) (by omega) hrg hrd h1 h2 (runN_ok HFG.out hfit)).mono ?_)
            ·simp [slotOf] at h165 h167 h172
             simp [go_sem, h165, h167, h172]
            ·rintro e' w' ⟨⟨vx, rfl, hv⟩, hb⟩
             exact ⟨_, rfl, _, rfl, vRunT_of HFG.out hfit (by rw [HGL'.out]; exact hkl) HKP.out hv, hb, below_next hG hb⟩
           ·intro a W hG hR hO hp; have h173 := hp.1; obtain ⟨v1, v2, v3, h173, hv1, hv2, hv3⟩ := h173; refine wp_yields (v := .tuple #[v1, v2, v3, vi 0]) ?_ ⟨_, rfl, ⟨v1, v2, v3, rfl, hv1, hv2, hv3⟩, Below.refl _ _, hG⟩; simp [slotOf] at h173; simp [execOp, go_sem, h173]
           ·intro a W hG hR hO hp; have h163 := hp.1; obtain ⟨v1, v2, v3, h163, hv1, hv2, hv3⟩ := h163; refine wp_yields (v := v1) ?_ ⟨_, rfl, hv1, Below.refl _ _, hG⟩; simp [slotOf] at h163; simp [execOp, go_sem, h163]
           ·intro a W hG hR hO hp; have h163 := hp.1; obtain ⟨v1, v2, v3, h163, hv1, hv2, hv3⟩ := h163; refine wp_yields (v := v2) ?_ ⟨_, rfl, hv2, Below.refl _ _, hG⟩; simp [slotOf] at h163; simp [execOp, go_sem, h163]
           ·intro a W hG hR hO hp; have h163 := hp.1; obtain ⟨v1, v2, v3, h163, hv1, hv2, hv3⟩ := h163; refine wp_yields (v := v3) ?_ ⟨_, rfl, hv3, Below.refl _ _, hG⟩; simp [slotOf] at h163; simp [execOp, go_sem, h163]
           ·intro a W hG hR hO hp; have h163 := hp.1; obtain ⟨v1, v2, v3, h163, hv1, hv2, hv3⟩ := h163; refine wp_yields (v := vi 0) ?_ ⟨_, rfl, rfl, Below.refl _ _, hG⟩; simp [slotOf] at h163; simp [execOp, go_sem, h163]
           ·intro a W hG hR hO hp; have h174 := hp.1; obtain ⟨fl, ⟨Qx, cqx, Ax, cx, bx, h174, hq1, hq2⟩, hf9⟩ := h174; refine wp_yields (v := .slice Qx days.length cqx) ?_ ⟨_, rfl, ⟨fl, ⟨Qx, cqx, Ax, cx, bx, rfl, hq1, hq2⟩, hf9⟩, Below.refl _ _, hG⟩; simp [slotOf] at h174; simp [execOp, go_sem, h174]
           ·intro a W hG hR hO hp; have h175 := hp.1; obtain ⟨sl, Qx, cqx, bx, h175, hq1⟩ := h175; refine wp_yields (v := .slice Qx days.length cqx) ?_ ⟨_, rfl, ⟨sl, Qx, cqx, bx, rfl, hq1⟩, Below.refl _ _, hG⟩; simp [slotOf] at h175; simp [execOp, go_sem, h175]
           ·intro a W hG hR hO hp; have h176 := hp.1; obtain ⟨sw, h176⟩ := h176; refine wp_yields (v := vi sw) ?_ ⟨_, rfl, ⟨sw, rfl⟩, Below.refl _ _, hG⟩; simp [slotOf] at h176; simp [execOp, go_sem, h176]
          ·intro w4 hG hR
           rintro _ rfl _ - _ rfl _ - _ rfl _ rfl _ rfl _ - _ - _ - _ - _ - _ - _ - _ rfl _ ⟨fl, ⟨Q1, cq1, Af1, cf1, bs1, rfl, hT1, hR1⟩, hfk⟩ _ ⟨_, _, _, _, rfl, -⟩ _ ⟨_, rfl⟩
           change wpList _ _ _ _ _ _
           simp only [Act.put, List.setIfInBounds_toArray, List.set_cons_zero, List.set_cons_succ, List.drop_succ_cons, List.drop_zero]
           have HG4 := Lib.hid hG
           have HN4 := Lib.hid (newer_trans HN3.out hG)
           have HLT := Lib.hid (And.intro (show vT1W g'.cells.length days.length fl (.slice Q1 days.length cq1) w4 from ⟨Q1, cq1, Af1, cf1, bs1, rfl, hT1, hR1⟩) hfk)
           have HEB4 := Lib.hid (HEB.out.below (newer_trans HNC.out (newer_trans HNZ.out hG)) HEB.out.lt)
           have HTO4 := Lib.hid (HTO.out.next (newer_trans HNC.out (newer_trans HNZ.out hG)))
           have HGB4 := Lib.hid (HGC.out.below (newer_trans HNZ.out hG) HGC.out.lt)
           have hn8 := hn18.2
           clear hG hR hT1 hR1 hfk x0 x1 x2 x3 x4 x5 HTR HRC hnl
           go_wp2_with fail
           go_loopw [32, 33, 34, 35, 36, 37, 38] (fun s32 _ _ _ _ _ _ wr => ∃ k : Nat, k <= days.length /\ s32 = vi k /\ newer w4 wr) (fun s32 _ _ _ _ _ _ _ => days.length - (intOf s32).toNat)
           case atStart => exact ⟨0, Nat.zero_le _, rfl, newer_refl _⟩
           case round =>
            obtain ⟨k, hk0, rfl, hnr⟩ := hrel
            have HNR := Lib.hid hnr
            by_cases hlt : k < days.length
            case pos =>
             have hkd : (k : Int) < days.length := by omega
             obtain ⟨lq, la, lc, el, l0, lr⟩ := vT1_atW (vT1_stW _ _ _ HLT.out.1 hnr) hlt
             rw [HGL'.out] at l0 lr
             have hlvb := HLT.out.2 k hlt
             obtain ⟨v, hv⟩ : ∃ v, v = fl k kk := ⟨_, rfl⟩
             obtain ⟨lb, lo, ela, _, l1⟩ := row1 lr (k := kk) (c := v) (by rw [List.getElem?_map, List.getElem?_range hkl, hv]; rfl)
             rw [ela] at l0
             have hlv2 := HLV.out.2.1
             rw [<- hv] at hlvb
             have hv0 : ¬ v < 0 := by omega
             have hv1 : ¬ 100000 < v := by omega
             have hkn : (kk : Int) < g.cells.length := by omega
             have g0 := (HGB4.out.below hnr HGB4.out.lt).at 0 (v := .slice A g.cells.length cp) rfl
             have HVB := Lib.hid (And.intro hlvb.1 (And.intro hlvb.2 (show v <= 100000 by omega)))
             have HLL := Lib.hid (And.intro l0 l1)
             clear hnr lr hlv2 hlvb hlt ela hv
             subst el
             go_upto_region 30 with fail
             go_quiet (fail)
             go_upto_region 32 with fail
             refine genQ (fun X => newer wr X) (by first | exact newer_drewN _ _ | exact newer_refl _) ?_
             intro wc hb
             have HBC := Lib.hid hb
             have HNC3 := Lib.hid (newer_trans HNR.out hb)
             have hbx := HEB4.out.below HNC3.out HEB4.out.lt
             have y0 := hbx.at 0 (v := .slice t.a t.cs.length t.c) rfl
             have y1 := hbx.at 1 (v := vi t.least) rfl
             have HTD : Hid (SdOk t.sd) := Lib.hid (by rw [HTE.out]; exact HES.out)
             have HWT := Lib.hid (wetterO_any t 0 wc (HTO4.out.next HNC3.out) HTD.out (Int.le_refl _) (by decide))
             clear hb hbx g0 l0 l1
             go_wp2_with fail
             refine HWT.out.mono ?_
             rintro e wd ⟨s4, rfl, hsd, _, how, hb⟩
             rw [wet_zero HTD.out] at hsd
             have HEV : Hid (∀ W, newer wd W -> Whole W wd.heap.size 24 (smC s4) -> EvJ wc wc.heap.size wd.heap.size t.sd ⟨v, v⟩ s4 0 0 W) := Lib.hid (fun W hW hx => ⟨newer_trans hb hW, how.next hW, hx, by rw [hsd]; exact SetTo.zero _ _, Nat.le_refl _⟩)
             clear hb how hsd HWT y0 y1
             go_upto_region 33 with fail
             obtain ⟨eb2, heb⟩ : ∃ q, q = wd.heap.size := ⟨_, rfl⟩
             rw [<- heb] at HEV ⊢
             refine genQ (fun X => EvJ wc wc.heap.size eb2 t.sd ⟨v, v⟩ s4 0 0 X) (HEV.out _ (newer_allocH _ _) (by rw [heb]; exact Whole.made _ _ _)) ?_
             intro we hev
             have HE0 := Lib.hid hev
             obtain ⟨N, hN⟩ : ∃ N, N = t.sd.cols.length := ⟨_, rfl⟩
             obtain ⟨M, hM⟩ : ∃ M, M = t.sd.n := ⟨_, rfl⟩
             have HNM2 := Lib.hid (And.intro hN hM)
             have hNb2 := HTD.out.cols
             have hMb2 := HTD.out.beds
             rw [<- hN] at hNb2
             rw [<- hM] at hMb2
             clear hev HEV heb hN hM
             go_wp2_with fail
             go_loopw [34, 35] (fun s34 _ wx => ∃ (p : Nat) (t5 : Sm), p <= N /\ s34 = vi p /\ EvJ wc wc.heap.size eb2 t.sd ⟨v, v⟩ t5 p 0 wx) (fun s34 _ _ => N - (intOf s34).toNat)
             case atStart => exact ⟨0, s4, Nat.zero_le _, rfl, HE0.out⟩
             case round =>
              obtain ⟨p, t5, hp0, rfl, hj⟩ := hrel
              have HJ := Lib.hid hj
              have hlen := hj.parts
              rw [<- HNM2.out.1] at hlen
              have y0 := hj.bx.at 0 (v := .slice t5.a t5.cs.length t5.c) rfl
              rw [hlen] at y0
              clear hj
              by_cases hlt : p < N
              case pos =>
               have hin : (p : Int) < N := by omega
               go_wp2_with fail
               go_loopw [35] (fun s35 wx => ∃ (j : Nat) (t5 : Sm), j <= M /\ s35 = vi j /\ EvJ wc wc.heap.size eb2 t.sd ⟨v, v⟩ t5 p j wx) (fun s35 _ => M - (intOf s35).toNat)
               case atStart => exact ⟨0, t5, Nat.zero_le _, rfl, HJ.out⟩
               case round =>
                obtain ⟨j, t5, hj0, rfl, hj⟩ := hrel
                have HJ2 := Lib.hid hj
                have hlen := hj.parts
                rw [<- HNM2.out.1] at hlen
                obtain ⟨x, hx, hxl⟩ := hj.col HTD.out (k := p) (by rw [<- HNM2.out.1]; exact hlt)
                rw [<- HNM2.out.2] at hxl
                have z0 := hj.bx.at 0 (v := .slice t5.a t5.cs.length t5.c) rfl
                obtain ⟨tb, q, ea, eg, z1⟩ := hj.own.apart hx
                rw [hlen, ea] at z0
                rw [hxl] at z1
                have HX := Lib.hid (And.intro hx eg)
                have hnx := newer_trans HBC.out hj.nw
                clear hj hx ea eg
                by_cases hlj : j < M
                case pos =>
                 have hjm : (j : Int) < M := by omega
                 have l0 := keep_cell HLL.out.1 hnx
                 have l1 := keep_cell HLL.out.2 hnx
                 obtain ⟨b, hb⟩ : ∃ b, x.beds[j]? = some b := ⟨_, List.getElem?_eq_getElem (by omega)⟩
                 have HPU := Lib.hid (HJ2.out.put HX.out.1 HX.out.2 hb)
                 obtain ⟨q0, eq0, hown⟩ := HJ2.out.own.col x (List.mem_of_getElem? HX.out.1)
                 rw [HX.out.2] at eq0
                 injection eq0 with eq0
                 injection eq0 with eq0
                 subst eq0
                 obtain ⟨b6, b7, bf⟩ := (fun h : Whole8 _ _ _ _ => And.intro h.c6 (And.intro h.c7 h.f)) (whole8 hown rfl hb)
                 have f6 := bf 6
                 have f7 := bf 7
                 clear hown hb bf hnx
                 go_wp2_with fail
                 go_region
                 go_wp2_with fail
                 refine ⟨⟨j + 1, _, by omega, rfl, HPU.out.next (Below.refl _ _).drew⟩, ?_⟩
                 simp [intOf]
                 omega
                case neg =>
                 obtain rfl : j = M := by omega
                 have hjm : ¬ (j : Int) < j := by omega
                 have HRO := Lib.hid (HJ2.out.row HTD.out (by rw [<- HNM2.out.1]; exact hlt) (by rw [<- HNM2.out.2]; exact Nat.le_refl _))
                 clear hlj hnx
                 go_wp2_with fail
                 refine ⟨⟨p + 1, t5, by omega, rfl, HRO.out⟩, ?_⟩
                 simp [intOf]
                 omega
              case neg =>
               obtain rfl : p = N := by omega
               have hin : ¬ (p : Int) < p := by omega
               clear hlt
               go_upto_region 40 with fail
               obtain ⟨wl2, rfl⟩ : ∃ x, x = wr := ⟨_, rfl⟩
               have hte := HJ.out.stt.all (by rw [<- HNM2.out.1]; exact Nat.le_refl _)
               rw [HTE.out, set_set] at hte
               have HT5 := Lib.hid hte
               have HS5 : Hid (SdOk t5.sd) := Lib.hid (by rw [hte]; exact set_ok ⟨HVB.out.1, Int.le_refl _, HVB.out.2.2⟩ HSD.out)
               have HF5 : Hid (SmFew t5) := Lib.hid (thinS_few (by rw [hte, set_thin]; exact HTS.out)).1
               have hle5 : t5.sd.least <= (t5.sd.cols.length : Int) := by
                rw [hte]
                show s.least <= ((setS s.sd ⟨v, v⟩).cols.length : Int)
                rw [show (setS s.sd ⟨v, v⟩).cols.length = s.sd.cols.length by simp [setS], sd_len]
                exact HLC.out
               have HNL2 := Lib.hid (newer_trans HNC3.out HJ.out.nw)
               have HO5 := Lib.hid HJ.out.own.ok
               have HEB2 := Lib.hid HJ.out.bx
               have hbl := newer_trans HN4.out HNL2.out
               have HPA := Lib.hid (path_any t5 bs BA bc wl2 HO5.out ((HRW.out.2.2.below hbl).more hbl.size) HS5.out hle5)
               clear y0
               have x0 := HEB2.out.at 0 (v := .slice t5.a t5.cs.length t5.c) rfl
               have x1 := HEB2.out.at 1 (v := vi t5.least) rfl
               clear hte hle5 hbl hlen hin
               go_wp2_with fail
               refine HPA.out.mono ?_
               rintro e wu ⟨u, rfl, huo, ⟨k0, l, hf, hl, hsf⟩, hb⟩
               have hn3 := newer_allocH wu (.cells (suC u) 69)
               have HU := Lib.hid (And.intro hb (HEB2.out.below hb HEB2.out.lt))
               have HUO := Lib.hid huo
               have HSF := Lib.hid (And.intro hf (And.intro hl hsf))
               clear hb huo x0 x1 HPA hf hl hsf
               go_upto_region 41 with fail
               obtain ⟨ub, hub⟩ : ∃ q, q = wu.heap.size := ⟨_, rfl⟩
               rw [<- hub]
               refine genQ (fun X => newer wl2 X /\ Whole X eb2 24 (smC t5) /\ Whole X ub 69 (suC u) /\ SuOk u X) ⟨newer_trans HU.out.1 hn3, HU.out.2.below hn3 HU.out.2.lt, by rw [hub]; exact Whole.made _ _ _, HUO.out.next hn3⟩ ?_
               rintro wv ⟨hnv, htv, huv, huo⟩
               have HV := Lib.hid hnv
               obtain ⟨hf, hl, hsf⟩ := HSF.out
               obtain ⟨eb, e5, r0, r1, hk⟩ := surf_known HS5.out hf hl hsf
               have HK := Lib.hid hk
               have hul : u.beds.length <= 1000 := by have h1 := hsf.2.1; have h2 := HS5.out.cols; rw [sd_len] at h2; rw [hl, List.length_map]; omega
               have HUK := Lib.hid (And.intro hul huo)
               have HFW := HF5
               have HSO := Lib.hid (HO5.out.next hnv)
               have HFP : Hid (∀ (s2 : Sm) (u2 : Su) (B : Option Addr) (d : Nat) (tl : List Rl) W, s2.sd = t5.sd -> SmOk s2 W -> u2.frm = u.frm -> u2.beds = u.beds -> SuOk u2 W -> Row rlL 3 W W.heap.size B tl -> tl.length <= 1000 -> Calls Tryz.prog 20 #[smV s2, suV u2, .slice B tl.length d] W fun e w' => e = .returned (.tuple #[vi (facO t5.sd u.frm u.beds tl).1, vi (facO t5.sd u.frm u.beds tl).2]) /\ newer W w') := Lib.hid (fun s2 u2 B d tl W h1 h2 h3 h4 h5 h6 h8 => by
                have h7 := factorP_any s2 u2 tl B d W h2 (few_sd h1 HFW.out) h5 (by rw [h4]; exact HUK.out.1) h8 h6
                rw [h1, h3, h4] at h7
                exact h7)
               have hb3 := newer_trans HN4.out (newer_trans HNL2.out hnv)
               have hhr := (HRW.out.2.1.below hb3).more hb3.size
               have HPI : Hid (∀ W, newer wv W -> SuOk u W -> Calls Tryz.prog 23 #[smV t5, suV u, .slice HA hs.length hc] W fun e w' => ∃ A c tl, e = .returned (.slice A (tl : List Rl).length c) /\ Row rlL 3 w' w'.heap.size A tl /\ FacK t5.sd u.frm u.beds e5 r0 r1 tl /\ newer W w') := Lib.hid (fun W hW hu => by
                refine (picked_any t5 u k0 l hs HA hc W (HSO.out.next hW) HS5.out hu hf hl hsf ((hhr.below hW).more hW.size)).mono ?_
                rintro e w' ⟨tl, A, c, rfl, h1, h2, h3⟩
                rw [<- eb] at h2
                have h4 := HK.out.fit tl h2
                have h5 := fits_len h2
                rw [eb, bedsL_len] at h5
                have h6 := HUK.out.1
                rw [hl, List.length_map] at h6
                exact ⟨A, c, tl, rfl, h1, ⟨by omega, fun h => by rw [h4.1 h], h4.2⟩, h3⟩)
               have x0 := htv.at 0 (v := .slice t5.a t5.cs.length t5.c) rfl
               have x1 := htv.at 1 (v := vi t5.least) rfl
               have u0 := huv.at 0 (v := vi u.frm) rfl
               have u1 := huv.at 1 (v := .slice u.a u.beds.length u.c) rfl
               have HR1 : Hid (e5 = 0 -> f <= r0) := Lib.hid (fun h => by
                obtain ⟨h1, h2⟩ := hk.low h
                have h3 := set_below HSD.out HWA.out HVB.out.1 HVB.out.2.2 (Int.le_trans HVB.out.2.1 (Int.le_of_eq HLV2.out)) HM2.out (by rw [<- HT5.out]; exact h1)
                rw [<- HT5.out] at h3
                omega)
               clear hnv htv huv huo hf hl hsf eb hk hul hhr hn3 hub HU HUO hb3
               go_upto_region 41 with fail
               refine wp_words (by kernel_rfl) (region_told 14 (by kernel_rfl) (by kernel_rfl) (fun W => Below wv.heap.size wv W) newer (pickD [vIs (smV t5), vSlo t5.sd, vIs (suV u), vSuf u.frm u.beds, vIs (smV t5), vIs (suV u), vIs (.slice HA hs.length hc), vTruK t5.sd u.frm u.beds e5 r0 r1, vTruK t5.sd u.frm u.beds e5 r0 r1, vFac e5 r0 r1, vFac e5 r0 r1, vFp e5 r0 r1, vFq e5, vFp e5 r0 r1]) (fun h k => newer_trans h k) (pickD_stable _ ⟨vIs_st, vSlo_st, vIs_st, vSuf_st, vIs_st, vIs_st, vIs_st, vTruK_st, vTruK_st, vFac_st, vFac_st, vFp_st, vFq_st, vFp_st, trivial⟩) (Below.refl _ wv).drew (Below.refl _ _) ?_ ?_)
               ·refine ⟨?_, ?_, ?_, ?_, ?_, ?_, ?_, ?_, ?_, ?_, ?_, ?_, ?_, ?_, trivial⟩
                ·intro a W hG hR hO hp; have h33 := hO.slot 33 (by kernel_rfl); have c0 := keep_cell x0 hG; have c1 := keep_cell x1 hG; refine kY (v := smV t5) hG rfl ?_; simp [slotOf] at h33; simp [execOp, go_sem, h33, c0, c1]
                ·intro a W hG hR hO hp
                 have h268 : slotOf a 268 = smV t5 := hp.1
                 refine wp_enters (f := 11) (args := #[smV t5]) ?_ ((lawSlope t5 W (HSO.out.next hG) HFW.out).mono ?_)
                 ·simp [slotOf] at h268
                  simp [go_sem, h268]
                 ·rintro e w' ⟨s2, rfl, h1, h2, hb⟩
                  exact ⟨_, rfl, _, rfl, ⟨s2, rfl, h1, h2⟩, hb, below_next hG hb⟩
                ·intro a W hG hR hO hp; have h36 := hO.slot 36 (by kernel_rfl); have c0 := keep_cell u0 hG; have c1 := keep_cell u1 hG; refine kY (v := suV u) hG rfl ?_; simp [slotOf] at h36; simp [execOp, go_sem, h36, c0, c1]
                ·intro a W hG hR hO hp
                 have h270 : slotOf a 270 = suV u := hp.1
                 refine wp_enters (f := 21) (args := #[suV u]) ?_ ((lawSurface u W (HUK.out.2.next hG) HUK.out.1).mono ?_)
                 ·simp [slotOf] at h270
                  simp [go_sem, h270]
                 ·rintro e w' ⟨u2, rfl, h1, h2, h3, hb⟩
                  exact ⟨_, rfl, _, rfl, ⟨u2, rfl, h1, h2, h3⟩, hb, below_next hG hb⟩
                ·intro a W hG hR hO hp; have h33 := hO.slot 33 (by kernel_rfl); have c0 := keep_cell x0 hG; have c1 := keep_cell x1 hG; refine kY (v := smV t5) hG rfl ?_; simp [slotOf] at h33; simp [execOp, go_sem, h33, c0, c1]
                ·intro a W hG hR hO hp; have h36 := hO.slot 36 (by kernel_rfl); have c0 := keep_cell u0 hG; have c1 := keep_cell u1 hG; refine kY (v := suV u) hG rfl ?_; simp [slotOf] at h36; simp [execOp, go_sem, h36, c0, c1]
                ·exact fun a W hG _ hO _ => kM 6 rfl (hO.slot 6 (by kernel_rfl)) rfl hG
                ·intro a W hG hR hO hp
                 have h272 : slotOf a 272 = smV t5 := hp.1
                 have h273 : slotOf a 273 = suV u := hp.2.1
                 have h274 : slotOf a 274 = .slice HA hs.length hc := hp.2.2.1
                 refine wp_enters (f := 23) (args := #[smV t5, suV u, .slice HA hs.length hc]) ?_ ((HPI.out W hG (HUK.out.2.next hG)).mono ?_)
                 ·simp [slotOf] at h272 h273 h274
                  simp [go_sem, h272, h273, h274]
                 ·rintro e w' ⟨A, c, tl, rfl, h1, h2, hb⟩
                  exact ⟨_, rfl, _, rfl, ⟨A, c, tl, rfl, h1, h2⟩, hb, below_next hG hb⟩
                ·intro a W hG hR hO hp
                 have h275 := hp.1
                 obtain ⟨A, c, tl, h275, hr1, hk1⟩ := h275
                 refine wp_enters (f := 22) (args := #[.slice A tl.length c]) ?_ ((lawTruth tl A c W hk1.1 hr1).mono ?_)
                 ·simp [slotOf] at h275
                  simp [go_sem, h275]
                 ·rintro e w' ⟨B, d, rfl, h1, hb⟩
                  exact ⟨_, rfl, _, rfl, ⟨B, d, tl, rfl, h1, hk1⟩, hb, below_next hG hb⟩
                ·intro a W hG hR hO hp
                 have h269 := hp.1
                 have h271 := hp.2.1
                 have h276 := hp.2.2.1
                 obtain ⟨s2, h269, hd2, hs2⟩ := h269
                 obtain ⟨u2, h271, hf2, hl2, hu2⟩ := h271
                 obtain ⟨B, c, tl, h276, hr2, hk2⟩ := h276
                 have hfp := HFP.out s2 u2 B c tl W hd2 hs2 hf2 hl2 hu2 hr2 hk2.1
                 refine wp_enters (f := 20) (args := #[smV s2, suV u2, .slice B tl.length c]) ?_ (hfp.mono ?_)
                 ·simp [slotOf] at h269 h271 h276
                  simp [go_sem, h269, h271, h276]
                 ·rintro e w' ⟨rfl, hb⟩
                  exact ⟨_, rfl, _, rfl, ⟨_, _, rfl, hk2.2.1, hk2.2.2⟩, hb, below_next hG hb⟩
                ·intro a W hG hR hO hp; have h277 := hp.1; obtain ⟨p, q, h277, g1, g2⟩ := h277; refine wp_yields (v := .tuple #[vi p, vi q]) ?_ ⟨_, rfl, ⟨p, q, rfl, g1, g2⟩, Below.refl _ _, hG⟩; simp [slotOf] at h277; simp [execOp, go_sem, h277]
                ·intro a W hG hR hO hp; have h267 := hp.1; obtain ⟨p, q, h267, g1, g2⟩ := h267; refine wp_yields (v := vi p) ?_ ⟨_, rfl, ⟨p, rfl, fun h => (g2 h).2⟩, Below.refl _ _, hG⟩; simp [slotOf] at h267; simp [execOp, go_sem, h267]
                ·intro a W hG hR hO hp; have h267 := hp.1; obtain ⟨p, q, h267, g1, g2⟩ := h267; refine wp_yields (v := vi q) ?_ ⟨_, rfl, ⟨q, rfl, g1, fun h => (g2 h).1⟩, Below.refl _ _, hG⟩; simp [slotOf] at h267; simp [execOp, go_sem, h267]
                ·intro a W hG hR hO hp; have h278 := hp.1; obtain ⟨p, h278, g1⟩ := h278; refine wp_yields (v := vi p) ?_ ⟨_, rfl, ⟨p, rfl, g1⟩, Below.refl _ _, hG⟩; simp [slotOf] at h278; simp [execOp, go_sem, h278]
               ·intro w5 hG hR
                rintro _ rfl _ - _ rfl _ - _ rfl _ rfl _ rfl _ - _ - _ - _ - _ - _ ⟨qn, rfl, qn7, qn0⟩ _ ⟨pn, rfl, pn0⟩
                change wpList _ _ _ _ _ _
                simp only [Act.put, List.setIfInBounds_toArray, List.set_cons_zero, List.set_cons_succ, List.drop_succ_cons, List.drop_zero]
                have HNE2 := Lib.hid (newer_trans HNL2.out (newer_trans HV.out hG))
                clear hG hR x0 x1 u0 u1 HUK HFP HPI
                rcases HK.out.eor with rfl | rfl
                ·obtain rfl := qn7 rfl
                 clear pn0 qn7 qn0
                 go_wp2_with fail
                 refine ⟨⟨k + 1, by omega, rfl, HNE2.out⟩, ?_⟩
                 simp [intOf]
                 omega
                ·obtain rfl := qn0 rfl
                 obtain ⟨hp2, hp1⟩ := pn0 rfl
                 have hr1 := HR1.out rfl
                 have hge2 : ¬ pn < f := by omega
                 clear pn0 qn7 qn0 hp2 hp1 hr1
                 go_wp2_with fail
                 refine ⟨⟨k + 1, by omega, rfl, HNE2.out⟩, ?_⟩
                 simp [intOf]
                 omega
            case neg =>
             obtain rfl : k = days.length := by omega
             have hge : ¬ (days.length : Int) < days.length := by omega
             have HN5 := Lib.hid (newer_trans HN4.out hnr)
             clear hlt hnr hk0
             go_wp2_with fail
             refine (drains_any _).mono ?_
             rintro e wk ⟨rfl, hb⟩
             have HK := Lib.hid (newer_trans HN5.out hb)
             clear hb
             go_wp2_with fail
             go_ret
             exact ⟨rfl, HK.out⟩
end

section
open Go.ChangeShapes Go.WideShapes Go.ChangeAt Go.RowKit Go.Deep
set_option maxRecDepth 100000 in
set_option maxHeartbeats 1000000 in
theorem topDrained_lifted (os : Os) (started : os.Started) (H : Type) (enc : TypeId × Value -> H) :
  ReturnsInHanded {} Tryz.checked os 3 .any (Rows.topDrainedSpec.pre6 enc Tryz.prog Tryz.f3 Rows.topDrainedRow.domain false) (Rows.topDrainedSpec.post enc Tryz.prog Tryz.f3 false true false false) := by
 refine returnsInHanded_of_change (C := Tryz.checked) Tryz.own started (by kernel_rfl) Tryz.func3
  (ChangeSpec.witness6 (enc := enc) (C := Tryz.checked) false ⟨#[], #[.agg #[.slice none 0 0, .int .i64 0], .agg #[.slice none 0 0, .int .i64 0, .int .i64 0, .int .i64 0, .int .i64 0, .int .i64 0], .slice none 0 0, .int .u8 0, .int .u16 0, .slice none 0 0, .slice none 0 0, .slice none 0 0], []⟩ 8 (by kernel_rfl) (by kernel_rfl) (by kernel_rfl) (by kernel_rfl)) ?_
 intro W base args ds gs before hval0 hW hcnd _
 have hval : ∀ (j : Nat) t v, Tryz.f3.params[j]? = some t -> args[j]? = some v -> Value.okWide Tryz.prog W .any base t v := hval0
 have hW' := hW
 obtain ⟨p, q, hA0, hV, rfl, hfz, hnd⟩ := hW
 have hA : DataW.TrodAll enc Tryz.prog W 0 (fun _ => true) true Tryz.f3.params.toList args.toList ds p := hA0
 rw [Tryz.params3] at hA hval
 obtain ⟨v0, vs0, d0, ds0, p0, q0, hargs, rfl, rfl, h0, r0⟩ := trodAll_cons hA
 obtain ⟨v1, vs1, d1, ds1, p1, q1, rfl, rfl, rfl, h1, r1⟩ := trodAll_cons r0
 obtain ⟨v2, vs2, d2, ds2, p2, q2, rfl, rfl, rfl, h2, r2⟩ := trodAll_cons r1
 obtain ⟨v3, vs3, d3, ds3, p3, q3, rfl, rfl, rfl, h3, r3⟩ := trodAll_cons r2
 obtain ⟨v4, vs4, d4, ds4, p4, q4, rfl, rfl, rfl, h4, r4⟩ := trodAll_cons r3
 obtain ⟨v5, vs5, d5, ds5, p5, q5, rfl, rfl, rfl, h5, r5⟩ := trodAll_cons r4
 obtain ⟨v6, vs6, d6, ds6, p6, q6, rfl, rfl, rfl, h6, r6⟩ := trodAll_cons r5
 obtain ⟨v7, vs7, d7, ds7, p7, q7, rfl, rfl, rfl, h7, r7⟩ := trodAll_cons r6
 obtain ⟨rfl, rfl, rfl⟩ := trodAll_nil r7
 obtain rfl : args = #[v0, v1, v2, v3, v4, v5, v6, v7] := by cases args; simp_all
 obtain ⟨rfl, rfl⟩ := trodVars_none hV
 obtain ⟨c0, rfl, hs0⟩ := okWide_struct Tryz.underlying24 (hval 0 24 v0 rfl rfl)
 have k0 := h0
 have lt0 : ∀ x ∈ p0, x.block < W.heap.size := by obtain ⟨m, hm⟩ := k0; exact DataW.trod_lt m _ _ _ hm
 obtain ⟨g0, e0, hrow0⟩ : ∃ p : Sm, c0.toList = (smC p).toList /\ SmOk p W := by
  obtain ⟨fuel, hf⟩ := h0
  exact slope_open hf
 obtain rfl : c0 = smC g0 := Array.toList_inj.1 e0
 obtain ⟨c1, rfl, hs1⟩ := okWide_struct Tryz.underlying29 (hval 1 29 v1 rfl rfl)
 have k1 := h1
 have lt1 : ∀ x ∈ p1, x.block < W.heap.size := by obtain ⟨m, hm⟩ := k1; exact DataW.trod_lt m _ _ _ hm
 obtain ⟨g1, A1, cp1, e1, hl1, hrow1⟩ : ∃ (g : Gnd) (A : Option Addr) (cp : Nat), c1.toList = [.slice A g.cells.length cp, vi g.slo, vi g.shi, vi g.klo, vi g.khi, vi g.melt] /\ g.cells.length <= maxLen /\ Row cellL 7 W W.heap.size A g.cells := by
  obtain ⟨fuel, hf⟩ := h1
  exact ground_open hf
 obtain rfl : c1 = gndC A1 cp1 g1 := by cases c1; simp_all
 obtain ⟨a2, len2, cap2, rfl⟩ := okWide_slice Tryz.underlying30 (hval 2 30 v2 rfl rfl)
 have k2 := h2
 have lt2 : ∀ x ∈ p2, x.block < W.heap.size := by obtain ⟨m, hm⟩ := k2; exact DataW.trod_lt m _ _ _ hm
 obtain ⟨D2, l2, dp2, e2, hl2, hrow2⟩ : ∃ (D : Option Addr) (l : List Day) (dp : Nat), (Value.slice a2 len2 cap2).cells.toList = [.slice D l.length dp] /\ l.length <= maxLen /\ Row dayL 3 W W.heap.size D l := by
  obtain ⟨fuel, hf⟩ := h2
  exact days_open hf
 simp [Value.cells] at e2
 obtain ⟨rfl, rfl, rfl⟩ := e2
 obtain ⟨a3, rfl, rfl, rfl, w3⟩ := open_int Tryz.underlying5 (hval 3 5 v3 rfl rfl) h3
 obtain ⟨a4, rfl, rfl, rfl, w4⟩ := open_int Tryz.underlying31 (hval 4 31 v4 rfl rfl) h4
 obtain ⟨a5, len5, cap5, rfl⟩ := okWide_slice Tryz.underlying32 (hval 5 32 v5 rfl rfl)
 have k5 := h5
 have lt5 : ∀ x ∈ p5, x.block < W.heap.size := by obtain ⟨m, hm⟩ := k5; exact DataW.trod_lt m _ _ _ hm
 obtain ⟨D5, l5, dp5, e5, hl5, hrow5⟩ : ∃ (D : Option Addr) (l : List Word) (dp : Nat), (Value.slice a5 len5 cap5).cells.toList = [.slice D l.length dp] /\ l.length <= maxLen /\ Row wordL 1 W W.heap.size D l := by
  obtain ⟨fuel, hf⟩ := h5
  exact words_open hf
 simp [Value.cells] at e5
 obtain ⟨rfl, rfl, rfl⟩ := e5
 obtain ⟨a6, len6, cap6, rfl⟩ := okWide_slice Tryz.underlying32 (hval 6 32 v6 rfl rfl)
 have k6 := h6
 have lt6 : ∀ x ∈ p6, x.block < W.heap.size := by obtain ⟨m, hm⟩ := k6; exact DataW.trod_lt m _ _ _ hm
 obtain ⟨D6, l6, dp6, e6, hl6, hrow6⟩ : ∃ (D : Option Addr) (l : List Hlf) (dp : Nat), (Value.slice a6 len6 cap6).cells.toList = [.slice D l.length dp] /\ l.length <= maxLen /\ Row hwL 1 W W.heap.size D l := by
  obtain ⟨fuel, hf⟩ := h6
  exact halves_open hf
 simp [Value.cells] at e6
 obtain ⟨rfl, rfl, rfl⟩ := e6
 obtain ⟨a7, len7, cap7, rfl⟩ := okWide_slice Tryz.underlying33 (hval 7 33 v7 rfl rfl)
 have k7 := h7
 have lt7 : ∀ x ∈ p7, x.block < W.heap.size := by obtain ⟨m, hm⟩ := k7; exact DataW.trod_lt m _ _ _ hm
 obtain ⟨D7, l7, dp7, e7, hl7, hrow7⟩ : ∃ (D : Option Addr) (l : List Byt) (dp : Nat), (Value.slice a7 len7 cap7).cells.toList = [.slice D l.length dp] /\ l.length <= maxLen /\ Row byL 1 W W.heap.size D l := by
  obtain ⟨fuel, hf⟩ := h7
  exact bytes_open hf
 simp [Value.cells] at e7
 obtain ⟨rfl, rfl, rfl⟩ := e7
 have hb3 : 0 <= a3 /\ a3 <= 255 := by
  have h := w3
  simp [Lit.wf] at h
  exact h
 obtain ⟨n3, rfl⟩ : ∃ n : Nat, a3 = n := ⟨a3.toNat, by omega⟩
 have hb4 : 0 <= a4 /\ a4 <= 65535 := by
  have h := w4
  simp [Lit.wf] at h
  exact h
 obtain ⟨n4, rfl⟩ : ∃ n : Nat, a4 = n := ⟨a4.toNat, by omega⟩
 clear hA0 hval0
 refine (topDrained_walk g0 g1 A1 cp1 l2 a2 cap2 n3 n4 l5 a5 cap5 l6 a6 cap6 l7 a7 cap7 W hrow0 hrow1 hrow2 (by omega) (by omega) hl5 hrow5 hrow6 hrow7).mono fun e W' ⟨he, bel⟩ => ?_
 subst he
 exact ⟨_, rfl, _, _, _, [], _, [], hW', trodAll_mk1 (shut_bool Tryz.underlying4 _), (trodAll_cons_mk (Below.trod Tryz.laidOut (by kernel_rfl) (of_decide_eq_true (by kernel_rfl)) k0 bel lt0) (trodAll_cons_mk (Below.trod Tryz.laidOut (by kernel_rfl) (of_decide_eq_true (by kernel_rfl)) k1 bel lt1) (trodAll_cons_mk (Below.trod Tryz.laidOut (by kernel_rfl) (of_decide_eq_true (by kernel_rfl)) k2 bel lt2) (trodAll_cons_mk (shut_int Tryz.underlying5 w3) (trodAll_cons_mk (shut_int Tryz.underlying31 w4) (trodAll_cons_mk (Below.trod Tryz.laidOut (by kernel_rfl) (of_decide_eq_true (by kernel_rfl)) k5 bel lt5) (trodAll_cons_mk (Below.trod Tryz.laidOut (by kernel_rfl) (of_decide_eq_true (by kernel_rfl)) k6 bel lt6) (trodAll_cons_mk (Below.trod Tryz.laidOut (by kernel_rfl) (of_decide_eq_true (by kernel_rfl)) k7 bel lt7) trodAll_mk0)))))))), rfl, bel.frame _, fun h => by cases h⟩
theorem topDrained_holds : Rows.TopDrainedSaid :=
 OpenClaim.holds_of_wide 3 Tryz.f3 rfl rfl rfl rfl rfl rfl rfl ⟨rfl, rfl, rfl, rfl, rfl⟩ rfl rfl rfl rfl rfl (by kernel_rfl) Tryz.func3 (by kernel_rfl)
  (of_decide_eq_true (by kernel_rfl)) (by unfold Func.isWrapper; first | (rw [if_pos (by decide +kernel)]; kernel_rfl) | (rw [if_neg (by decide +kernel)]; exact ⟨rfl, rfl⟩))
  (fun os started H enc _ => topDrained_lifted os started H enc)
end

#print axioms topDrained_holds

end Go.Proofs.YtcdhhfgpdokkoaaGreat
