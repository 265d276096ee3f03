/- What the last text of this chain needs: CL, BG, BG2. -/
import Derived.Test.YtkenokpobbichaaZL09
namespace Go.Proofs.Ytkenokpobbichaa
section
open Go.ChangeShapes Go.WideShapes Go.ChangeAt Go.RowKit Go.Shelf Go.Deep
theorem Try.cells89 : Try.prog.cellsOf 89 = 1 := by kernel_rfl
section
variable {H : Type} {enc : TypeId × Value → H} {w : World} {base : Nat} {spare : Nat → Bool} {held : Bool} {fuel : Nat} {cs : List Value} {x : DataW H × List MemPlace}
/-- A slice of elements whose cells are known by their type reads as a list. -/
theorem ln_cells (h : DataW.trod enc Try.prog w base spare held fuel 25 cs = some x) : ∃ y : Ln, cs = lnL y ∧ (y.l.length ≤ maxLen ∧ Row intL 1 w w.heap.size y.a y.l) := by
  obtain ⟨A, l, cp, e, hl, hr⟩ := ints_open h
  exact ⟨⟨l, A, cp⟩, e, hl, hr⟩
theorem rw_cells (h : DataW.trod enc Try.prog w base spare held fuel 89 cs = some x) : ∃ y : Rw, cs = rwL y ∧ (Row lnL 1 w w.heap.size y.a y.ls ∧ ∀ z ∈ y.ls, Row intL 1 w w.heap.size z.a z.l) := by
  obtain ⟨A, l, cp, e, hl, hr, hc⟩ := open_rowP (ec := lnL) Try.underlying89 Try.cells25 (fun _ => rfl) (by omega) ln_cells h
  exact ⟨⟨l, A, cp⟩, e, hr, fun z hz => (hc z hz).2⟩
theorem table_open (h : DataW.trod enc Try.prog w base spare held fuel 87 cs = some x) : ∃ (A : Option Addr) (ts : List Rw) (cp : Nat), cs = [.slice A ts.length cp] ∧ ts.length ≤ maxLen ∧ TbOk ts A w := by
  obtain ⟨A, l, cp, e, hl, hr, hc⟩ := open_rowP (ec := rwL) Try.underlying87 Try.cells89 (fun _ => rfl) (by omega) rw_cells h
  exact ⟨A, l, cp, e, hl, hr, fun y hy => (hc y hy).1, fun y hy => (hc y hy).2⟩
end
theorem few_map {ts xs : List Rw} (h : xs.map Rw.d = ts.map Rw.d) (ht : TbFew ts) : TbFew xs := by
  have hm : ∀ x ∈ xs, ∃ t ∈ ts, t.d = x.d := fun x hx => by
    have h1 : x.d ∈ xs.map Rw.d := List.mem_map.2 ⟨x, hx, rfl⟩
    rw [h] at h1
    exact List.mem_map.1 h1
  refine ⟨?_, fun x hx => ?_, fun x hx y hy => ?_⟩
  · have := congrArg List.length h
    simp only [List.length_map] at this
    have := ht.rows
    omega
  · obtain ⟨t, ht1, ht2⟩ := hm x hx
    have := congrArg List.length ht2
    unfold Rw.d at this
    simp only [List.length_map] at this
    have := ht.lss t ht1
    omega
  · obtain ⟨t, ht1, ht2⟩ := hm x hx
    have h1 : y.l ∈ x.d := List.mem_map.2 ⟨y, hy, rfl⟩
    rw [← ht2] at h1
    obtain ⟨z, hz, e⟩ := List.mem_map.1 h1
    have := ht.nums t ht1 z hz
    rw [e] at this
    exact this
theorem few_tab {s : Sd} {f : Int} (hs : SdOk s) {xs : List Rw} (h : xs.map Rw.d = tabD s f) : TbFew xs := by
  have h1 := hs.cols
  have h2 := hs.beds
  have h3 := hs.least
  have hK : s.K ≤ 4 := by unfold Sd.K; omega
  refine ⟨?_, fun x hx => ?_, fun x hx y hy => ?_⟩
  · have := congrArg List.length h
    unfold tabD at this
    simp only [List.length_map, List.length_range] at this
    omega
  · have h4 : x.d ∈ xs.map Rw.d := List.mem_map.2 ⟨x, hx, rfl⟩
    rw [h] at h4
    obtain ⟨r, _, e⟩ := List.mem_map.1 h4
    have := congrArg List.length e
    unfold Rw.d at this
    simp only [List.length_map, List.length_range] at this
    omega
  · have h4 : x.d ∈ xs.map Rw.d := List.mem_map.2 ⟨x, hx, rfl⟩
    rw [h] at h4
    obtain ⟨r, _, e⟩ := List.mem_map.1 h4
    have h5 : y.l ∈ x.d := List.mem_map.2 ⟨y, hy, rfl⟩
    rw [← e] at h5
    obtain ⟨k, _, e2⟩ := List.mem_map.1 h5
    have := congrArg List.length e2
    simp only [List.length_map, List.length_range] at this
    omega
/-- What Worst returns of a valid slope: its surface has the least factor. -/
structure WorU (d : Sd) (frm : Int) (l : List Int) : Prop where
  se : wE d = 0 → spanE d frm l = 0 ∧ spanP d frm l false = wV d
  ln : l.length ≤ 1000
theorem worst_sf (s : Sm) (d : Sd) (w : World) (hok : SmOk s w) (hd : s.sd = d) (hs : SdOk d) : Calls Try.prog 25 #[smV s] w fun e w' => ∃ u : Su, e = .returned (.tuple #[.agg #[vi u.frm, .slice u.a u.beds.length u.c], vi (wV d), vi (wE d)]) ∧ SuOk u w' ∧ WorU d u.frm u.beds ∧ newer w w' := by
  subst hd
  refine (worst_any s w hok (few_of hs)).mono ?_
  rintro e w' ⟨h1, h2⟩
  unfold worstOut at h1
  rw [sdOk_iff.2 hs] at h1
  rcases worst_of _ (rfl : worstS s.sd = worstS s.sd) with ⟨hw, h3, h4⟩ | ⟨⟨k, l⟩, v, hw, h3, h4⟩
  · rw [hw] at h1
    rw [h3, h4]
    exact ⟨⟨0, [], none, 0⟩, h1, fun h => absurd rfl h, ⟨fun h => (by rw [h3] at h; cases h), Nat.zero_le _⟩, h2⟩
  · obtain ⟨g1, g2, _, _, g5⟩ := worst_surf hs hw
    rw [hw] at h1
    obtain ⟨A, c, h5, h6⟩ := h1
    obtain ⟨h7, h8⟩ := row_nats (L := l.map fun x : Nat => (x : Int)) rfl h6
    rw [h3, h4]
    exact ⟨⟨k, l.map fun x : Nat => (x : Int), A, c⟩, by rw [h5]; simp, h8, ⟨fun _ => ⟨g1, by rw [g2, h4]⟩, by show (l.map fun x : Nat => (x : Int)).length ≤ 1000; rw [h7]; omega⟩, h2⟩
theorem worst_chain (s : Sm) (d : Sd) (w : World) (hok : SmOk s w) (hd : s.sd = d) (hs : SdOk d) : Calls Try.prog 19 #[smV s] w fun e w' => ∃ s2 : Sm, e = .returned (smV s2) ∧ (∀ W, newer w' W → Calls Try.prog 25 #[smV s2] W fun e w3 => ∃ u : Su, e = .returned (.tuple #[.agg #[vi u.frm, .slice u.a u.beds.length u.c], vi (wV d), vi (wE d)]) ∧ SuOk u w3 ∧ WorU d u.frm u.beds ∧ newer W w3) ∧ newer w w' := by
  subst hd
  refine (lawSlope s w hok (few_of hs)).mono ?_
  rintro e w' ⟨s2, rfl, h1, h2, h3⟩
  exact ⟨s2, rfl, fun W hW => worst_sf s2 s.sd W (h2.next hW) h1 hs, h3⟩
/-- What Proof returns of a valid slope. -/
theorem proof_chain (s : Sm) (d : Sd) (f g : Int) (w : World) (hok : SmOk s w) (hd : s.sd = d) (hs : SdOk d) (hg : enoughN d f = g) : Calls Try.prog 19 #[smV s] w fun e w' => ∃ s2 : Sm, e = .returned (smV s2) ∧ (∀ W, newer w' W → Calls Try.prog 49 #[smV s2, vi f] W fun e w3 => ∃ (xs : List Rw) (A : Option Addr) (c : Nat), e = .returned (.tuple #[.slice A xs.length c, vi g]) ∧ TbOk xs A w3 ∧ TbFew xs ∧ (g = 0 → xs.map Rw.d = tabD d f) ∧ (g ≠ 0 → xs = []) ∧ newer W w3) ∧ newer w w' := by
  subst hd
  refine (lawSlope s w hok (few_of hs)).mono ?_
  rintro e w' ⟨s2, rfl, h1, h2, h3⟩
  refine ⟨s2, rfl, fun W hW => ?_, h3⟩
  refine (proof_any s2 f W (h2.next hW) (few_of (by rw [h1]; exact hs))).mono ?_
  intro e w3 h4
  unfold proofOut at h4
  rw [h1, hg] at h4
  by_cases h0 : g = 0
  · rw [if_pos h0] at h4
    obtain ⟨xs, A, c, g1, g2, g3, g4⟩ := h4
    exact ⟨xs, A, c, by rw [g1, h0], g3.ok, few_tab hs g2, fun _ => g2, fun h => absurd h0 h, g4⟩
  · rw [if_neg h0] at h4
    exact ⟨[], none, 0, h4.1, ⟨fun h => absurd rfl h, fun _ h => absurd h (List.not_mem_nil), fun _ h => absurd h (List.not_mem_nil)⟩, ⟨Nat.zero_le _, fun _ h => absurd h (List.not_mem_nil), fun _ h => absurd h (List.not_mem_nil)⟩, fun h => absurd h h0, fun _ => rfl, h4.2⟩
/-- ProveLeast behind the program's slope. -/
theorem prove_chain (s : Sm) (d : Sd) (f : Int) (D : List (List (List Int))) (p : Bool) (w : World) (hok : SmOk s w) (hd : s.sd = d) (few : SmFew s) (hp : provO d f D = p) : Calls Try.prog 19 #[smV s] w fun e w' => ∃ s2 : Sm, e = .returned (smV s2) ∧ (∀ (ts : List Rw) (A : Option Addr) (c : Nat) W, newer w' W → TbOk ts A W → TbFew ts → ts.map Rw.d = D → Calls Try.prog 51 #[smV s2, vi f, .slice A ts.length c] W fun e w3 => e = .returned (.bool p) ∧ newer W w3) ∧ newer w w' := by
  subst hd
  refine (lawSlope s w hok few).mono ?_
  rintro e w' ⟨s2, rfl, h1, h2, h3⟩
  refine ⟨s2, rfl, fun ts A c W hW ht tf hD => ?_, h3⟩
  have h4 := prove_any s2 f ts A c W (h2.next hW) (few_sd h1 few) ht tf
  rw [h1, hD, hp] at h4
  exact h4
end

section
open Go.RowKit Go.Shelf Go.Deep
/-- What lies in memory while a surface is made. -/
structure PtJ (s : Sm) (ws : List Byt) (wa : Option Addr) (wc : Nat) (k : Nat) (l : List Nat) (A : Option Addr) (c ub : Nat) (w W : World) : Prop where
  nw : newer w W
  xb : Whole W w.heap.size 24 (smC s)
  wb : Whole W (w.heap.size + 1) 65 #[.slice wa ws.length wc]
  rb : Whole W (w.heap.size + 1 + 1) 27 #[vi 0, .slice none 0 0]
  bx : Whole W ub 27 #[vi k, .slice A l.length c]
  lo : w.heap.size + 1 + 1 < ub
  own : W.ownsRow w.heap.size 3 1 (.slice A l.length c) l.length (l.map fun x : Nat => vi x)
theorem PtJ.next {s : Sm} {ws : List Byt} {wa : Option Addr} {wc k : Nat} {l : List Nat} {A : Option Addr} {c ub : Nat} {w W W' : World} (h : PtJ s ws wa wc k l A c ub w W) (hb : newer W W') : PtJ s ws wa wc k l A c ub w W' :=
  ⟨newer_trans h.nw hb, h.xb.below hb h.xb.lt, h.wb.below hb h.wb.lt, h.rb.below hb h.rb.lt, h.bx.below hb h.bx.lt, h.lo, own_below h.own hb⟩
theorem PtJ.app {s : Sm} {ws : List Byt} {wa : Option Addr} {wc k : Nat} {l : List Nat} {A : Option Addr} {c ub : Nat} {w W W' : World} (h : PtJ s ws wa wc k l A c ub w W) {z g2 c2 : Nat}
    (hown : W'.ownsRow w.heap.size 3 1 (.slice (some ⟨g2, 0, none⟩) (l.length + 1) c2) (l.length + 1) ((l.map fun x : Nat => vi x) ++ [vi z])) (hw : (A = some ⟨g2, 0, none⟩ ∧ c2 = c ∧ W.grownBy W' (some g2)) ∨ (W.heap.size ≤ g2 ∧ W.grownBy W' none)) :
    Whole W' ub 27 #[vi k, .slice A l.length c] ∧ PtJ s ws wa wc k (l ++ [z]) (some ⟨g2, 0, none⟩) c2 ub w (W'.setCell ⟨ub, 1, none⟩ (.slice (some ⟨g2, 0, none⟩) (l.length + 1) c2)) := by
  have hgr : W.grownBy W' (Value.slice A l.length c).ownBlock := by
    rcases hw with ⟨h1, _, h3⟩ | ⟨_, h3⟩
    · rw [h1]; exact h3
    · exact h3.but _
  have k1 := h.xb.grown hgr (fun e => own_ne h.own h.xb (by decide) e.symm)
  have k2 := h.wb.grown hgr (fun e => own_ne h.own h.wb (by decide) e.symm)
  have k3 := h.rb.grown hgr (fun e => own_ne h.own h.rb (by decide) e.symm)
  have k4 := h.bx.grown hgr (fun e => own_ne h.own h.bx (by decide) e.symm)
  have hnw : newer w W' := by
    rcases hw with ⟨h1, _, h3⟩ | ⟨_, h3⟩
    · exact Below.trans h.nw (below_of_grown h3 (own_ge h.own g2 (by rw [h1]; rfl)) h.nw.size)
    · exact newer_trans h.nw (below_grown h3 (fun q e => by cases e) (Nat.le_refl _))
  have hlo := h.lo
  refine ⟨k4, hnw.setCell (p := ⟨ub, 1, none⟩) (by show w.heap.size ≤ ub; omega) _, k1.far (p := ⟨ub, 1, none⟩) (by show w.heap.size ≠ ub; omega) _, k2.far (p := ⟨ub, 1, none⟩) (by show w.heap.size + 1 ≠ ub; omega) _, k3.far (p := ⟨ub, 1, none⟩) (by show w.heap.size + 1 + 1 ≠ ub; omega) _, ?_, h.lo, ?_⟩
  · rw [List.length_append]
    exact k4.set 1 _
  · rw [List.length_append, List.map_append]
    exact own_set hown (own_ne hown k4 (by decide)) _
theorem way_all {n : Nat} : ∀ (l : List Nat), wayB n l → ∀ x ∈ l, x < n
  | [], _, x, hx => by simp at hx
  | b :: l, h, x, hx => by
    rcases List.mem_cons.1 hx with rfl | hx
    · exact h.1
    · exact way_all l h.2.2 x hx
theorem own_nat {w : World} {B : Nat} {A : Option Addr} {c : Nat} {l : List Nat} (h : w.ownsRow B 3 1 (.slice A l.length c) l.length (l.map fun x : Nat => vi x)) {k p : Nat} (hk : l[k]? = some p) : ∃ b off, A = some ⟨b, off, none⟩ ∧ b < w.heap.size ∧ w.cell? ⟨b, off + k, none⟩ = some (vi p) := by
  have hr := (row_nats (L := l.map fun x : Nat => (x : Int)) rfl h).2
  have hk2 : (l.map fun x : Nat => (x : Int))[k]? = some (p : Int) := by rw [List.getElem?_map, hk]; rfl
  obtain ⟨b, off, e, hb, hc⟩ := hr (ne_nil_of_get hk2)
  exact ⟨b, off, e, hb, by simpa using hc k _ hk2 0 _ rfl⟩
end

section
open Go.RowKit Go.Shelf Go.Deep
/-- A word of a list. -/
def wdN (ws : List Byt) (i : Nat) : Nat := match ws[i % ws.length]? with
  | some y => y.n.toNat
  | none => 0
theorem wd_some {ws : List Byt} {i : Nat} {y : Byt} (h : ws[i % ws.length]? = some y) : wdN ws i = y.n.toNat := by unfold wdN; rw [h]
def stepP (n : Nat) (l : List Nat) (a : Nat) : Nat := match l.getLast? with
  | none => a % n
  | some p => (mnI (mxI 0 ((p : Int) - 1 + (a % 3 : Nat))) ((n : Int) - 1)).toNat
def pathL (wd : Nat → Nat) (n : Nat) : Nat → List Nat
  | 0 => []
  | i + 1 => pathL wd n i ++ [stepP n (pathL wd n i) (wd (2 + i))]
def pathK (wd : Nat → Nat) (cols K : Nat) : Nat := wd 0 % (cols - K + 1)
def pathM (wd : Nat → Nat) (cols K : Nat) : Nat := K + wd 1 % (cols - pathK wd cols K - K + 1)
theorem rem_natE (a m : Nat) : (a : Int).tmod m = (a % m : Nat) := by
  rw [Int.tmod_eq_emod_of_nonneg (by omega)]
  exact (Int.natCast_emod _ _).symm
set_option maxRecDepth 100000 in
set_option maxHeartbeats 1000000 in
theorem word_is (ws : List Byt) (A : Option Addr) (c wb i : Nat) (w : World) (hw : Whole w wb 65 #[.slice A ws.length c]) (hr : Row byL 1 w w.heap.size A ws) (hi : i ≤ 100000000) : Calls Try.prog 74 #[vi i, .pointer (some ⟨wb, 0, none⟩)] w fun e w' => e = .returned (vi (wdN ws i)) ∧ newer w w' := by
  have c0 := hw.at 0 rfl
  by_cases hbe : ws = []
  · subst hbe
    clear hr
    go_enter Try.func74, Try.ntmps74
    go_wp2_with fail
    go_ret
    exact ⟨rfl, newer_refl _⟩
  · have hl0 : 0 < ws.length := List.length_pos_iff.2 hbe
    have hbn : ¬ (ws = []) := hbe
    obtain ⟨j, hj⟩ : ∃ j, j = i % ws.length := ⟨_, rfl⟩
    have hjl : j < ws.length := by rw [hj]; exact Nat.mod_lt _ hl0
    have hjn : (j : Int) < ws.length := by omega
    have ej : (i : Int).tmod ws.length = j := by rw [hj, Int.tmod_eq_emod_of_nonneg (by omega)]; exact (Int.natCast_emod _ _).symm
    obtain ⟨y, hy⟩ := get_of_lt hjl
    obtain ⟨ab, ao, rfl, _, cb⟩ := row_byte hr hy
    have hb0 := y.lo
    have hb1 := y.hi
    obtain ⟨yn, hyn⟩ : ∃ yn : Nat, y.n = yn := ⟨y.n.toNat, by omega⟩
    rw [hyn] at cb hb0 hb1
    have e31 : IntKind.i64.wrap (yn : Int) = yn := IntWalk.i64_in _ (by omega)
    have hcz : ¬ ((ws.length : Int) = 0) := by omega
    have hyw : wdN ws i = yn := by rw [wd_some (by rw [← hj]; exact hy)]; omega
    rw [hyw]
    clear hr hy hj hw hb0 hb1 hbe hyn hyw
    go_enter Try.func74, Try.ntmps74
    go_upto_region 3 with fail
    refine wp_words (by kernel_rfl) (region_told 8 (by kernel_rfl) (by kernel_rfl) (fun W => Below w.heap.size w W) newer (pickD [vIs (.slice (some ⟨ab, ao, none⟩) ws.length c), vIs (.int .i64 i), vIs (.slice (some ⟨ab, ao, none⟩) ws.length c), vIs (.int .i64 ws.length), vIs (.int .i64 j), vIs (.pointer (some ⟨ab, ao + j, none⟩)), vIs (.int .u8 (yn : Int)), vIs (vi yn)]) (fun h k => newer_trans h k) (pickD_stable _ ⟨vIs_st, vIs_st, vIs_st, vIs_st, vIs_st, vIs_st, vIs_st, vIs_st, trivial⟩) (Below.refl _ w).drew (Below.refl _ _) ?_ ?_)
    · refine ⟨?_, ?_, ?_, ?_, ?_, ?_, ?_, ?_, trivial⟩
      · intro a W hG hR hO hp
        have h1 := hO.slot 1 (by kernel_rfl)
        have c0 := keep_cell c0 hG
        refine wp_yields (v := .slice (some ⟨ab, ao, none⟩) ws.length c) ?_ ⟨_, rfl, rfl, Below.refl _ _, hG⟩
        simp [slotOf] at h1
        simp [execOp, go_sem, h1, c0]
      · intro a W hG hR hO hp
        have h0 := hO.slot 0 (by kernel_rfl)
        refine wp_yields (v := .int .i64 i) ?_ ⟨_, rfl, rfl, Below.refl _ _, hG⟩
        simp [slotOf] at h0
        simp [execOp, go_sem, h0]
      · intro a W hG hR hO hp
        have h1 := hO.slot 1 (by kernel_rfl)
        have c0 := keep_cell c0 hG
        refine wp_yields (v := .slice (some ⟨ab, ao, none⟩) ws.length c) ?_ ⟨_, rfl, rfl, Below.refl _ _, hG⟩
        simp [slotOf] at h1
        simp [execOp, go_sem, h1, c0]
      · intro a W hG hR hO hp
        have h9 : slotOf a 9 = .slice (some ⟨ab, ao, none⟩) ws.length c := hp.1
        refine wp_yields (v := .int .i64 ws.length) ?_ ⟨_, rfl, rfl, Below.refl _ _, hG⟩
        simp [slotOf] at h9
        simp [go_sem, h9]
      · intro a W hG hR hO hp
        have h8 : slotOf a 8 = .int .i64 i := hp.1
        have h10 : slotOf a 10 = .int .i64 ws.length := hp.2.1
        refine wp_yields (v := .int .i64 j) ?_ ⟨_, rfl, rfl, Below.refl _ _, hG⟩
        simp [slotOf] at h8 h10
        simp [execOp, go_sem, h8, h10, ej, hbn]
      · intro a W hG hR hO hp
        have h7 : slotOf a 7 = .slice (some ⟨ab, ao, none⟩) ws.length c := hp.1
        have h11 : slotOf a 11 = .int .i64 j := hp.2.1
        refine wp_yields (v := .pointer (some ⟨ab, ao + j, none⟩)) ?_ ⟨_, rfl, rfl, Below.refl _ _, hG⟩
        simp [slotOf] at h7 h11
        simp [execOp, go_sem, h7, h11, hjn]
      · intro a W hG hR hO hp
        have h12 : slotOf a 12 = .pointer (some ⟨ab, ao + j, none⟩) := hp.1
        have c0 := keep_cell cb hG
        refine wp_yields (v := .int .u8 (yn : Int)) ?_ ⟨_, rfl, rfl, Below.refl _ _, hG⟩
        simp [slotOf] at h12
        simp [execOp, go_sem, h12, c0]
      · intro a W hG hR hO hp
        have h13 : slotOf a 13 = .int .u8 (yn : Int) := hp.1
        refine wp_yields (v := vi yn) ?_ ⟨_, rfl, rfl, Below.refl _ _, hG⟩
        simp [slotOf] at h13
        simp [execOp, go_sem, h13, e31]
    · intro wz hG hR
      rintro _ rfl _ rfl _ rfl _ rfl _ rfl _ rfl _ rfl _ rfl
      change wpList _ _ _ _ _ _
      simp only [Act.put, List.setIfInBounds_toArray, List.set_cons_zero, List.set_cons_succ, List.drop_succ_cons, List.drop_zero]
      have HE := Lib.hid hG
      clear hG hR
      go_wp2_with fail
      go_ret
      exact ⟨rfl, HE.out⟩
set_option maxRecDepth 100000 in
set_option maxHeartbeats 2000000 in
theorem path_is (s : Sm) (ws : List Byt) (wa : Option Addr) (wc : Nat) (w : World) (hok : SmOk s w) (hr : Row byL 1 w w.heap.size wa ws) (hs : SdOk s.sd) (hle : s.sd.least ≤ (s.sd.cols.length : Int)) : Calls Try.prog 40 #[smV s, .slice wa ws.length wc] w fun e w' => ∃ u : Su, e = .returned (suV u) ∧ SuOk u w' ∧ u.frm = (pathK (wdN ws) s.cs.length s.sd.K : Nat) ∧ u.beds = (pathL (wdN ws) s.sd.n (pathM (wdN ws) s.cs.length s.sd.K)).map (fun x : Nat => (x : Int)) ∧ SurfB s.sd.n s.cs.length s.sd.K (pathK (wdN ws) s.cs.length s.sd.K) (pathL (wdN ws) s.sd.n (pathM (wdN ws) s.cs.length s.sd.K)) ∧ newer w w' := by
  have hcl : s.cs.length ≤ 12 ∧ 1 ≤ s.cs.length := by have h1 := hs.cols; rw [sd_len] at h1; omega
  obtain ⟨K, hK⟩ : ∃ K, K = s.sd.K := ⟨_, rfl⟩
  have hkl : s.least = (K : Int) ∧ 1 ≤ K ∧ K ≤ 4 ∧ K ≤ s.cs.length := by
    have h1 := hs.least
    rw [sd_len] at hle
    have h2 : s.sd.least = s.least := rfl
    rw [hK]
    unfold Sd.K
    omega
  obtain ⟨hkl, hK1, hK4, hKc⟩ := hkl
  obtain ⟨n, hn⟩ : ∃ n, n = s.sd.n := ⟨_, rfl⟩
  rw [← hn, ← hK]
  have hn5 : 1 ≤ n ∧ n ≤ 5 := by rw [hn]; exact hs.beds
  obtain ⟨y0, hy0⟩ := get_of_lt (l := s.cs) (k := 0) (by omega)
  have hyn : y0.beds.length = n := by rw [hn]; exact (sd_n hy0).symm
  obtain ⟨sa, so, ea, _, cy⟩ := rowC hok.cs hy0
  simp only [Nat.add_zero] at cy
  rw [hyn] at cy
  have hcne : ¬ (s.cs = []) := by intro h; rw [h] at hcl; simp at hcl
  have HCY := Lib.hid cy
  have HSA := Lib.hid ea
  have H0 : Hid (newer w (((w.alloc (.cells (smC s) 24)).alloc (.cells #[.slice wa ws.length wc] 65)).alloc (.cells #[vi 0, .slice none 0 0] 27)) ∧ Whole (((w.alloc (.cells (smC s) 24)).alloc (.cells #[.slice wa ws.length wc] 65)).alloc (.cells #[vi 0, .slice none 0 0] 27)) w.heap.size 24 (smC s) ∧ Whole (((w.alloc (.cells (smC s) 24)).alloc (.cells #[.slice wa ws.length wc] 65)).alloc (.cells #[vi 0, .slice none 0 0] 27)) (w.heap.size + 1) 65 #[.slice wa ws.length wc] ∧ Whole (((w.alloc (.cells (smC s) 24)).alloc (.cells #[.slice wa ws.length wc] 65)).alloc (.cells #[vi 0, .slice none 0 0] 27)) (w.heap.size + 1 + 1) 27 #[vi 0, .slice none 0 0]) := Lib.hid (by
    have e1 := newer_allocH w (.cells (smC s) 24)
    have e2 := newer_allocH (w.alloc (.cells (smC s) 24)) (.cells #[.slice wa ws.length wc] 65)
    have e3 := newer_allocH ((w.alloc (.cells (smC s) 24)).alloc (.cells #[.slice wa ws.length wc] 65)) (.cells #[vi 0, .slice none 0 0] 27)
    have a1 := Whole.made w 24 (smC s)
    have a2 := Whole.made (w.alloc (.cells (smC s) 24)) 65 #[.slice wa ws.length wc]
    have a3 := Whole.made ((w.alloc (.cells (smC s) 24)).alloc (.cells #[.slice wa ws.length wc] 65)) 27 #[vi 0, .slice none 0 0]
    rw [World.size_alloc] at a2
    rw [World.size_alloc, World.size_alloc] at a3
    exact ⟨newer_trans (newer_trans e1 e2) e3, (a1.below e2 a1.lt).below e3 (by simp; omega), a2.below e3 a2.lt, a3⟩)
  have HR := Lib.hid hr
  obtain ⟨i0, hi0, hz0, hz1, hz2⟩ := info_parts info_int
  have HI := Lib.hid (And.intro hi0 (And.intro hz0 (And.intro hz1 hz2)))
  clear hi0 hz0 hz1 hz2
  obtain ⟨w1, hw1⟩ : ∃ w1, w1 = (((w.alloc (.cells (smC s) 24)).alloc (.cells #[.slice wa ws.length wc] 65)).alloc (.cells #[vi 0, .slice none 0 0] 27)) := ⟨_, rfl⟩
  rw [← hw1] at H0
  obtain ⟨a0, ha0⟩ : ∃ a, a = wdN ws 0 := ⟨_, rfl⟩
  have HA0 := Lib.hid ha0
  have HWD : Hid (∀ (W : World), newer w1 W → Calls Try.prog 74 #[vi (0 : Nat), .pointer (some ⟨w.heap.size + 1, 0, none⟩)] W fun e w' => e = .returned (vi a0) ∧ newer W w') := Lib.hid (fun W hW => by rw [HA0.out]; exact word_is ws wa wc _ 0 W (H0.out.2.2.1.below hW H0.out.2.2.1.lt) ((HR.out.below (newer_trans H0.out.1 hW)).more (newer_trans H0.out.1 hW).size) (by omega))
  obtain ⟨d1, hd1⟩ : ∃ d : Nat, d = s.cs.length - K := ⟨_, rfl⟩
  have e24 : IntKind.i64.wrap ((s.cs.length : Int) - K) = d1 := by rw [show (d1 : Int) = (s.cs.length : Int) - K by omega]; exact IntWalk.i64_in _ (by omega)
  obtain ⟨m1, hm1⟩ : ∃ m : Nat, m = d1 + 1 := ⟨_, rfl⟩
  have e25 : IntKind.i64.wrap ((d1 : Int) + 1) = m1 := by rw [show (m1 : Int) = (d1 : Int) + 1 by omega]; exact IntWalk.i64_in _ (by omega)
  obtain ⟨k, hk_⟩ : ∃ k : Nat, k = a0 % m1 := ⟨_, rfl⟩
  have hk : k < m1 := by rw [hk_]; exact Nat.mod_lt _ (by omega)
  have er26 : (a0 : Int).tmod m1 = k := by rw [hk_]; exact rem_natE _ _
  have hz26 : ¬ (m1 = 0) := by omega
  have HPK : Hid (k = pathK (wdN ws) s.cs.length K) := Lib.hid (by unfold pathK; rw [hk_, ha0, hm1, hd1])
  have x0 := H0.out.2.1.at 0 (v := .slice s.a s.cs.length s.c) rfl
  have x1 := H0.out.2.1.at 1 (v := vi s.least) rfl
  rw [hw1] at x0 x1
  rw [hkl] at x1
  rw [ea] at x0
  clear hok hr hs hle hK hn hy0 hyn ea cy ha0 hk_
  have HKC : (K : Int) ≤ s.cs.length := by omega
  go_enter Try.func40, Try.ntmps40
  go_upto_region 3 with fail
  rw [← hw1] at x0 ⊢
  clear hw1 x1
  refine wp_words (by kernel_rfl) (region_told 11 (by kernel_rfl) (by kernel_rfl) (fun W => Below w1.heap.size w1 W) newer (pickD [vIs (.func (.func 74) #[] #[.pointer (some ⟨w.heap.size + 1, 0, none⟩)]), vIs (vi a0), vIs (.pointer (some ⟨w.heap.size, 0, none⟩)), vIs (.slice (some ⟨sa, so, none⟩) s.cs.length s.c), vIs (.int .i64 s.cs.length), vIs (vi K), vIs (vi d1), vIs (vi m1), vIs (vi k), vIs (.agg #[vi k, .slice none 0 0]), vNew w1.heap.size 27 #[vi 0, .slice none 0 0]]) (fun h k => newer_trans h k) (pickD_stable _ ⟨vIs_st, vIs_st, vIs_st, vIs_st, vIs_st, vIs_st, vIs_st, vIs_st, vIs_st, vIs_st, vNew_st, trivial⟩) (Below.refl _ w1).drew (Below.refl _ _) ?_ ?_)
  · refine ⟨?_, ?_, ?_, ?_, ?_, ?_, ?_, ?_, ?_, ?_, ?_, trivial⟩
    · intro a W hG hR hO hp
      have h5 := hO.slot 5 (by kernel_rfl)
      refine wp_yields (v := .func (.func 74) #[] #[.pointer (some ⟨w.heap.size + 1, 0, none⟩)]) ?_ ⟨_, rfl, rfl, Below.refl _ _, hG⟩
      simp [slotOf] at h5
      simp [execOp, go_sem, h5]
    · intro a W hG hR hO hp
      have h18 : slotOf a 18 = .func (.func 74) #[] #[.pointer (some ⟨w.heap.size + 1, 0, none⟩)] := hp.1
      refine wp_enters (f := 74) (args := #[vi (0 : Nat), .pointer (some ⟨w.heap.size + 1, 0, none⟩)]) ?_ ((HWD.out W hG).mono ?_)
      · simp [slotOf] at h18
        simp [go_sem, h18]
      · rintro e w' ⟨rfl, hb⟩
        exact ⟨_, rfl, _, rfl, rfl, hb, below_next hG hb⟩
    · intro a W hG hR hO hp
      have h2 := hO.slot 2 (by kernel_rfl)
      refine wp_yields (v := .pointer (some ⟨w.heap.size, 0, none⟩)) ?_ ⟨_, rfl, rfl, Below.refl _ _, hG⟩
      simp [slotOf] at h2
      simp [execOp, go_sem, h2]
    · intro a W hG hR hO hp
      have h20 : slotOf a 20 = .pointer (some ⟨w.heap.size, 0, none⟩) := hp.1
      have c0 := keep_cell x0 hG
      refine wp_yields (v := .slice (some ⟨sa, so, none⟩) s.cs.length s.c) ?_ ⟨_, rfl, rfl, Below.refl _ _, hG⟩
      simp [slotOf] at h20
      simp [execOp, go_sem, h20, c0]
    · intro a W hG hR hO hp
      have h21 : slotOf a 21 = .slice (some ⟨sa, so, none⟩) s.cs.length s.c := hp.1
      refine wp_yields (v := .int .i64 s.cs.length) ?_ ⟨_, rfl, rfl, Below.refl _ _, hG⟩
      simp [slotOf] at h21
      simp [go_sem, h21]
    · intro a W hG hR hO hp
      have h6 := hO.slot 6 (by kernel_rfl)
      refine wp_yields (v := vi K) ?_ ⟨_, rfl, rfl, Below.refl _ _, hG⟩
      simp [slotOf] at h6
      simp [execOp, go_sem, h6]
    · intro a W hG hR hO hp
      have h22 : slotOf a 22 = .int .i64 s.cs.length := hp.1
      have h23 : slotOf a 23 = vi K := hp.2.1
      refine wp_yields (v := vi d1) ?_ ⟨_, rfl, rfl, Below.refl _ _, hG⟩
      simp [slotOf] at h22 h23
      simp [execOp, go_sem, h22, h23, e24]
    · intro a W hG hR hO hp
      have h24 : slotOf a 24 = vi d1 := hp.1
      refine wp_yields (v := vi m1) ?_ ⟨_, rfl, rfl, Below.refl _ _, hG⟩
      simp [slotOf] at h24
      simp [execOp, go_sem, h24, e25]
    · intro a W hG hR hO hp
      have h19 : slotOf a 19 = vi a0 := hp.1
      have h25 : slotOf a 25 = vi m1 := hp.2.1
      refine wp_yields (v := vi k) ?_ ⟨_, rfl, rfl, Below.refl _ _, hG⟩
      simp [slotOf] at h19 h25
      simp [execOp, go_sem, h19, h25, er26, hz26]
    · intro a W hG hR hO hp
      have h26 : slotOf a 26 = vi k := hp.1
      refine wp_yields (v := .agg #[vi k, .slice none 0 0]) ?_ ⟨_, rfl, rfl, Below.refl _ _, hG⟩
      simp [slotOf] at h26
      simp [execOp, go_sem, h26]
    · intro a W hG hR hO hp
      refine wp_makes (v := .pointer (some ⟨W.heap.size, 0, none⟩)) (W' := W.alloc (.cells #[vi 0, .slice none 0 0] 27)) ?_ ⟨_, rfl, ⟨_, rfl, hG.size, Whole.made _ _ _⟩, newer_allocH _ _, below_next hG (newer_allocH _ _)⟩
      skip
      simp [execOp, go_sem]
  · intro w2 hG hR
    rintro _ rfl _ rfl _ rfl _ rfl _ rfl _ rfl _ rfl _ rfl _ rfl _ rfl _ ⟨ub, rfl, hub, hwu⟩
    change wpList _ _ _ _ _ _
    simp only [Act.put, List.setIfInBounds_toArray, List.set_cons_zero, List.set_cons_succ, List.drop_succ_cons, List.drop_zero]
    have b0 := hwu.at 0 rfl
    have b1 := hwu.at 1 rfl
    have f0 := hwu.free 0
    have f1 := hwu.free 1
    have hG3 := (hG.setCell (p := ⟨ub, 0, none⟩) hub (vi k)).setCell (p := ⟨ub, 1, none⟩) hub (.slice none 0 0)
    have HJ : Hid (PtJ s ws wa wc k [] none 0 ub w ((w2.setCell ⟨ub, 0, none⟩ (vi k)).setCell ⟨ub, 1, none⟩ (.slice none 0 0))) := Lib.hid ⟨newer_trans H0.out.1 hG3, H0.out.2.1.below hG3 H0.out.2.1.lt, H0.out.2.2.1.below hG3 H0.out.2.2.1.lt, H0.out.2.2.2.below hG3 H0.out.2.2.2.lt, (hwu.set 0 _).set 1 _, by have := H0.out.2.2.2.lt; omega, ⟨rfl, .inl ⟨rfl, rfl⟩⟩⟩
    clear x0 hG hR hG3 hwu hub HWD H0 er26 hz26
    go_upto_region 4 with fail
    obtain ⟨w3, hw3⟩ : ∃ x, x = ((w2.setCell ⟨ub, 0, none⟩ (vi k)).setCell ⟨ub, 1, none⟩ (.slice none 0 0)) := ⟨_, rfl⟩
    rw [← hw3] at HJ ⊢
    clear hw3 b0 b1 f0 f1
    have x0 := HJ.out.xb.at 0 (v := .slice s.a s.cs.length s.c) rfl
    rw [HSA.out] at x0
    have u0 := HJ.out.bx.at 0 (v := vi k) rfl
    obtain ⟨d3, hd3⟩ : ∃ d : Nat, d = s.cs.length - k := ⟨_, rfl⟩
    obtain ⟨d2, hd2⟩ : ∃ d : Nat, d = d3 - K := ⟨_, rfl⟩
    obtain ⟨m2, hm2⟩ : ∃ d : Nat, d = d2 + 1 := ⟨_, rfl⟩
    have e36 : IntKind.i64.wrap ((s.cs.length : Int) - k) = d3 := by rw [show (d3 : Int) = (s.cs.length : Int) - k by omega]; exact IntWalk.i64_in _ (by omega)
    have e38 : IntKind.i64.wrap ((d3 : Int) - K) = d2 := by rw [show (d2 : Int) = (d3 : Int) - K by omega]; exact IntWalk.i64_in _ (by omega)
    have e39 : IntKind.i64.wrap ((d2 : Int) + 1) = m2 := by rw [show (m2 : Int) = (d2 : Int) + 1 by omega]; exact IntWalk.i64_in _ (by omega)
    obtain ⟨a1, ha1⟩ : ∃ a, a = wdN ws 1 := ⟨_, rfl⟩
    have HA1 := Lib.hid ha1
    obtain ⟨q1, hq1⟩ : ∃ q : Nat, q = a1 % m2 := ⟨_, rfl⟩
    have hq1l : q1 < m2 := by rw [hq1]; exact Nat.mod_lt _ (by omega)
    have er40 : (a1 : Int).tmod m2 = q1 := by rw [hq1]; exact rem_natE _ _
    have hz40 : ¬ (m2 = 0) := by omega
    obtain ⟨m, hm_⟩ : ∃ m : Nat, m = K + q1 := ⟨_, rfl⟩
    have e41 : IntKind.i64.wrap ((K : Int) + q1) = m := by rw [show (m : Int) = (K : Int) + q1 by omega]; exact IntWalk.i64_in _ (by omega)
    have HPM : Hid (m = pathM (wdN ws) s.cs.length K) := Lib.hid (by unfold pathM; rw [← HPK.out, hm_, hq1, ha1, hm2, hd2, hd3])
    clear ha1 hq1
    have HWD : Hid (∀ (W : World), newer w3 W → Calls Try.prog 74 #[vi (1 : Nat), .pointer (some ⟨w.heap.size + 1, 0, none⟩)] W fun e w' => e = .returned (vi a1) ∧ newer W w') := Lib.hid (fun W hW => by rw [HA1.out]; exact word_is ws wa wc _ 1 W (HJ.out.wb.below hW HJ.out.wb.lt) ((HR.out.below (newer_trans HJ.out.nw hW)).more (newer_trans HJ.out.nw hW).size) (by omega))
    have hkm : k + K ≤ s.cs.length := by omega
    refine wp_words (by kernel_rfl) (region_told 14 (by kernel_rfl) (by kernel_rfl) (fun W => Below w3.heap.size w3 W) newer (pickD [vIs (vi K), vIs (.func (.func 74) #[] #[.pointer (some ⟨w.heap.size + 1, 0, none⟩)]), vIs (vi a1), vIs (.pointer (some ⟨w.heap.size, 0, none⟩)), vIs (.slice (some ⟨sa, so, none⟩) s.cs.length s.c), vIs (.int .i64 s.cs.length), vIs (.pointer (some ⟨ub, 0, none⟩)), vIs (vi k), vIs (vi d3), vIs (vi K), vIs (vi d2), vIs (vi m2), vIs (vi q1), vIs (vi m)]) (fun h k => newer_trans h k) (pickD_stable _ ⟨vIs_st, vIs_st, vIs_st, vIs_st, vIs_st, vIs_st, vIs_st, vIs_st, vIs_st, vIs_st, vIs_st, vIs_st, vIs_st, vIs_st, trivial⟩) (Below.refl _ w3).drew (Below.refl _ _) ?_ ?_)
    · refine ⟨?_, ?_, ?_, ?_, ?_, ?_, ?_, ?_, ?_, ?_, ?_, ?_, ?_, ?_, trivial⟩
      · intro a W hG hR hO hp
        have h6 := hO.slot 6 (by kernel_rfl)
        refine wp_yields (v := vi K) ?_ ⟨_, rfl, rfl, Below.refl _ _, hG⟩
        simp [slotOf] at h6
        simp [execOp, go_sem, h6]
      · intro a W hG hR hO hp
        have h5 := hO.slot 5 (by kernel_rfl)
        refine wp_yields (v := .func (.func 74) #[] #[.pointer (some ⟨w.heap.size + 1, 0, none⟩)]) ?_ ⟨_, rfl, rfl, Below.refl _ _, hG⟩
        simp [slotOf] at h5
        simp [execOp, go_sem, h5]
      · intro a W hG hR hO hp
        have h29 : slotOf a 29 = .func (.func 74) #[] #[.pointer (some ⟨w.heap.size + 1, 0, none⟩)] := hp.1
        refine wp_enters (f := 74) (args := #[vi (1 : Nat), .pointer (some ⟨w.heap.size + 1, 0, none⟩)]) ?_ ((HWD.out W hG).mono ?_)
        · simp [slotOf] at h29
          simp [go_sem, h29]
        · rintro e w' ⟨rfl, hb⟩
          exact ⟨_, rfl, _, rfl, rfl, hb, below_next hG hb⟩
      · intro a W hG hR hO hp
        have h2 := hO.slot 2 (by kernel_rfl)
        refine wp_yields (v := .pointer (some ⟨w.heap.size, 0, none⟩)) ?_ ⟨_, rfl, rfl, Below.refl _ _, hG⟩
        simp [slotOf] at h2
        simp [execOp, go_sem, h2]
      · intro a W hG hR hO hp
        have h31 : slotOf a 31 = .pointer (some ⟨w.heap.size, 0, none⟩) := hp.1
        have c0 := keep_cell x0 hG
        refine wp_yields (v := .slice (some ⟨sa, so, none⟩) s.cs.length s.c) ?_ ⟨_, rfl, rfl, Below.refl _ _, hG⟩
        simp [slotOf] at h31
        simp [execOp, go_sem, h31, c0]
      · intro a W hG hR hO hp
        have h32 : slotOf a 32 = .slice (some ⟨sa, so, none⟩) s.cs.length s.c := hp.1
        refine wp_yields (v := .int .i64 s.cs.length) ?_ ⟨_, rfl, rfl, Below.refl _ _, hG⟩
        simp [slotOf] at h32
        simp [go_sem, h32]
      · intro a W hG hR hO hp
        have h7 := hO.slot 7 (by kernel_rfl)
        refine wp_yields (v := .pointer (some ⟨ub, 0, none⟩)) ?_ ⟨_, rfl, rfl, Below.refl _ _, hG⟩
        simp [slotOf] at h7
        simp [execOp, go_sem, h7]
      · intro a W hG hR hO hp
        have h34 : slotOf a 34 = .pointer (some ⟨ub, 0, none⟩) := hp.1
        have c0 := keep_cell u0 hG
        refine wp_yields (v := vi k) ?_ ⟨_, rfl, rfl, Below.refl _ _, hG⟩
        simp [slotOf] at h34
        simp [execOp, go_sem, h34, c0]
      · intro a W hG hR hO hp
        have h33 : slotOf a 33 = .int .i64 s.cs.length := hp.1
        have h35 : slotOf a 35 = vi k := hp.2.1
        refine wp_yields (v := vi d3) ?_ ⟨_, rfl, rfl, Below.refl _ _, hG⟩
        simp [slotOf] at h33 h35
        simp [execOp, go_sem, h33, h35, e36]
      · intro a W hG hR hO hp
        have h6 := hO.slot 6 (by kernel_rfl)
        refine wp_yields (v := vi K) ?_ ⟨_, rfl, rfl, Below.refl _ _, hG⟩
        simp [slotOf] at h6
        simp [execOp, go_sem, h6]
      · intro a W hG hR hO hp
        have h36 : slotOf a 36 = vi d3 := hp.1
        have h37 : slotOf a 37 = vi K := hp.2.1
        refine wp_yields (v := vi d2) ?_ ⟨_, rfl, rfl, Below.refl _ _, hG⟩
        simp [slotOf] at h36 h37
        simp [execOp, go_sem, h36, h37, e38]
      · intro a W hG hR hO hp
        have h38 : slotOf a 38 = vi d2 := hp.1
        refine wp_yields (v := vi m2) ?_ ⟨_, rfl, rfl, Below.refl _ _, hG⟩
        simp [slotOf] at h38
        simp [execOp, go_sem, h38, e39]
      · intro a W hG hR hO hp
        have h30 : slotOf a 30 = vi a1 := hp.1
        have h39 : slotOf a 39 = vi m2 := hp.2.1
        refine wp_yields (v := vi q1) ?_ ⟨_, rfl, rfl, Below.refl _ _, hG⟩
        simp [slotOf] at h30 h39
        simp [execOp, go_sem, h30, h39, er40, hz40]
      · intro a W hG hR hO hp
        have h28 : slotOf a 28 = vi K := hp.1
        have h40 : slotOf a 40 = vi q1 := hp.2.1
        refine wp_yields (v := vi m) ?_ ⟨_, rfl, rfl, Below.refl _ _, hG⟩
        simp [slotOf] at h28 h40
        simp [execOp, go_sem, h28, h40, e41]
    · intro w4 hG hR
      rintro _ rfl _ rfl _ rfl _ rfl _ rfl _ rfl _ rfl _ rfl _ rfl _ rfl _ rfl _ rfl _ rfl _ rfl
      change wpList _ _ _ _ _ _
      simp only [Act.put, List.setIfInBounds_toArray, List.set_cons_zero, List.set_cons_succ, List.drop_succ_cons, List.drop_zero]
      have HJ4 := Lib.hid (HJ.out.next hG)
      have hmk : k + m ≤ s.cs.length ∧ K ≤ m ∧ m ≤ 12 := by omega
      have HMK := Lib.hid hmk
      have hm12 : m ≤ 12 := by omega
      clear hG hR x0 u0 HJ HWD e24 e25 e36 e38 e39 hd1 hm1 hd3 hd2 hm2 hk hkm hmk er40 hz40 e41 hm_ hq1l
      go_wp2_with fail
      go_loopw [9] (fun s9 wr => ∃ (i : Nat) (l : List Nat) (A : Option Addr) (c : Nat), s9 = vi i ∧ i ≤ m ∧ l.length = i ∧ wayB n l ∧ l = pathL (wdN ws) n i ∧ PtJ s ws wa wc k l A c ub w wr) (fun s9 _ => m - (intOf s9).toNat)
      case atStart => exact ⟨0, [], none, 0, rfl, Nat.zero_le _, rfl, trivial, rfl, HJ4.out⟩
      case round =>
        obtain ⟨i, l, A, c, rfl, hi, hli, hwy, hpl, hj⟩ := hrel
        have HPP := Lib.hid hpl
        obtain ⟨ai, hai⟩ : ∃ a, a = wdN ws (2 + i) := ⟨_, rfl⟩
        have HAI := Lib.hid hai
        obtain ⟨z0, hz0e⟩ : ∃ z : Nat, z = ai % n := ⟨_, rfl⟩
        have hz0 : z0 < n := by rw [hz0e]; exact Nat.mod_lt _ (by omega)
        have er56 : (ai : Int).tmod n = z0 := by rw [hz0e]; exact rem_natE _ _
        have hz56 : ¬ (n = 0) := by omega
        have HZ0 := Lib.hid hz0e
        clear hpl hai hz0e
        clear HJ4
        have HJ := Lib.hid hj
        have HLI := Lib.hid hli
        have HWL := Lib.hid hwy
        have x0 := hj.xb.at 0 (v := .slice s.a s.cs.length s.c) rfl
        rw [HSA.out] at x0
        have cy := keep_cell HCY.out hj.nw
        have hi100 : i ≤ 100 := by have := HMK.out; omega
        have HWD : Hid (∀ (W : World), newer wr W → Calls Try.prog 74 #[vi (2 + i : Nat), .pointer (some ⟨w.heap.size + 1, 0, none⟩)] W fun e w' => e = .returned (vi ai) ∧ newer W w') := Lib.hid (fun W hW => by rw [HAI.out]; exact word_is ws wa wc _ (2 + i) W (HJ.out.wb.below hW HJ.out.wb.lt) ((HR.out.below (newer_trans HJ.out.nw hW)).more (newer_trans HJ.out.nw hW).size) (by omega))
        clear hli hwy hj
        by_cases hlt : i < m
        · have e49 : IntKind.i64.wrap (2 + (i : Int)) = ((2 + i : Nat) : Int) := by rw [Int.natCast_add]; exact IntWalk.i64_in _ (by omega)
          have hlti : (i : Int) < m := by omega
          go_upto_region 8 with fail
          refine wp_words (by kernel_rfl) (region_told 10 (by kernel_rfl) (by kernel_rfl) (fun W => Below wr.heap.size wr W) newer (pickD [vIs (.func (.func 74) #[] #[.pointer (some ⟨w.heap.size + 1, 0, none⟩)]), vIs (vi i), vIs (vi (2 + i : Nat)), vIs (vi ai), vIs (.pointer (some ⟨w.heap.size, 0, none⟩)), vIs (.slice (some ⟨sa, so, none⟩) s.cs.length s.c), vIs (.pointer (some ⟨sa, so, none⟩)), vIs (.slice y0.a n y0.cp), vIs (.int .i64 n), vIs (vi z0)]) (fun h k => newer_trans h k) (pickD_stable _ ⟨vIs_st, vIs_st, vIs_st, vIs_st, vIs_st, vIs_st, vIs_st, vIs_st, vIs_st, vIs_st, trivial⟩) (Below.refl _ wr).drew (Below.refl _ _) ?_ ?_)
          · refine ⟨?_, ?_, ?_, ?_, ?_, ?_, ?_, ?_, ?_, ?_, trivial⟩
            · intro a W hG hR hO hp
              have h5 := hO.slot 5 (by kernel_rfl)
              refine wp_yields (v := .func (.func 74) #[] #[.pointer (some ⟨w.heap.size + 1, 0, none⟩)]) ?_ ⟨_, rfl, rfl, Below.refl _ _, hG⟩
              simp [slotOf] at h5
              simp [execOp, go_sem, h5]
            · intro a W hG hR hO hp
              have h9 := hO.slot 9 (by kernel_rfl)
              refine wp_yields (v := vi i) ?_ ⟨_, rfl, rfl, Below.refl _ _, hG⟩
              simp [slotOf] at h9
              simp [execOp, go_sem, h9]
            · intro a W hG hR hO hp
              have h48 : slotOf a 48 = vi i := hp.1
              refine wp_yields (v := vi (2 + i : Nat)) ?_ ⟨_, rfl, rfl, Below.refl _ _, hG⟩
              simp [slotOf] at h48
              simp [execOp, go_sem, h48, e49]
            · intro a W hG hR hO hp
              have h47 : slotOf a 47 = .func (.func 74) #[] #[.pointer (some ⟨w.heap.size + 1, 0, none⟩)] := hp.1
              have h49 : slotOf a 49 = vi (2 + i : Nat) := hp.2.1
              refine wp_enters (f := 74) (args := #[vi ((2 + i) : Nat), .pointer (some ⟨w.heap.size + 1, 0, none⟩)]) ?_ ((HWD.out W hG).mono ?_)
              · simp [slotOf] at h47 h49
                simp [go_sem, h47, h49]
              · rintro e w' ⟨rfl, hb⟩
                exact ⟨_, rfl, _, rfl, rfl, hb, below_next hG hb⟩
            · intro a W hG hR hO hp
              have h2 := hO.slot 2 (by kernel_rfl)
              refine wp_yields (v := .pointer (some ⟨w.heap.size, 0, none⟩)) ?_ ⟨_, rfl, rfl, Below.refl _ _, hG⟩
              simp [slotOf] at h2
              simp [execOp, go_sem, h2]
            · intro a W hG hR hO hp
              have h51 : slotOf a 51 = .pointer (some ⟨w.heap.size, 0, none⟩) := hp.1
              have c0 := keep_cell x0 hG
              refine wp_yields (v := .slice (some ⟨sa, so, none⟩) s.cs.length s.c) ?_ ⟨_, rfl, rfl, Below.refl _ _, hG⟩
              simp [slotOf] at h51
              simp [execOp, go_sem, h51, c0]
            · intro a W hG hR hO hp
              have h52 : slotOf a 52 = .slice (some ⟨sa, so, none⟩) s.cs.length s.c := hp.1
              refine wp_yields (v := .pointer (some ⟨sa, so, none⟩)) ?_ ⟨_, rfl, rfl, Below.refl _ _, hG⟩
              simp [slotOf] at h52
              simp [execOp, go_sem, h52, hcne]
            · intro a W hG hR hO hp
              have h53 : slotOf a 53 = .pointer (some ⟨sa, so, none⟩) := hp.1
              have c0 := keep_cell cy hG
              refine wp_yields (v := .slice y0.a n y0.cp) ?_ ⟨_, rfl, rfl, Below.refl _ _, hG⟩
              simp [slotOf] at h53
              simp [execOp, go_sem, h53, c0]
            · intro a W hG hR hO hp
              have h54 : slotOf a 54 = .slice y0.a n y0.cp := hp.1
              refine wp_yields (v := .int .i64 n) ?_ ⟨_, rfl, rfl, Below.refl _ _, hG⟩
              simp [slotOf] at h54
              simp [go_sem, h54]
            · intro a W hG hR hO hp
              have h50 : slotOf a 50 = vi ai := hp.1
              have h55 : slotOf a 55 = .int .i64 n := hp.2.1
              refine wp_yields (v := vi z0) ?_ ⟨_, rfl, rfl, Below.refl _ _, hG⟩
              simp [slotOf] at h50 h55
              simp [execOp, go_sem, h50, h55, er56, hz56]
          · intro w8 hG hR
            rintro _ rfl _ rfl _ rfl _ rfl _ rfl _ rfl _ rfl _ rfl _ rfl _ rfl
            change wpList _ _ _ _ _ _
            simp only [Act.put, List.setIfInBounds_toArray, List.set_cons_zero, List.set_cons_succ, List.drop_succ_cons, List.drop_zero]
            have HJ8 := Lib.hid (HJ.out.next hG)
            by_cases hi0 : i = 0
            · have HWY : Hid (wayB n (l ++ [z0])) := Lib.hid (by
                have h1 : l = [] := List.eq_nil_of_length_eq_zero (by rw [HLI.out]; exact hi0)
                rw [h1]
                exact ⟨hz0, fun y hy => by simp at hy, trivial⟩)
              have hi1 : ¬ (0 < i) := by omega
              have hi2 : ¬ (0 < (i : Int)) := by omega
              have HJ := HJ8
              have HPL : Hid (l ++ [z0] = pathL (wdN ws) n (i + 1)) := Lib.hid (by
                have h1 : l = [] := List.eq_nil_of_length_eq_zero (by rw [HLI.out]; exact hi0)
                rw [pathL, ← HPP.out, h1, ← HAI.out, HZ0.out]
                rfl)
              clear hG hR x0 cy HWD HJ8 hi0 e49 er56 hz56
              have hn1 := newer_allocH w8 (.cells #[vi z0] 3)
              have HJ3 := Lib.hid (HJ.out.next hn1)
              have HCW : Hid ((w8.alloc (.cells #[vi z0] 3)).cell? ⟨w8.heap.size, 0, none⟩ = some (vi z0)) := Lib.hid ((Whole.made w8 3 #[vi z0]).at 0 rfl)
              have HLB := Lib.hid (show l.length ≤ 12 by have := HLI.out; omega)
              clear hn1
              have u1 := HJ.out.bx.at 1 (v := .slice A l.length c) rfl
              go_wp2_with (at_builtin; go_loud ((refine wpList_plain rfl fun _ hK => wp_append_one (.tmp 81) (.tmp 83) 25 rfl w.heap.size 3 i0 (.int .i64 0) 8 Try.underlying25 HI.out.1 HI.out.2.1 HI.out.2.2.1 HI.out.2.2.2 rfl A l.length c (l.map fun x : Nat => vi x) rfl HJ3.out.own ⟨w8.heap.size, 0, none⟩ 1 (vi z0) rfl HCW.out rfl (by have := HLB.out; unfold maxLen; omega) (by have := HLB.out; omega) HJ3.out.nw.size fun g2 c2 w5 hown hwh => hK _ _ ?_); have HE := Lib.hid (HJ3.out.app hown hwh); have p1 := HE.out.1.at 1 (v := .slice A l.length c) rfl; have pf1 := HE.out.1.free 1; clear hown hwh))
              refine ⟨⟨i + 1, l ++ [z0], some ⟨g2, 0, none⟩, c2, rfl, by omega, by rw [List.length_append, HLI.out]; rfl, HWY.out, HPL.out, HE.out.2⟩, ?_⟩
              simp [intOf]
              omega
            · obtain ⟨i1, hi1e⟩ : ∃ i1, i1 = i - 1 := ⟨_, rfl⟩
              have hi1p : (0 < i) := by omega
              have hi2 : (0 < (i : Int)) := by omega
              have e62 : IntKind.i64.wrap ((i : Int) - 1) = i1 := by rw [show (i1 : Int) = (i : Int) - 1 by omega]; exact IntWalk.i64_in _ (by omega)
              obtain ⟨p, hp⟩ := get_of_lt (l := l) (k := i1) (by have := HLI.out; omega)
              have hi1 : (i1 : Int) < l.length := by have := HLI.out; omega
              have hlast : l.getLast? = some p := by rw [List.getLast?_eq_getElem?, HLI.out, ← hi1e]; exact hp
              have hpn : p < n := way_all l HWL.out p (List.mem_of_getElem? hp)
              obtain ⟨lg, lo, eA, _, cp⟩ := own_nat HJ8.out.own hp
              have u1 := HJ8.out.bx.at 1 (v := .slice A l.length c) rfl
              have x0 := keep_cell x0 hG
              have cy := keep_cell cy hG
              have HEA := Lib.hid eA
              rw [eA] at u1
              have hcl0 : ¬ (l = []) := by intro h; rw [h] at hp; simp at hp
              have e65 : IntKind.i64.wrap ((p : Int) - 1) = (p : Int) - 1 := IntWalk.i64_in _ (by omega)
              have e78 : IntKind.i64.wrap ((n : Int) - 1) = (n : Int) - 1 := IntWalk.i64_in _ (by omega)
              have HWD : Hid (∀ (W : World), newer w8 W → Calls Try.prog 74 #[vi (2 + i : Nat), .pointer (some ⟨w.heap.size + 1, 0, none⟩)] W fun e w' => e = .returned (vi ai) ∧ newer W w') := Lib.hid (fun W hW => HWD.out W (newer_trans hG hW))
              obtain ⟨q3, hq3⟩ : ∃ q : Nat, q = ai % 3 := ⟨_, rfl⟩
              have er70 : (ai : Int).tmod 3 = q3 := by rw [hq3]; exact rem_natE _ _
              have hq3l : q3 ≤ 2 := by omega
              have e71 : IntKind.i64.wrap ((p : Int) - 1 + q3) = (p : Int) - 1 + q3 := IntWalk.i64_in _ (by omega)
              obtain ⟨z, hzz, hz1, hz2, hz⟩ : ∃ z : Nat, mnI (mxI 0 ((p : Int) - 1 + q3)) ((n : Int) - 1) = z ∧ p ≤ z + 1 ∧ z ≤ p + 1 ∧ z < n := ⟨(mnI (mxI 0 ((p : Int) - 1 + q3)) ((n : Int) - 1)).toNat, by unfold mnI mxI; split <;> split <;> omega, by unfold mnI mxI; split <;> split <;> omega, by unfold mnI mxI; split <;> split <;> omega, by unfold mnI mxI; split <;> split <;> omega⟩
              have hzI := Lib.hid hzz
              have HPL : Hid (l ++ [z] = pathL (wdN ws) n (i + 1)) := Lib.hid (by
                rw [pathL, ← HPP.out, ← HAI.out]
                unfold stepP
                rw [hlast]
                simp only
                rw [← hq3, hzz, Int.toNat_natCast])
              clear hzz hq3
              have HP := Lib.hid (And.intro hlast hz0)
              clear hG hR hi0 hp hlast eA hi1e hz0 er56 hz56
              go_upto_region 10 with fail
              refine wp_words (by kernel_rfl) (region_told 21 (by kernel_rfl) (by kernel_rfl) (fun W => Below w8.heap.size w8 W) newer (pickD [vIs (.pointer (some ⟨ub, 1, none⟩)), vIs (.slice (some ⟨lg, lo, none⟩) l.length c), vIs (vi i), vIs (vi i1), vIs (.pointer (some ⟨lg, lo + i1, none⟩)), vIs (vi p), vIs (vi ((p : Int) - 1)), vIs (.func (.func 74) #[] #[.pointer (some ⟨w.heap.size + 1, 0, none⟩)]), vIs (vi i), vIs (vi (2 + i : Nat)), vIs (vi ai), vIs (vi q3), vIs (vi ((p : Int) - 1 + q3)), vIs (vi (mxI 0 ((p : Int) - 1 + q3))), vIs (.pointer (some ⟨w.heap.size, 0, none⟩)), vIs (.slice (some ⟨sa, so, none⟩) s.cs.length s.c), vIs (.pointer (some ⟨sa, so, none⟩)), vIs (.slice y0.a n y0.cp), vIs (.int .i64 n), vIs (vi ((n : Int) - 1)), vIs (vi z)]) (fun h k => newer_trans h k) (pickD_stable _ ⟨vIs_st, vIs_st, vIs_st, vIs_st, vIs_st, vIs_st, vIs_st, vIs_st, vIs_st, vIs_st, vIs_st, vIs_st, vIs_st, vIs_st, vIs_st, vIs_st, vIs_st, vIs_st, vIs_st, vIs_st, vIs_st, trivial⟩) (Below.refl _ w8).drew (Below.refl _ _) ?_ ?_)
              · refine ⟨?_, ?_, ?_, ?_, ?_, ?_, ?_, ?_, ?_, ?_, ?_, ?_, ?_, ?_, ?_, ?_, ?_, ?_, ?_, ?_, ?_, trivial⟩
                · intro a W hG hR hO hp
                  have h7 := hO.slot 7 (by kernel_rfl)
                  refine wp_yields (v := .pointer (some ⟨ub, 1, none⟩)) ?_ ⟨_, rfl, rfl, Below.refl _ _, hG⟩
                  simp [slotOf] at h7
                  simp [execOp, go_sem, h7]
                · intro a W hG hR hO hp
                  have h59 : slotOf a 59 = .pointer (some ⟨ub, 1, none⟩) := hp.1
                  have c0 := keep_cell u1 hG
                  refine wp_yields (v := .slice (some ⟨lg, lo, none⟩) l.length c) ?_ ⟨_, rfl, rfl, Below.refl _ _, hG⟩
                  simp [slotOf] at h59
                  simp [execOp, go_sem, h59, c0]
                · intro a W hG hR hO hp
                  have h9 := hO.slot 9 (by kernel_rfl)
                  refine wp_yields (v := vi i) ?_ ⟨_, rfl, rfl, Below.refl _ _, hG⟩
                  simp [slotOf] at h9
                  simp [execOp, go_sem, h9]
                · intro a W hG hR hO hp
                  have h61 : slotOf a 61 = vi i := hp.1
                  refine wp_yields (v := vi i1) ?_ ⟨_, rfl, rfl, Below.refl _ _, hG⟩
                  simp [slotOf] at h61
                  simp [execOp, go_sem, h61, e62]
                · intro a W hG hR hO hp
                  have h60 : slotOf a 60 = .slice (some ⟨lg, lo, none⟩) l.length c := hp.1
                  have h62 : slotOf a 62 = vi i1 := hp.2.1
                  refine wp_yields (v := .pointer (some ⟨lg, lo + i1, none⟩)) ?_ ⟨_, rfl, rfl, Below.refl _ _, hG⟩
                  simp [slotOf] at h60 h62
                  simp [execOp, go_sem, h60, h62, hi1]
                · intro a W hG hR hO hp
                  have h63 : slotOf a 63 = .pointer (some ⟨lg, lo + i1, none⟩) := hp.1
                  have c0 := keep_cell cp hG
                  refine wp_yields (v := vi p) ?_ ⟨_, rfl, rfl, Below.refl _ _, hG⟩
                  simp [slotOf] at h63
                  simp [execOp, go_sem, h63, c0]
                · intro a W hG hR hO hp
                  have h64 : slotOf a 64 = vi p := hp.1
                  refine wp_yields (v := vi ((p : Int) - 1)) ?_ ⟨_, rfl, rfl, Below.refl _ _, hG⟩
                  simp [slotOf] at h64
                  simp [execOp, go_sem, h64, e65]
                · intro a W hG hR hO hp
                  have h5 := hO.slot 5 (by kernel_rfl)
                  refine wp_yields (v := .func (.func 74) #[] #[.pointer (some ⟨w.heap.size + 1, 0, none⟩)]) ?_ ⟨_, rfl, rfl, Below.refl _ _, hG⟩
                  simp [slotOf] at h5
                  simp [execOp, go_sem, h5]
                · intro a W hG hR hO hp
                  have h9 := hO.slot 9 (by kernel_rfl)
                  refine wp_yields (v := vi i) ?_ ⟨_, rfl, rfl, Below.refl _ _, hG⟩
                  simp [slotOf] at h9
                  simp [execOp, go_sem, h9]
                · intro a W hG hR hO hp
                  have h67 : slotOf a 67 = vi i := hp.1
                  refine wp_yields (v := vi (2 + i : Nat)) ?_ ⟨_, rfl, rfl, Below.refl _ _, hG⟩
                  simp [slotOf] at h67
                  simp [execOp, go_sem, h67, e49]
                · intro a W hG hR hO hp
                  have h66 : slotOf a 66 = .func (.func 74) #[] #[.pointer (some ⟨w.heap.size + 1, 0, none⟩)] := hp.1
                  have h68 : slotOf a 68 = vi (2 + i : Nat) := hp.2.1
                  refine wp_enters (f := 74) (args := #[vi ((2 + i) : Nat), .pointer (some ⟨w.heap.size + 1, 0, none⟩)]) ?_ ((HWD.out W hG).mono ?_)
                  · simp [slotOf] at h66 h68
                    simp [go_sem, h66, h68]
                  · rintro e w' ⟨rfl, hb⟩
                    exact ⟨_, rfl, _, rfl, rfl, hb, below_next hG hb⟩
                · intro a W hG hR hO hp
                  have h69 : slotOf a 69 = vi ai := hp.1
                  refine wp_yields (v := vi q3) ?_ ⟨_, rfl, rfl, Below.refl _ _, hG⟩
                  simp [slotOf] at h69
                  simp [execOp, go_sem, h69, er70]
                · intro a W hG hR hO hp
                  have h65 : slotOf a 65 = vi ((p : Int) - 1) := hp.1
                  have h70 : slotOf a 70 = vi q3 := hp.2.1
                  refine wp_yields (v := vi ((p : Int) - 1 + q3)) ?_ ⟨_, rfl, rfl, Below.refl _ _, hG⟩
                  simp [slotOf] at h65 h70
                  simp [execOp, go_sem, h65, h70, e71]
                · intro a W hG hR hO hp
                  have h71 : slotOf a 71 = vi ((p : Int) - 1 + q3) := hp.1
                  refine wp_yields (v := vi (mxI 0 ((p : Int) - 1 + q3))) ?_ ⟨_, rfl, rfl, Below.refl _ _, hG⟩
                  simp [slotOf] at h71
                  simp [go_sem, h71, mxI]
                · intro a W hG hR hO hp
                  have h2 := hO.slot 2 (by kernel_rfl)
                  refine wp_yields (v := .pointer (some ⟨w.heap.size, 0, none⟩)) ?_ ⟨_, rfl, rfl, Below.refl _ _, hG⟩
                  simp [slotOf] at h2
                  simp [execOp, go_sem, h2]
                · intro a W hG hR hO hp
                  have h73 : slotOf a 73 = .pointer (some ⟨w.heap.size, 0, none⟩) := hp.1
                  have c0 := keep_cell x0 hG
                  refine wp_yields (v := .slice (some ⟨sa, so, none⟩) s.cs.length s.c) ?_ ⟨_, rfl, rfl, Below.refl _ _, hG⟩
                  simp [slotOf] at h73
                  simp [execOp, go_sem, h73, c0]
                · intro a W hG hR hO hp
                  have h74 : slotOf a 74 = .slice (some ⟨sa, so, none⟩) s.cs.length s.c := hp.1
                  refine wp_yields (v := .pointer (some ⟨sa, so, none⟩)) ?_ ⟨_, rfl, rfl, Below.refl _ _, hG⟩
                  simp [slotOf] at h74
                  simp [execOp, go_sem, h74, hcne]
                · intro a W hG hR hO hp
                  have h75 : slotOf a 75 = .pointer (some ⟨sa, so, none⟩) := hp.1
                  have c0 := keep_cell cy hG
                  refine wp_yields (v := .slice y0.a n y0.cp) ?_ ⟨_, rfl, rfl, Below.refl _ _, hG⟩
                  simp [slotOf] at h75
                  simp [execOp, go_sem, h75, c0]
                · intro a W hG hR hO hp
                  have h76 : slotOf a 76 = .slice y0.a n y0.cp := hp.1
                  refine wp_yields (v := .int .i64 n) ?_ ⟨_, rfl, rfl, Below.refl _ _, hG⟩
                  simp [slotOf] at h76
                  simp [go_sem, h76]
                · intro a W hG hR hO hp
                  have h77 : slotOf a 77 = .int .i64 n := hp.1
                  refine wp_yields (v := vi ((n : Int) - 1)) ?_ ⟨_, rfl, rfl, Below.refl _ _, hG⟩
                  simp [slotOf] at h77
                  simp [execOp, go_sem, h77, e78]
                · intro a W hG hR hO hp
                  have h72 : slotOf a 72 = vi (mxI 0 ((p : Int) - 1 + q3)) := hp.1
                  have h78 : slotOf a 78 = vi ((n : Int) - 1) := hp.2.1
                  refine wp_yields (v := vi z) ?_ ⟨_, rfl, rfl, Below.refl _ _, hG⟩
                  simp [slotOf] at h72 h78
                  rw [← hzI.out]
                  simp [go_sem, h72, h78, mnI]
              · intro w10 hG hR
                rintro _ rfl _ rfl _ rfl _ rfl _ rfl _ rfl _ rfl _ rfl _ rfl _ rfl _ rfl _ rfl _ rfl _ rfl _ rfl _ rfl _ rfl _ rfl _ rfl _ rfl _ rfl
                change wpList _ _ _ _ _ _
                simp only [Act.put, List.setIfInBounds_toArray, List.set_cons_zero, List.set_cons_succ, List.drop_succ_cons, List.drop_zero]
                have HWY : Hid (wayB n (l ++ [z])) := Lib.hid (way_snoc l z hz HWL.out (fun y hy => by
                  rw [HP.out.1] at hy
                  injection hy with hy
                  omega))
                have HJ := Lib.hid (HJ8.out.next hG)
                clear hG hR x0 cy HWD HJ8 u1 cp e49 e62 e65 e78 er70 e71 hq3l
                have hn1 := newer_allocH w10 (.cells #[vi z] 3)
                have HJ3 := Lib.hid (HJ.out.next hn1)
                have HCW : Hid ((w10.alloc (.cells #[vi z] 3)).cell? ⟨w10.heap.size, 0, none⟩ = some (vi z)) := Lib.hid ((Whole.made w10 3 #[vi z]).at 0 rfl)
                have HLB := Lib.hid (show l.length ≤ 12 by have := HLI.out; omega)
                clear hn1
                have u1 := HJ.out.bx.at 1 (v := .slice A l.length c) rfl
                go_wp2_with (at_builtin; go_loud ((refine wpList_plain rfl fun _ hK => wp_append_one (.tmp 81) (.tmp 83) 25 rfl w.heap.size 3 i0 (.int .i64 0) 8 Try.underlying25 HI.out.1 HI.out.2.1 HI.out.2.2.1 HI.out.2.2.2 rfl A l.length c (l.map fun x : Nat => vi x) rfl HJ3.out.own ⟨w10.heap.size, 0, none⟩ 1 (vi z) rfl HCW.out rfl (by have := HLB.out; unfold maxLen; omega) (by have := HLB.out; omega) HJ3.out.nw.size fun g2 c2 w5 hown hwh => hK _ _ ?_); have HE := Lib.hid (HJ3.out.app hown hwh); have p1 := HE.out.1.at 1 (v := .slice A l.length c) rfl; have pf1 := HE.out.1.free 1; clear hown hwh))
                refine ⟨⟨i + 1, l ++ [z], some ⟨g2, 0, none⟩, c2, rfl, by omega, by rw [List.length_append, HLI.out]; rfl, HWY.out, HPL.out, HE.out.2⟩, ?_⟩
                simp [intOf]
                omega
        · obtain rfl : i = m := by omega
          have r0 := HJ.out.rb.at 0 (v := vi 0) rfl
          have r1 := HJ.out.rb.at 1 (v := .slice none 0 0) rfl
          have f0 := HJ.out.rb.free 0
          have f1 := HJ.out.rb.free 1
          have u0 := HJ.out.bx.at 0 (v := vi k) rfl
          have u1 := HJ.out.bx.at 1 (v := .slice A l.length c) rfl
          have hset := (HJ.out.rb.set 0 (vi k)).set 1 (.slice A l.length c)
          have z0 := hset.at 0 (v := vi k) rfl
          have z1 := hset.at 1 (v := .slice A l.length c) rfl
          have HF : Hid (newer w ((wr.setCell ⟨w.heap.size + 1 + 1, 0, none⟩ (vi k)).setCell ⟨w.heap.size + 1 + 1, 1, none⟩ (.slice A l.length c)) ∧ ((wr.setCell ⟨w.heap.size + 1 + 1, 0, none⟩ (vi k)).setCell ⟨w.heap.size + 1 + 1, 1, none⟩ (.slice A l.length c)).ownsRow w.heap.size 3 1 (.slice A l.length c) l.length (l.map fun x : Nat => vi x)) := Lib.hid ⟨(HJ.out.nw.setCell (p := ⟨w.heap.size + 1 + 1, 0, none⟩) (by show w.heap.size ≤ w.heap.size + 1 + 1; omega) _).setCell (p := ⟨w.heap.size + 1 + 1, 1, none⟩) (by show w.heap.size ≤ w.heap.size + 1 + 1; omega) _, own_set (own_set HJ.out.own (own_ne HJ.out.own HJ.out.rb (by decide)) _) (own_ne HJ.out.own HJ.out.rb (by decide)) _⟩
          have HEN : Hid (k = pathK (wdN ws) s.cs.length K ∧ l = pathL (wdN ws) n (pathM (wdN ws) s.cs.length K)) := Lib.hid ⟨HPK.out, by rw [← HPM.out]; exact HPP.out⟩
          clear x0 cy HWD hset er56 hz56
          go_wp2_with fail
          refine bodyPost_ret (v := .agg #[vi k, .slice A l.length c]) (by simp [results, Try.results40, go_sem, z0, z1]) rfl ⟨⟨k, l.map (fun x : Nat => (x : Int)), A, c⟩, by simp [suV, suC], ?_, ?_, ?_, ?_, HF.out.1⟩
          · exact (row_nats rfl HF.out.2).2
          · show (k : Int) = _
            rw [← HEN.out.1]
          · show l.map _ = _
            rw [← HEN.out.2]
          · rw [← HEN.out.1, ← HEN.out.2]
            exact ⟨by have := HLI.out; have := HMK.out; omega, by have := HLI.out; have := HMK.out; omega, HWL.out⟩
end

end Go.Proofs.Ytkenokpobbichaa
