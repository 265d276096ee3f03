/- A ground is put on its way: begin, after, now; and the truth of all lesser, or of all greater ends. -/
import Derived.Test.YteonkhohloabfaaI
import Derived.Laws.CopyOwn
import Derived.Outline
import Derived.Laws.EntriesVeiled
import Derived.Deep.AppendLies
namespace Go.Proofs.Yteonkhohloabfaa
open Go.RowKit

abbrev truthV (snow soak : Int) (L : Option Addr) (nl lp : Nat) (R : Option Addr) (nr rp : Nat) : Value := .agg #[vi snow, vi soak, .slice L nl lp, .slice R nr rp]

theorem splice_way (s : Way) (snow : Int) (levels : List Int) (h : levels.length ≤ 8) : splice (wayCs s (fun _ => 0) snow 0).toList 11 (levels.map vi) = (wayCs s (iAt levels) snow 0).toList := by
  match levels, h with
  | [], _ => rfl
  | [_], _ => rfl
  | [_, _], _ => rfl
  | [_, _, _], _ => rfl
  | [_, _, _, _], _ => rfl
  | [_, _, _, _, _], _ => rfl
  | [_, _, _, _, _, _], _ => rfl
  | [_, _, _, _, _, _, _], _ => rfl
  | [_, _, _, _, _, _, _, _], _ => rfl
  | _ :: _ :: _ :: _ :: _ :: _ :: _ :: _ :: _ :: _, h => simp at h

theorem add_row (b off j : Nat) : (⟨b, off, none⟩ : Addr).add j = ⟨b, off + j, none⟩ := by
  unfold Addr.add
  split <;> simp_all

/-- The block of a ground that has just begun. -/
def begun (w : World) (s : Way) (e : Ending) (w' : World) : Prop := ∃ b, e = .returned (.pointer (some ⟨b, 0, none⟩)) ∧ w.heap.size ≤ b ∧ OnWay w' b s (iAt s.levels) s.tsnow 0 ∧ Below w.heap.size w w'

set_option maxRecDepth 100000 in
set_option maxHeartbeats 1000000 in
theorem begin_any (s : Way) (w : World) (h8 : s.levels.length ≤ 8) (hc : Row cellL 7 w w.heap.size s.A s.l) (hd : Row dayL 3 w w.heap.size s.D s.days) (hl : Row intL 1 w w.heap.size s.L s.levels) (hr : Row intL 1 w w.heap.size s.R s.rain) :
    Calls Try.prog 52 #[.agg #[.slice s.A s.l.length s.ap, vi s.slo, vi s.shi, vi s.klo, vi s.khi, vi s.melt], .slice s.D s.days.length s.dp, truthV s.tsnow s.soak s.L s.levels.length s.lp s.R s.rain.length s.rp] w (begun w s) := by
  obtain ⟨l, A, ap, slo, shi, klo, khi, melt, days, D, dp, tsnow, soak, levels, L, lp, rain, R, rp⟩ := s
  dsimp only at h8 hc hd hl hr ⊢
  go_enter Try.func52, Try.ntmps52
  go_wp2
  refine wp_region_still_tail 6 (by kernel_rfl) (by kernel_rfl) ?_
  simp only [List.take_succ_cons, List.take_zero, List.drop_succ_cons, List.drop_zero]
  change wpStill Try.prog _ (World.drew _) _ _ _
  repeat still_step
  refine wpStill_nil ?_
  change wpList _ _ _ _ _ (World.drew _)
  have hB : Below w.heap.size w (((w.alloc (.cells #[.slice A l.length ap, vi slo, vi shi, vi klo, vi khi, vi melt] 38)).alloc (.cells #[vi tsnow, vi soak, .slice L levels.length lp, .slice R rain.length rp] 63)).alloc
      (.cells (wayCs ⟨l, A, ap, slo, shi, klo, khi, melt, days, D, dp, tsnow, soak, levels, L, lp, rain, R, rp⟩ (fun _ => 0) tsnow 0) 119)).drew := ((((Below.refl _ _).alloc (Nat.le_refl _) _).alloc (by simp) _).alloc (by simp; omega) _).drew
  have hl2 := hl.below hB
  have hw : (((w.alloc (.cells #[.slice A l.length ap, vi slo, vi shi, vi klo, vi khi, vi melt] 38)).alloc (.cells #[vi tsnow, vi soak, .slice L levels.length lp, .slice R rain.length rp] 63)).alloc
      (.cells (wayCs ⟨l, A, ap, slo, shi, klo, khi, melt, days, D, dp, tsnow, soak, levels, L, lp, rain, R, rp⟩ (fun _ => 0) tsnow 0) 119)).drew.heap[w.heap.size + 1 + 1]? = some (.cells (wayCs ⟨l, A, ap, slo, shi, klo, khi, melt, days, D, dp, tsnow, soak, levels, L, lp, rain, R, rp⟩ (fun _ => 0) tsnow 0).toList.toArray 119 (0, 0)) := by
    have := Whole.made ((w.alloc (.cells #[.slice A l.length ap, vi slo, vi shi, vi klo, vi khi, vi melt] 38)).alloc (.cells #[vi tsnow, vi soak, .slice L levels.length lp, .slice R rain.length rp] 63)) 119 (wayCs ⟨l, A, ap, slo, shi, klo, khi, melt, days, D, dp, tsnow, soak, levels, L, lp, rain, R, rp⟩ (fun _ => 0) tsnow 0)
    rw [World.size_alloc, World.size_alloc] at this
    exact this
  refine wpList_copy_splice rfl (.tmp 18) (.tmp 20) 43 43 rfl 3 Try.underlying43 (by kernel_rfl) (some ⟨w.heap.size + 1 + 1, 11, none⟩) L 8 8 levels.length lp rfl rfl (w.heap.size + 1 + 1) 11 _ 119 hw (levels.map vi) (by simp only [List.length_map]; exact (Nat.min_eq_left h8).symm) ?_ (by simp [wayCs]; omega) (by simp [Value.oneCell']) w.heap.size w hB (by omega) ?_
  · intro h0
    refine ⟨rfl, ?_⟩
    obtain ⟨b, off, e, _, hcell⟩ := hl2 (by intro e; simp [e] at h0)
    refine ⟨_, e, fun j v hv => ?_⟩
    rw [List.getElem?_map] at hv
    obtain ⟨n, hn, rfl⟩ := Option.map_eq_some_iff.1 hv
    have := hcell j n hn 0 _ rfl
    rw [add_row]
    simp only [Nat.mul_one, Nat.add_zero] at this
    exact this
  · intro w' hH hB'
    rw [splice_way _ _ _ h8] at hH
    have HE : Hid (begun w ⟨l, A, ap, slo, shi, klo, khi, melt, days, D, dp, tsnow, soak, levels, L, lp, rain, R, rp⟩ (.returned (.pointer (some ⟨w.heap.size + 1 + 1, 0, none⟩))) w') :=
      ⟨_, rfl, by omega, ⟨by have := hH.out; simpa [Whole] using this, (hc.below hB').more (by omega), (hd.below hB').more (by omega), (hl.below hB').more (by omega), (hr.below hB').more (by omega)⟩, hB'⟩
    clear hH hB' hw hl2 hB hc hd hl hr
    go_wp2
    go_ret
    exact HE.out

set_option maxHeartbeats 400000 in
theorem after_any (b : Nat) (w : World) :
    Calls Try.prog 56 #[.pointer (some ⟨b, 0, none⟩)] w fun e w' => e = .returned (.func (.func 86) #[] #[.pointer (some ⟨w.heap.size, 0, none⟩)]) ∧ w.alloc (.cells #[.pointer (some ⟨b, 0, none⟩)] 107) = w' := by
  go_enter Try.func56, Try.ntmps56
  go_wp2
  go_ret
  exact ⟨rfl, rfl⟩

/-- The number of a choice: 84 for the lesser ends, 85 for the greater ones. -/
def endF (hi : Bool) : Nat := if hi then 85 else 84
def endOf (hi : Bool) (a b : Int) : Int := if hi then b else a
abbrev choiceV (hi : Bool) : Value := .agg #[.func (.func (endF hi)) #[] #[]]
set_option maxHeartbeats 400000 in
theorem least_any (w : World) : Calls Try.prog 53 #[] w fun e w' => e = .returned (choiceV false) ∧ Below w.heap.size w w' := by
  go_enter Try.func53, Try.ntmps53
  go_wp2
  exact bodyPost_ret (v := choiceV false) (by simp [results, Try.results53, go_sem, endF]) rfl ⟨rfl, (Below.refl _ _).alloc (Nat.le_refl _) _⟩
set_option maxHeartbeats 400000 in
theorem most_any (w : World) : Calls Try.prog 55 #[] w fun e w' => e = .returned (choiceV true) ∧ Below w.heap.size w w' := by
  go_enter Try.func55, Try.ntmps55
  go_wp2
  exact bodyPost_ret (v := choiceV true) (by simp [results, Try.results55, go_sem, endF]) rfl ⟨rfl, (Below.refl _ _).alloc (Nat.le_refl _) _⟩
theorem end_any (hi : Bool) (lo hi' : Int) (w : World) :
    Calls Try.prog (endF hi) #[.agg #[.int .i64 lo, .int .i64 hi']] w fun e w' => e = .returned (.int .i64 (endOf hi lo hi')) ∧ Below w.heap.size w w' := by
  cases hi
  · exact low_any lo hi' w
  · exact high_any lo hi' w

/-- A truth on its way: its block, and those of what came in. -/
structure TruthMid (w : World) (fn : Nat) (a b : Int) (cs : Array Value) (tb : Nat) (lv rn : Value) (W : World) : Prop where
  b0 : Whole W w.heap.size 111 #[.func (.func fn) #[] #[]]
  b1 : Whole W (w.heap.size + 1) 38 cs
  b2 : Whole W (w.heap.size + 1 + 1) 63 #[.int .i64 0, .int .i64 0, .slice none 0 0, .slice none 0 0]
  bt : Whole W tb 63 #[vi a, vi b, lv, rn]
  far : w.heap.size + 1 + 1 < tb
  below : Below w.heap.size w W

theorem own_ne {w : World} {base : Nat} {e : TypeId} {size n : Nat} {v : Value} {xs : List Value} {g : Nat} {t : TypeId} {cs : Array Value} (h : w.ownsRow base e size v n xs) (hg : Whole w g t cs) (hne : e ≠ t) : v.ownBlock ≠ some g := by
  rcases h.2 with ⟨rfl, _⟩ | ⟨g', cap, cur, rfl, _, hh, _⟩
  · simp [Value.ownBlock]
  · intro he
    have e1 : g' = g := by simpa [Value.ownBlock] using he
    subst e1
    unfold Whole at hg
    rw [hh] at hg
    injection hg with hg
    injection hg with _ ht
    exact hne ht
theorem own_ge {w : World} {base : Nat} {e : TypeId} {size n : Nat} {v : Value} {xs : List Value} (h : w.ownsRow base e size v n xs) : ∀ k, v.ownBlock = some k → base ≤ k := by
  intro k hk
  rcases h.2 with ⟨rfl, _⟩ | ⟨g', cap, cur, rfl, hb, _⟩
  · simp [Value.ownBlock] at hk
  · have e1 : g' = k := by simpa [Value.ownBlock] using hk
    omega
theorem own_form {w : World} {base : Nat} {e : TypeId} {size n : Nat} {v : Value} {xs : List Value} (h : w.ownsRow base e size v n xs) : ∃ A cap, v = .slice A n cap := by
  rcases h.2 with ⟨rfl, rfl⟩ | ⟨g', cap, cur, rfl, _⟩
  · exact ⟨_, _, rfl⟩
  · exact ⟨_, _, rfl⟩
theorem row_of_own {α : Type} {enc : α → List Value} {w : World} {base : Nat} {e : TypeId} {size n cap : Nat} {A : Option Addr} {l : List α} (hs : 0 < size) (he : ∀ x, (enc x).length = size) (h : w.ownsRow base e size (.slice A n cap) n (l.flatMap enc)) : Row enc size w w.heap.size A l := by
  intro hl
  have hlen : (l.flatMap enc).length = l.length * size := by
    clear h hl
    induction l with
    | nil => simp
    | cons x l ih => simp [List.flatMap_cons, ih, he, Nat.add_mul]; omega
  rcases h.2 with ⟨h1, rfl⟩ | ⟨g, cap', cur, h1, hb, hh, hn, _, hcur, htake⟩
  · have := h.1
    rw [hlen] at this
    injection h1 with h2 h3 h4
    rcases l with _ | ⟨x, l⟩
    · exact absurd rfl hl
    · simp at this
      exact absurd this (Nat.ne_of_gt (Nat.mul_pos (Nat.succ_pos l.length) hs))
  · injection h1 with h2 h3 h4
    refine ⟨g, 0, h2, (Array.getElem?_eq_some_iff.1 hh).1, fun k x hk j v hv => ?_⟩
    have hj : j < size := by rw [← he x]; exact (List.getElem?_eq_some_iff.1 hv).1
    have hget : (l.flatMap enc)[k * size + j]? = some v := by
      clear h hlen htake hl
      induction l generalizing k with
      | nil => simp at hk
      | cons y l ih =>
        cases k with
        | zero =>
          simp at hk; subst hk
          simp only [List.flatMap_cons, Nat.zero_mul, Nat.zero_add]
          rw [List.getElem?_append_left (by rw [he]; exact hj)]; exact hv
        | succ k =>
          simp only [List.getElem?_cons_succ] at hk
          simp only [List.flatMap_cons]
          rw [List.getElem?_append_right (by rw [he]; simp [Nat.add_mul]; omega), he]
          rw [show (k + 1) * size + j - size = k * size + j by simp [Nat.add_mul]; omega]
          exact ih k hk
    rw [← htake, List.getElem?_take] at hget
    split at hget
    · simp only [Nat.zero_add]
      unfold World.cell?
      simp [hh]
      simpa using hget
    · cases hget

theorem Try.info3 : (Try.prog.info? 3).map (fun i => (i.zero, i.size, i.bytes)) = some (some (.int .i64 0), 1, 8) := by kernel_rfl

theorem TruthMid.cell {w : World} {fn : Nat} {a b : Int} {cs : Array Value} {tb : Nat} {lv rn : Value} {W : World} (h : TruthMid w fn a b cs tb lv rn W) (o : Obj) : TruthMid w fn a b cs tb lv rn (W.alloc o) :=
  ⟨h.b0.alloc _, h.b1.alloc _, h.b2.alloc _, h.bt.alloc _, h.far, h.below.alloc h.below.size _⟩
theorem TruthMid.later {w : World} {fn : Nat} {a b : Int} {cs : Array Value} {tb : Nat} {lv rn : Value} {W W' : World} (h : TruthMid w fn a b cs tb lv rn W) (hb : Below W.heap.size W W') : TruthMid w fn a b cs tb lv rn W' :=
  ⟨h.b0.below hb h.b0.lt, h.b1.below hb h.b1.lt, h.b2.below hb h.b2.lt, h.bt.below hb h.bt.lt, h.far, below_next h.below hb⟩
theorem TruthMid.drew {w : World} {fn : Nat} {a b : Int} {cs : Array Value} {tb : Nat} {lv rn : Value} {W : World} (h : TruthMid w fn a b cs tb lv rn W) : TruthMid w fn a b cs tb lv rn W.drew :=
  ⟨h.b0, h.b1, h.b2, h.bt, h.far, h.below.drew⟩
theorem TruthMid.grown {w : World} {fn : Nat} {a b : Int} {cs : Array Value} {tb : Nat} {lv rn : Value} {W W' : World} {v : Value} {n : Nat} {xs : List Value} (h : TruthMid w fn a b cs tb lv rn W) (ho : W.ownsRow w.heap.size 3 1 v n xs) (hg : W.grownBy W' v.ownBlock) : TruthMid w fn a b cs tb lv rn W' :=
  ⟨h.b0.grown hg (own_ne ho h.b0 (by decide)).symm, h.b1.grown hg (own_ne ho h.b1 (by decide)).symm, h.b2.grown hg (own_ne ho h.b2 (by decide)).symm, h.bt.grown hg (own_ne ho h.bt (by decide)).symm, h.far,
    h.below.grown hg h.below.size (own_ge ho)⟩
theorem TruthMid.levels {w : World} {fn : Nat} {a b : Int} {cs : Array Value} {tb : Nat} {lv rn : Value} {W : World} (h : TruthMid w fn a b cs tb lv rn W) (u : Value) : TruthMid w fn a b cs tb u rn (W.setCell ⟨tb, 2, none⟩ u) := by
  have hf := h.far
  exact ⟨h.b0.far (by show w.heap.size ≠ tb; omega) _, h.b1.far (by show w.heap.size + 1 ≠ tb; omega) _, h.b2.far (by show w.heap.size + 1 + 1 ≠ tb; omega) _, h.bt.set 2 u, h.far, h.below.setCell (p := ⟨tb, 2, none⟩) (by show _ ≤ tb; omega) _⟩
theorem TruthMid.rains {w : World} {fn : Nat} {a b : Int} {cs : Array Value} {tb : Nat} {lv rn : Value} {W : World} (h : TruthMid w fn a b cs tb lv rn W) (u : Value) : TruthMid w fn a b cs tb lv u (W.setCell ⟨tb, 3, none⟩ u) := by
  have hf := h.far
  exact ⟨h.b0.far (by show w.heap.size ≠ tb; omega) _, h.b1.far (by show w.heap.size + 1 ≠ tb; omega) _, h.b2.far (by show w.heap.size + 1 + 1 ≠ tb; omega) _, h.bt.set 3 u, h.far, h.below.setCell (p := ⟨tb, 3, none⟩) (by show _ ≤ tb; omega) _⟩
theorem own_set {w : World} {base : Nat} {e : TypeId} {size n : Nat} {v : Value} {xs : List Value} {g i : Nat} (h : w.ownsRow base e size v n xs) (hg : v.ownBlock ≠ some g) (u : Value) : (w.setCell ⟨g, i, none⟩ u).ownsRow base e size v n xs :=
  h.kept (grown_set (p := ⟨g, i, none⟩) (grown_refl w (some g)) (.inl rfl) u) (.inr hg)
theorem own_below {w w' : World} {base : Nat} {e : TypeId} {size n : Nat} {v : Value} {xs : List Value} (h : w.ownsRow base e size v n xs) (hb : Below w.heap.size w w') : w'.ownsRow base e size v n xs :=
  h.kept (row := none) ⟨hb.os, hb.tape, hb.output, hb.size, fun i hi _ => hb.block i hi⟩ (by rcases Option.eq_none_or_eq_some v.ownBlock with h | ⟨k, h⟩ <;> simp [h])

theorem keep_cell {W W' : World} {p : Addr} {v : Value} (h : W.cell? p = some v) (hb : Below W.heap.size W W') : W'.cell? p = some v := (hb.cell (World.block_lt_of_cell? W _ h)).trans h

theorem keep5 {W W' : World} {p0 p1 p2 p3 p4 : Addr} {v0 v1 v2 v3 v4 : Value} (h0 : W.cell? p0 = some v0) (h1 : W.cell? p1 = some v1) (h2 : W.cell? p2 = some v2) (h3 : W.cell? p3 = some v3) (h4 : W.cell? p4 = some v4) (hb : Below W.heap.size W W') :
    W'.cell? p0 = some v0 ∧ W'.cell? p1 = some v1 ∧ W'.cell? p2 = some v2 ∧ W'.cell? p3 = some v3 ∧ W'.cell? p4 = some v4 := ⟨keep_cell h0 hb, keep_cell h1 hb, keep_cell h2 hb, keep_cell h3 hb, keep_cell h4 hb⟩
theorem Whole.madeD (w : World) (t : TypeId) (cs : Array Value) : Whole (w.alloc (.cells cs t)).drew w.heap.size t cs := Whole.made w t cs
theorem new4 {W w' : World} {g : Nat} {t : TypeId} {c0 c1 c2 c3 : Value} (h : Whole W g t #[c0, c1, c2, c3]) (hb : Below W.heap.size W w') :
    Whole w' g t #[c0, c1, c2, c3] ∧ w'.cell? ⟨g, 0, none⟩ = some c0 ∧ w'.cell? ⟨g, 1, none⟩ = some c1 ∧ w'.cell? ⟨g, 2, none⟩ = some c2 ∧ w'.cell? ⟨g, 3, none⟩ = some c3 ∧ w'.frozen? ⟨g, 0, none⟩ = false ∧ w'.frozen? ⟨g, 1, none⟩ = false ∧ w'.frozen? ⟨g, 2, none⟩ = false ∧ w'.frozen? ⟨g, 3, none⟩ = false := by
  have h' := h.below hb h.lt
  exact ⟨h', h'.at 0 rfl, h'.at 1 rfl, h'.at 2 rfl, h'.at 3 rfl, h'.free 0, h'.free 1, h'.free 2, h'.free 3⟩
theorem new4c {C : Prop} {W w' : World} {g : Nat} {t : TypeId} {c0 c1 c2 c3 : Value} (h : Whole W g t #[c0, c1, c2, c3]) (hb : Below W.heap.size W w')
    (hC : Whole w' g t #[c0, c1, c2, c3] → w'.cell? ⟨g, 0, none⟩ = some c0 → w'.cell? ⟨g, 1, none⟩ = some c1 → w'.cell? ⟨g, 2, none⟩ = some c2 → w'.cell? ⟨g, 3, none⟩ = some c3 → w'.frozen? ⟨g, 0, none⟩ = false → w'.frozen? ⟨g, 1, none⟩ = false → w'.frozen? ⟨g, 2, none⟩ = false → w'.frozen? ⟨g, 3, none⟩ = false → C) : C := by
  obtain ⟨a, b, c, d, e, f, g, h, i⟩ := new4 h hb
  exact hC a b c d e f g h i
structure TruthPre (w : World) (fn : Nat) (cs : Array Value) (W : World) : Prop where
  b0 : Whole W w.heap.size 111 #[.func (.func fn) #[] #[]]
  b1 : Whole W (w.heap.size + 1) 38 cs
  b2 : Whole W (w.heap.size + 1 + 1) 63 #[.int .i64 0, .int .i64 0, .slice none 0 0, .slice none 0 0]
  below : Below w.heap.size w W
theorem TruthPre.made (w : World) (fn : Nat) (cs : Array Value) : TruthPre w fn cs (((w.alloc (.cells #[.func (.func fn) #[] #[]] 111)).alloc (.cells cs 38)).alloc (.cells #[.int .i64 0, .int .i64 0, .slice none 0 0, .slice none 0 0] 63)) := by
  have h1 := (Whole.made w 111 #[.func (.func fn) #[] #[]]).alloc (.cells cs 38) |>.alloc (.cells #[.int .i64 0, .int .i64 0, .slice none 0 0, .slice none 0 0] 63)
  have h2 := (Whole.made (w.alloc (.cells #[.func (.func fn) #[] #[]] 111)) 38 cs).alloc (.cells #[.int .i64 0, .int .i64 0, .slice none 0 0, .slice none 0 0] 63)
  have h3 := Whole.made ((w.alloc (.cells #[.func (.func fn) #[] #[]] 111)).alloc (.cells cs 38)) 63 #[.int .i64 0, .int .i64 0, .slice none 0 0, .slice none 0 0]
  rw [World.size_alloc] at h2
  rw [World.size_alloc, World.size_alloc] at h3
  exact ⟨h1, h2, h3, (((Below.refl _ _).alloc (Nat.le_refl _) _).alloc (by simp) _).alloc (by simp; omega) _⟩

theorem TruthPre.mid {w : World} {fn : Nat} {cs : Array Value} {wv W : World} {a b : Int} {tb : Nat} {lv rn : Value} (h : TruthPre w fn cs wv) (hb : Below wv.heap.size wv W) (ht : Whole W tb 63 #[vi a, vi b, lv, rn]) (hf : wv.heap.size ≤ tb) : TruthMid w fn a b cs tb lv rn W :=
  ⟨h.b0.below hb h.b0.lt, h.b1.below hb h.b1.lt, h.b2.below hb h.b2.lt, ht, Nat.lt_of_lt_of_le h.b2.lt hf, below_next h.below hb⟩

/-- What a truth of ends is. -/
def ended (w : World) (hi : Bool) (g : Gnd) (days : List Day) (e : Ending) (w' : World) : Prop :=
  ∃ L lp R rp, e = .returned (truthV (endOf hi g.slo g.shi) (endOf hi g.klo g.khi) L g.cells.length lp R days.length rp) ∧ Row intL 1 w' w'.heap.size L (g.cells.map fun c => endOf hi c.lo c.hi) ∧ Row intL 1 w' w'.heap.size R (days.map fun d => endOf hi d.lo d.hi) ∧ Below w.heap.size w w' ∧ (∀ a, L = some a → w.heap.size ≤ a.block) ∧ (∀ a, R = some a → w.heap.size ≤ a.block)

end Go.Proofs.Yteonkhohloabfaa
