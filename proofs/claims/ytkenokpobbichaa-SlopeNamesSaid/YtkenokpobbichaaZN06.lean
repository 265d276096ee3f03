/- What the last text of this chain needs: AJ, AR, CE, CF, CG, CI, BH, BD, CJ. -/
import Derived.Test.YtkenokpobbichaaZN05
namespace Go.Proofs.Ytkenokpobbichaa
section
open Go.RowKit Go.Shelf Go.Deep
def spanE (s : Sd) (frm : Int) (l : List Int) : Int := if checkUN s frm l = 0 then (if dK (bedsU s frm l) (bedsU s frm l).length < 1 then 7 else 0) else checkUN s frm l
def spanP (s : Sd) (frm : Int) (l : List Int) (hi : Bool) : Int := if spanE s frm l = 0 then facE (bedsU s frm l) hi else 0
theorem spanV_is (s : Sd) (frm : Int) (l : List Int) : spanV s frm l = .tuple #[.agg #[vi (spanP s frm l false), vi (spanP s frm l true)], vi (spanE s frm l)] := by
 unfold spanV spanP spanE
 by_cases h1 : checkUN s frm l = 0
 ·rw [if_pos h1, if_pos h1]
  by_cases h2 : dK (bedsU s frm l) (bedsU s frm l).length < 1
  ·rw [if_pos h2, if_pos h2, if_neg (by decide), if_neg (by decide)]
  ·rw [if_neg h2, if_neg h2, if_pos rfl, if_pos rfl]
 ·rw [if_neg h1, if_neg h1, if_neg h1, if_neg h1]
end

section
open Go.RowKit Go.Shelf Go.Deep
theorem worst_nil (s : Sm) (w : World) (hok : SmOk s w) (few : SmFew s) (hv : slopeB s.sd = true) (hw : worstS s.sd = none) : Calls Try.prog 25 #[smV s] w fun e w' => e = .returned (.tuple #[.agg #[vi 0, .slice none 0 0], vi 0, vi 7]) /\ newer w w' := by
 refine (worst_any s w hok few).mono ?_
 rintro e w' ⟨h1, h2⟩
 unfold worstOut at h1
 rw [hv, hw] at h1
 exact ⟨h1, h2⟩
end

section
open Go.RowKit Go.Shelf Go.Deep
theorem info_l25 : (Try.prog.info? 25).map (fun i => (i.zero, i.size, i.bytes)) = some (some (.slice none 0 0), 1, 24) := by kernel_rfl
theorem info_l89 : (Try.prog.info? 89).map (fun i => (i.zero, i.size, i.bytes)) = some (some (.slice none 0 0), 1, 24) := by kernel_rfl
theorem own_old {w : World} {base size n c : Nat} {e : TypeId} {A : Option Addr} {a : Addr} {xs : List Value} (h : w.ownsRow base e size (.slice A n c) n xs) (ha : A = some a) : base <= a.block /\ a.block < w.heap.size := by
 subst ha
 rcases h.2 with ⟨h0, _⟩ | ⟨g, cap, cur, hv, hb, hg, _⟩
 ·cases h0
 ·injection hv with e1
  injection e1 with e1
  rw [e1]
  exact ⟨hb, (Array.getElem?_eq_some_iff.1 hg).1⟩
def apL (xs : List Ln) : Prop := ∀ (p q : Nat) (x y : Ln), xs[p]? = some x -> xs[q]? = some y -> p ≠ q -> x.a = y.a -> x.a = none
theorem get_snoc {α : Type} {xs : List α} {y : α} {r : Nat} {t : α} (ht : (xs ++ [y])[r]? = some t) : (r < xs.length /\ xs[r]? = some t) ∨ (r = xs.length /\ t = y) := by
 by_cases hr : r < xs.length
 ·rw [List.getElem?_append_left hr] at ht
  exact .inl ⟨hr, ht⟩
 ·rw [List.getElem?_append_right (by omega)] at ht
  obtain ⟨h1, h2⟩ := List.getElem?_eq_some_iff.1 ht
  simp at h1
  refine .inr ⟨by omega, ?_⟩
  rw [<- h2]
  simp
structure LnQ (src : List Ln) (k : Nat) (xs : List Ln) (A : Option Addr) (c : Nat) (w W : World) : Prop where
 nw : newer w W
 own : W.ownsRow w.heap.size 25 1 (.slice A xs.length c) xs.length (xs.flatMap lnL)
 ls : ∀ x ∈ xs, W.ownsRow w.heap.size 3 1 (.slice x.a x.l.length x.c) x.l.length (x.l.flatMap intL)
 eq : xs.map (fun x => x.l) = (src.take k).map fun x => x.l
 ln : xs.length = k
 ap : apL xs
section
variable {src : List Ln} {k : Nat} {xs : List Ln} {A : Option Addr} {c : Nat} {w W W' : World}
theorem LnQ.next (h : LnQ src k xs A c w W) (hb : newer W W') : LnQ src k xs A c w W' := ⟨newer_trans h.nw hb, own_below h.own hb, fun x hx => own_below (h.ls x hx) hb, h.eq, h.ln, h.ap⟩
end
structure TbOwn (B : Nat) (xs : List Rw) (A : Option Addr) (c : Nat) (W : World) : Prop where
 own : W.ownsRow B 89 1 (.slice A xs.length c) xs.length (xs.flatMap rwL)
 rows : ∀ r ∈ xs, W.ownsRow B 25 1 (.slice r.a r.ls.length r.c) r.ls.length (r.ls.flatMap lnL)
 ls : ∀ r ∈ xs, ∀ x ∈ r.ls, W.ownsRow B 3 1 (.slice x.a x.l.length x.c) x.l.length (x.l.flatMap intL)
 ap : ∀ (p q i j : Nat) (r t : Rw) (x y : Ln), xs[p]? = some r -> xs[q]? = some t -> r.ls[i]? = some x -> t.ls[j]? = some y -> (p ≠ q ∨ i ≠ j) -> x.a = y.a -> x.a = none
theorem TbOwn.next {B : Nat} {xs : List Rw} {A : Option Addr} {c : Nat} {W W' : World} (h : TbOwn B xs A c W) (hb : newer W W') : TbOwn B xs A c W' := ⟨own_below h.own hb, fun r hr => own_below (h.rows r hr) hb, fun r hr x hx => own_below (h.ls r hr x hx) hb, h.ap⟩
theorem TbOwn.ok {B : Nat} {xs : List Rw} {A : Option Addr} {c : Nat} {W : World} (h : TbOwn B xs A c W) : TbOk xs A W := ⟨row_of_own (by omega) (fun _ => rfl) h.own, fun r hr => row_of_own (by omega) (fun _ => rfl) (h.rows r hr), fun r hr x hx => row_of_own (by omega) (fun _ => rfl) (h.ls r hr x hx)⟩
structure TbQ (src : List Rw) (k : Nat) (xs : List Rw) (A : Option Addr) (c : Nat) (w W : World) : Prop where
 nw : newer w W
 tb : TbOwn w.heap.size xs A c W
 eq : xs.map Rw.d = (src.take k).map Rw.d
 ln : xs.length = k
section
variable {src : List Rw} {k : Nat} {xs : List Rw} {A : Option Addr} {c : Nat} {w W W' : World}
theorem TbQ.next (h : TbQ src k xs A c w W) (hb : newer W W') : TbQ src k xs A c w W' := ⟨newer_trans h.nw hb, h.tb.next hb, h.eq, h.ln⟩
theorem TbQ.add (h : TbQ src k xs A c w W) {W1 : World} (hb1 : newer W W1) {x : Rw} {ys : List Ln} {A2 : Option Addr} {d : Nat} (hx : src[k]? = some x) (hq : LnQ x.ls x.ls.length ys A2 d W W1)
  {g2 c2 : Nat} (hown : W'.ownsRow w.heap.size 89 1 (.slice (some ⟨g2, 0, none⟩) (xs.length + 1) c2) (xs.length + 1) (xs.flatMap rwL ++ [.slice A2 ys.length d])) (hw : (A = some ⟨g2, 0, none⟩ /\ c2 = c /\ W1.grownBy W' (some g2)) ∨ (W1.heap.size <= g2 /\ W1.grownBy W' none)) :
  TbQ src (k + 1) (xs ++ [⟨ys, A2, d⟩]) (some ⟨g2, 0, none⟩) c2 w W' := by
 have h1 := h.next hb1
 have hgr : W1.grownBy W' (Value.slice A xs.length c).ownBlock := by
  rcases hw with ⟨h1, _, h3⟩ | ⟨_, h3⟩
  ·rw [h1]; exact h3
  ·exact h3.but _
 have k3 : ∀ z : Rw, W1.ownsRow w.heap.size 25 1 (.slice z.a z.ls.length z.c) z.ls.length (z.ls.flatMap lnL) -> W'.ownsRow w.heap.size 25 1 (.slice z.a z.ls.length z.c) z.ls.length (z.ls.flatMap lnL) := fun z h2 => h2.kept hgr (own_apart h2 h1.tb.own (by decide))
 have k4 : ∀ z : Ln, W1.ownsRow w.heap.size 3 1 (.slice z.a z.l.length z.c) z.l.length (z.l.flatMap intL) -> W'.ownsRow w.heap.size 3 1 (.slice z.a z.l.length z.c) z.l.length (z.l.flatMap intL) := fun z h2 => h2.kept hgr (own_apart h2 h1.tb.own (by decide))
 have hnw : newer w W' := by
  rcases hw with ⟨h0, _, h3⟩ | ⟨_, h3⟩
  ·refine Below.trans h1.nw (below_of_grown h3 (own_ge h1.tb.own g2 (by rw [h0]; rfl)) h1.nw.size)
  ·exact newer_trans h1.nw (below_grown h3 (fun q e => by cases e) (Nat.le_refl _))
 have hold : ∀ r ∈ xs, ∀ z ∈ r.ls, ∀ y ∈ ys, z.a = y.a -> z.a = none /\ y.a = none := fun r hr z hz y hy e => by
  cases ha : z.a with
  | none => exact ⟨rfl, by rw [<- e, ha]⟩
  | some a =>
   have g1 := (own_old (h.tb.ls r hr z hz) ha).2
   have g2 := (own_old (hq.ls y hy) (by rw [<- e, ha])).1
   omega
 refine ⟨hnw, ⟨?_, fun z hz => ?_, fun z hz y hy => ?_, fun p q i j r t u v hp hq' hi hj hne e => ?_⟩, ?_, by rw [List.length_append, h.ln]; rfl⟩
 ·rw [List.length_append, List.flatMap_append]
  exact hown
 ·rcases List.mem_append.1 hz with hz | hz
  ·exact k3 z (h1.tb.rows z hz)
  ·obtain rfl := List.mem_singleton.1 hz
   exact k3 ⟨ys, A2, d⟩ (own_more hq.own h.nw.size)
 ·rcases List.mem_append.1 hz with hz | hz
  ·exact k4 y (h1.tb.ls z hz y hy)
  ·obtain rfl := List.mem_singleton.1 hz
   exact k4 y (own_more (hq.ls y hy) h.nw.size)
 ·rcases get_snoc hp with ⟨a1, a2⟩ | ⟨a1, rfl⟩ <;> rcases get_snoc hq' with ⟨b1, b2⟩ | ⟨b1, rfl⟩
  ·exact h.tb.ap p q i j r t u v a2 b2 hi hj hne e
  ·exact (hold r (List.mem_of_getElem? a2) u (List.mem_of_getElem? hi) v (List.mem_of_getElem? hj) e).1
  ·exact (hold t (List.mem_of_getElem? b2) v (List.mem_of_getElem? hj) u (List.mem_of_getElem? hi) e.symm).2
  ·exact hq.ap i j u v hi hj (by omega) e
 ·rw [List.map_append, h.eq, List.take_add_one, hx, List.map_append]
  congr 1
  have e := hq.eq
  rw [List.take_length] at e
  simp [Rw.d, e]
end
end

section
open Go.RowKit Go.Shelf Go.Deep
theorem get_set {α : Type} {xs : List α} {r p : Nat} {x' t : α} (h : (xs.set r x')[p]? = some t) : (p = r /\ t = x') ∨ (p ≠ r /\ xs[p]? = some t) := by
 rw [List.getElem?_set] at h
 by_cases e : r = p
 ·rw [if_pos e] at h
  split at h
  ·injection h with h
   exact .inl ⟨e.symm, h.symm⟩
  ·cases h
 ·rw [if_neg e] at h
  exact .inr ⟨fun k => e k.symm, h⟩
theorem own_at {w : World} {base size n c : Nat} {e : TypeId} {A : Option Addr} {xs : List Value} (h : w.ownsRow base e size (.slice A n c) n xs) : A = none ∨ ∃ g, A = some ⟨g, 0, none⟩ := by
 rcases h.2 with ⟨h0, _⟩ | ⟨g, cap, cur, hv, _⟩
 ·injection h0 with h1
  exact .inl h1
 ·injection hv with h1
  exact .inr ⟨g, h1⟩
theorem own_far {w : World} {base size n c base2 size2 n2 c2 : Nat} {e e2 : TypeId} {A A2 : Option Addr} {xs xs2 : List Value} (h : w.ownsRow base e size (.slice A n c) n xs) (h2 : w.ownsRow base2 e2 size2 (.slice A2 n2 c2) n2 xs2) (ha : A = A2 -> A = none) : (Value.slice A n c).ownBlock = none ∨ (Value.slice A n c).ownBlock ≠ (Value.slice A2 n2 c2).ownBlock := by
 rcases own_at h with rfl | ⟨g, rfl⟩
 ·exact .inl rfl
 ·refine .inr fun e => ?_
  rcases own_at h2 with rfl | ⟨g2, rfl⟩
  ·simp [Value.ownBlock] at e
  ·have e3 : g = g2 := by simpa [Value.ownBlock] using e
   subst e3
   cases ha rfl
theorem own_setFar {w : World} {base size n c g i : Nat} {e : TypeId} {A A2 : Option Addr} {n2 c2 : Nat} {xs : List Value} (h : w.ownsRow base e size (.slice A n c) n xs) (hf : (Value.slice A n c).ownBlock = none ∨ (Value.slice A n c).ownBlock ≠ (Value.slice A2 n2 c2).ownBlock) (h2 : A2 = some ⟨g, 0, none⟩) (u : Value) : (w.setCell ⟨g, i, none⟩ u).ownsRow base e size (.slice A n c) n xs := by
 refine own_set h ?_ u
 subst h2
 rcases hf with h0 | h0
 ·rw [h0]; simp
 ·exact h0
theorem flat_lnL (ls : List Ln) : ls.flatMap lnL = ls.map fun x => lnV x := by
 induction ls with
 | nil => rfl
 | cons y t ih => rw [List.flatMap_cons, ih]; rfl
structure TbP (xs : List Rw) (A : Option Addr) (c : Nat) (w W : World) : Prop where
 nw : newer w W
 tb : TbOwn w.heap.size xs A c W
 apr : ∀ (p q : Nat) (r t : Rw), xs[p]? = some r -> xs[q]? = some t -> p ≠ q -> r.a = t.a -> r.a = none
section
variable {xs : List Rw} {A : Option Addr} {c : Nat} {w W W' W1 : World}
theorem TbP.next (h : TbP xs A c w W) (hb : newer W W') : TbP xs A c w W' := ⟨newer_trans h.nw hb, h.tb.next hb, h.apr⟩
theorem TbP.row (h : TbP xs A c w W) (hb1 : newer W W1) {ys : List Ln} {A2 : Option Addr} {d : Nat} (hq : LnQ ys ys.length ys A2 d W W1)
  {g2 c2 : Nat} (hown : W'.ownsRow w.heap.size 89 1 (.slice (some ⟨g2, 0, none⟩) (xs.length + 1) c2) (xs.length + 1) (xs.flatMap rwL ++ [.slice A2 ys.length d])) (hw : (A = some ⟨g2, 0, none⟩ /\ c2 = c /\ W1.grownBy W' (some g2)) ∨ (W1.heap.size <= g2 /\ W1.grownBy W' none)) :
  TbP (xs ++ [⟨ys, A2, d⟩]) (some ⟨g2, 0, none⟩) c2 w W' := by
 have h0 : TbQ (xs ++ [⟨ys, A2, d⟩]) xs.length xs A c w W := ⟨h.nw, h.tb, by rw [List.take_left], rfl⟩
 have h1 := h0.add hb1 (x := ⟨ys, A2, d⟩) (by simp) hq hown hw
 refine ⟨h1.nw, h1.tb, fun p q r t hp hq' hpq e => ?_⟩
 have hold : ∀ r ∈ xs, r.a = A2 -> r.a = none /\ A2 = none := fun r hr e => by
  cases ha : r.a with
  | none => exact ⟨rfl, by rw [<- e, ha]⟩
  | some a =>
   have g1 := (own_old (h.tb.rows r hr) ha).2
   have g2 := (own_old hq.own (by rw [<- e, ha])).1
   omega
 rcases get_snoc hp with ⟨a1, a2⟩ | ⟨a1, rfl⟩ <;> rcases get_snoc hq' with ⟨b1, b2⟩ | ⟨b1, rfl⟩
 ·exact h.apr p q r t a2 b2 hpq e
 ·exact (hold r (List.mem_of_getElem? a2) e).1
 ·exact (hold t (List.mem_of_getElem? b2) e.symm).2
 ·omega
theorem TbP.app (h : TbP xs A c w W) {r k : Nat} {x : Rw} {y : Ln} (hx : xs[r]? = some x) (hy : x.ls[k]? = some y) {g2 c2 : Nat} (hw : (y.a = some ⟨g2, 0, none⟩ /\ c2 = y.c /\ W.grownBy W' (some g2)) ∨ (W.heap.size <= g2 /\ W.grownBy W' none)) :
  newer w W' /\ W'.ownsRow w.heap.size 89 1 (.slice A xs.length c) xs.length (xs.flatMap rwL) /\ (∀ z ∈ xs, W'.ownsRow w.heap.size 25 1 (.slice z.a z.ls.length z.c) z.ls.length (z.ls.flatMap lnL)) /\
  (∀ (p i : Nat) (t : Rw) (z : Ln), xs[p]? = some t -> t.ls[i]? = some z -> (p ≠ r ∨ i ≠ k) -> W'.ownsRow w.heap.size 3 1 (.slice z.a z.l.length z.c) z.l.length (z.l.flatMap intL)) := by
 have hyo := h.tb.ls x (List.mem_of_getElem? hx) y (List.mem_of_getElem? hy)
 have hgr : W.grownBy W' (Value.slice y.a y.l.length y.c).ownBlock := by
  rcases hw with ⟨h1, _, h3⟩ | ⟨_, h3⟩
  ·rw [h1]; exact h3
  ·exact h3.but _
 have hnw : newer w W' := by
  rcases hw with ⟨h1, _, h3⟩ | ⟨_, h3⟩
  ·refine Below.trans h.nw (below_of_grown h3 (own_ge hyo g2 (by rw [h1]; rfl)) h.nw.size)
  ·exact newer_trans h.nw (below_grown h3 (fun q e => by cases e) (Nat.le_refl _))
 refine ⟨hnw, h.tb.own.kept hgr (own_apart h.tb.own hyo (by decide)), fun z hz => (h.tb.rows z hz).kept hgr (own_apart (h.tb.rows z hz) hyo (by decide)), fun p i t z hp hi hne => ?_⟩
 have hz := h.tb.ls t (List.mem_of_getElem? hp) z (List.mem_of_getElem? hi)
 exact hz.kept hgr (own_far hz hyo fun e => h.tb.ap p r i k t x z y hp hx hi hy hne e)
theorem TbP.put (h : TbP xs A c w W) {r k : Nat} {x : Rw} {y : Ln} (hx : xs[r]? = some x) (hy : x.ls[k]? = some y) {v : Int} {g g2 c2 : Nat} (hg : x.a = some ⟨g, 0, none⟩)
  (hown : W'.ownsRow w.heap.size 3 1 (.slice (some ⟨g2, 0, none⟩) (y.l.length + 1) c2) (y.l.length + 1) (y.l.flatMap intL ++ [vi v])) (hw : (y.a = some ⟨g2, 0, none⟩ /\ c2 = y.c /\ W.grownBy W' (some g2)) ∨ (W.heap.size <= g2 /\ W.grownBy W' none)) :
  TbP (xs.set r ⟨x.ls.set k ⟨y.l ++ [v], some ⟨g2, 0, none⟩, c2⟩, x.a, x.c⟩) A c w (W'.setCell ⟨g, k, none⟩ (.slice (some ⟨g2, 0, none⟩) (y.l.length + 1) c2)) := by
 obtain ⟨q1, q2, q3, q4⟩ := h.app hx hy hw
 have hrl := (List.getElem?_eq_some_iff.1 hx).1
 have hxo := q3 x (List.mem_of_getElem? hx)
 have hxo' := h.tb.rows x (List.mem_of_getElem? hx)
 have hyo := h.tb.ls x (List.mem_of_getElem? hx) y (List.mem_of_getElem? hy)
 have hge : w.heap.size <= g := (own_old hxo hg).1
 have hrw : (xs.set r ⟨x.ls.set k ⟨y.l ++ [v], some ⟨g2, 0, none⟩, c2⟩, x.a, x.c⟩).flatMap rwL = xs.flatMap rwL := by
  rw [List.flatMap_def, List.flatMap_def, List.map_set]
  congr 1
  refine List.ext_getElem? fun q => ?_
  rw [List.getElem?_set]
  by_cases hq : r = q
  ·subst hq
   rw [if_pos rfl, List.length_map, if_pos hrl, List.getElem?_map, hx]
   simp [rwL]
  ·rw [if_neg hq]
 have hnew : ∀ (p i : Nat) (t : Rw) (z : Ln), xs[p]? = some t -> t.ls[i]? = some z -> (p ≠ r ∨ i ≠ k) -> z.a = some ⟨g2, 0, none⟩ -> False := fun p i t z hp hi hne e => by
  have hz := h.tb.ls t (List.mem_of_getElem? hp) z (List.mem_of_getElem? hi)
  rcases hw with ⟨h1, _⟩ | ⟨h1, _⟩
  ·have := h.tb.ap p r i k t x z y hp hx hi hy hne (e.trans h1.symm)
   rw [e] at this
   cases this
  ·have := (own_old hz e).2
   have h3 : g2 < W.heap.size := this
   omega
 -- the lists of the new table
 have hlist : ∀ (p i : Nat) (t : Rw) (z : Ln), (xs.set r ⟨x.ls.set k ⟨y.l ++ [v], some ⟨g2, 0, none⟩, c2⟩, x.a, x.c⟩)[p]? = some t -> t.ls[i]? = some z -> (p = r /\ i = k /\ z = ⟨y.l ++ [v], some ⟨g2, 0, none⟩, c2⟩) ∨ ((p ≠ r ∨ i ≠ k) /\ ∃ t0, xs[p]? = some t0 /\ t0.ls[i]? = some z) := fun p i t z hp hi => by
  rcases get_set hp with ⟨e1, e2⟩ | ⟨e1, e2⟩
  ·subst e1
   rw [e2] at hi
   rcases get_set hi with ⟨e3, e4⟩ | ⟨e3, e4⟩
   ·exact .inl ⟨rfl, e3, e4⟩
   ·exact .inr ⟨.inr e3, x, hx, e4⟩
  ·exact .inr ⟨.inl e1, t, e2, hi⟩
 refine ⟨q1.setCell (p := ⟨g, k, none⟩) hge _, ⟨?_, fun z hz => ?_, fun z hz u hu => ?_, fun p q i j s t u v' hp hq hi hj hne e => ?_⟩, fun p q s t hp hq hne e => ?_⟩
 ·rw [hrw, List.length_set]
  exact own_setFar q2 (own_apart q2 hxo (by decide)) hg _
 ·obtain ⟨p, hp⟩ := List.mem_iff_getElem?.1 hz
  rcases get_set hp with ⟨e1, e2⟩ | ⟨e1, e2⟩
  ·subst e2
   have h5 := hxo
   rw [hg] at h5
   have h6 := own_setAt (off := k) (u := .slice (some ⟨g2, 0, none⟩) (y.l.length + 1) c2) h5
   simp only [List.length_set]
   rw [hg, flat_lnL, List.map_set, <- flat_lnL, show lnV ⟨y.l ++ [v], some ⟨g2, 0, none⟩, c2⟩ = .slice (some ⟨g2, 0, none⟩) (y.l.length + 1) c2 by simp [lnV]]
   exact h6
  ·exact own_setFar (q3 z (List.mem_of_getElem? e2)) (own_far (q3 z (List.mem_of_getElem? e2)) hxo fun e => h.apr p r z x e2 hx e1 e) hg _
 ·obtain ⟨p, hp⟩ := List.mem_iff_getElem?.1 hz
  obtain ⟨i, hi⟩ := List.mem_iff_getElem?.1 hu
  rcases hlist p i z u hp hi with ⟨_, _, e3⟩ | ⟨e1, t0, e2, e3⟩
  ·subst e3
   have h5 : W'.ownsRow w.heap.size 3 1 (.slice (some ⟨g2, 0, none⟩) (y.l ++ [v]).length c2) (y.l ++ [v]).length ((y.l ++ [v]).flatMap intL) := by
    rw [List.length_append, List.flatMap_append]
    exact hown
   exact own_setFar h5 (own_apart h5 hxo (by decide)) hg _
  ·have h5 := q4 p i t0 u e2 e3 e1
   exact own_setFar h5 (own_apart h5 hxo (by decide)) hg _
 ·rcases hlist p i s u hp hi with ⟨a1, a2, a3⟩ | ⟨a1, t0, a2, a3⟩ <;> rcases hlist q j t v' hq hj with ⟨b1, b2, b3⟩ | ⟨b1, t1, b2, b3⟩
  ·omega
  ·subst a3
   exact absurd e.symm (fun e => hnew q j t1 v' b2 b3 b1 e)
  ·subst b3
   exact absurd e (fun e => hnew p i t0 u a2 a3 a1 e)
  ·exact h.tb.ap p q i j t0 t1 u v' a2 b2 a3 b3 hne e
 ·rcases get_set hp with ⟨a1, a2⟩ | ⟨a1, a2⟩ <;> rcases get_set hq with ⟨b1, b2⟩ | ⟨b1, b2⟩
  ·omega
  ·subst a2 a1
   exact h.apr p q x t hx b2 hne e
  ·subst b2 b1
   exact h.apr p q s x a2 hx hne e
  ·exact h.apr p q s t a2 b2 hne e
end
end

section
open Go.RowKit Go.Shelf Go.Deep
abbrev farN : Int := 100000000000000
def tabD (s : Sd) (f : Int) : List (List (List Int)) := (List.range s.K).map fun r => (List.range s.cols.length).map fun k => (List.range s.n).map fun b => tabT (cS s f) bigN farN s.n s.K r k b
structure FD (T : Nat -> Nat -> Nat -> Int) (cols : Nat) (xs : List Rw) (len : Nat) (cnt : Nat -> Nat -> Nat) : Prop where
 ln : xs.length = len
 rw_ : ∀ (r : Nat) (x : Rw), xs[r]? = some x -> x.ls.length = cols /\ (∃ g, x.a = some ⟨g, 0, none⟩) /\ ∀ (i : Nat) (y : Ln), x.ls[i]? = some y -> y.l = (List.range (cnt r i)).map (T r i)
def cntP (n k b N : Nat) (r i : Nat) : Nat := if r < n ∨ (r = n /\ i < k) then N else if r = n /\ i = k then b else 0
section
variable {T : Nat -> Nat -> Nat -> Int} {cols len : Nat} {xs : List Rw} {cnt cnt' : Nat -> Nat -> Nat}
theorem FD.congr (h : FD T cols xs len cnt) (he : ∀ r i, r < len -> i < cols -> cnt r i = cnt' r i) : FD T cols xs len cnt' := ⟨h.ln, fun r x hx => by
 obtain ⟨h1, h2, h3⟩ := h.rw_ r x hx
 refine ⟨h1, h2, fun i y hy => ?_⟩
 rw [h3 i y hy, he r i (by have := (List.getElem?_eq_some_iff.1 hx).1; have := h.ln; omega) (by have := (List.getElem?_eq_some_iff.1 hy).1; omega)]⟩
theorem FD.row {N : Nat} (h : FD T cols xs len (fun _ _ => N)) (g d : Nat) : FD T cols (xs ++ [⟨List.replicate cols ⟨[], none, 0⟩, some ⟨g, 0, none⟩, d⟩]) (len + 1) (cntP len 0 0 N) := ⟨by rw [List.length_append, h.ln]; rfl, fun r x hx => by
 rcases get_snoc hx with ⟨a1, a2⟩ | ⟨a1, rfl⟩
 ·obtain ⟨h1, h2, h3⟩ := h.rw_ r x a2
  refine ⟨h1, h2, fun i y hy => ?_⟩
  rw [h3 i y hy]
  unfold cntP
  rw [if_pos (by have := h.ln; omega)]
 ·refine ⟨by simp, ⟨g, rfl⟩, fun i y hy => ?_⟩
  have h1 : y = ⟨[], none, 0⟩ := by
   have := List.mem_of_getElem? hy
   exact List.eq_of_mem_replicate this
  subst h1
  unfold cntP
  rw [if_neg (by have := h.ln; omega)]
  have e : (if r = len /\ i = 0 then 0 else 0) = 0 := by split <;> rfl
  rw [e]
  rfl⟩
theorem FD.put {n k b N : Nat} (h : FD T cols xs (n + 1) (cntP n k b N)) {x : Rw} {y : Ln} (hx : xs[n]? = some x) (hy : x.ls[k]? = some y) (hk : k < cols) (a : Option Addr) (c : Nat) : FD T cols (xs.set n ⟨x.ls.set k ⟨y.l ++ [T n k b], a, c⟩, x.a, x.c⟩) (n + 1) (cntP n k (b + 1) N) := ⟨by rw [List.length_set, h.ln], fun r t ht => by
 obtain ⟨h1, h2, h3⟩ := h.rw_ n x hx
 rcases get_set ht with ⟨a1, a2⟩ | ⟨a1, a2⟩
 ·subst a1
  subst a2
  refine ⟨by simpa using h1, h2, fun i z hz => ?_⟩
  rcases get_set hz with ⟨b1, b2⟩ | ⟨b1, b2⟩
  ·subst b1
   subst b2
   show y.l ++ [T r i b] = _
   rw [h3 i y hy]
   unfold cntP
   rw [if_neg (by omega), if_pos ⟨rfl, rfl⟩, if_neg (by omega), if_pos ⟨rfl, rfl⟩, List.range_succ, List.map_append]
   rfl
  ·rw [h3 i z b2]
   have e : cntP r k b N r i = cntP r k (b + 1) N r i := by unfold cntP; simp [b1]
   rw [e]
 ·obtain ⟨g1, g2, g3⟩ := h.rw_ r t a2
  refine ⟨g1, g2, fun i z hz => ?_⟩
  rw [g3 i z hz]
  have e : cntP n k b N r i = cntP n k (b + 1) N r i := by unfold cntP; simp [a1]
  rw [e]⟩
theorem FD.done {N : Nat} (h : FD T cols xs len (fun _ _ => N)) : xs.map Rw.d = (List.range len).map fun r => (List.range cols).map fun k => (List.range N).map (T r k) := by
 refine List.ext_getElem? fun r => ?_
 rw [List.getElem?_map, List.getElem?_map]
 by_cases hr : r < len
 ·obtain ⟨x, hx⟩ := get_of_lt (l := xs) (k := r) (by rw [h.ln]; exact hr)
  obtain ⟨h1, _, h3⟩ := h.rw_ r x hx
  rw [hx, List.getElem?_range hr]
  simp only [Option.map_some]
  congr 1
  refine List.ext_getElem? fun i => ?_
  unfold Rw.d
  rw [List.getElem?_map, List.getElem?_map]
  by_cases hi : i < cols
  ·obtain ⟨y, hy⟩ := get_of_lt (l := x.ls) (k := i) (by omega)
   rw [hy, List.getElem?_range hi]
   simp only [Option.map_some]
   rw [h3 i y hy]
  ·rw [List.getElem?_eq_none (by omega), List.getElem?_eq_none (by simp; omega)]
   rfl
 ·rw [List.getElem?_eq_none (by rw [h.ln]; omega), List.getElem?_eq_none (by simp; omega)]
  rfl
end
def befN (c : Nat -> Nat -> Int) (big far : Int) (n K : Nat) (r k b : Nat) : Int := if 0 < k /\ 0 < r then behindN big n (tabT c big far n K (r - 1) (k - 1)) b else if r = 0 then 0 else far
def befM (c : Nat -> Nat -> Int) (big far : Int) (n K : Nat) (r k b : Nat) : Int := if 0 < k /\ r = K - 1 then mnI (befN c big far n K r k b) (behindN big n (tabT c big far n K r (k - 1)) b) else befN c big far n K r k b
theorem tab_zero {c : Nat -> Nat -> Int} {big far : Int} {n K : Nat} (r b : Nat) : tabT c big far n K r 0 b = c 0 b + (if r = 0 then 0 else far) := by cases r <;> rfl
theorem tab_succ {c : Nat -> Nat -> Int} {big far : Int} {n K : Nat} (r k b : Nat) : tabT c big far n K r (k + 1) b = c (k + 1) b + (if r = K - 1 then mnI (if r = 0 then 0 else behindN big n (tabT c big far n K (r - 1) k) b) (behindN big n (tabT c big far n K r k) b) else (if r = 0 then 0 else behindN big n (tabT c big far n K (r - 1) k) b)) := by
 cases r with
 | zero => rfl
 | succ r => rfl
theorem tab_is {c : Nat -> Nat -> Int} {big far : Int} {n K : Nat} (r k b : Nat) : tabT c big far n K r k b = c k b + befM c big far n K r k b := by
 unfold befM befN
 cases k with
 | zero => rw [tab_zero]; simp
 | succ k =>
  rw [tab_succ]
  simp only [Nat.zero_lt_succ, true_and, Nat.add_sub_cancel, Nat.pos_iff_ne_zero, ne_eq]
  by_cases hr : r = 0
  ·simp [hr]
  ·simp [hr]
end

section
open Go.RowKit Go.Shelf Go.Deep
structure PfJ (s : Sm) (f : Int) (w : World) (lb : Nat) (T : Nat -> Nat -> Nat -> Int) (xs : List Rw) (A : Option Addr) (c len : Nat) (cnt : Nat -> Nat -> Nat) (W : World) : Prop where
 tp : TbP xs A c w W
 sx : Whole W w.heap.size 37 (smC s)
 lx : Whole W lb 115 (lkC s f (some false))
 fd : FD T s.cs.length xs len cnt
theorem PfJ.next {s : Sm} {f : Int} {w W W' : World} {lb : Nat} {T : Nat -> Nat -> Nat -> Int} {xs : List Rw} {A : Option Addr} {c len : Nat} {cnt : Nat -> Nat -> Nat} (h : PfJ s f w lb T xs A c len cnt W) (hb : newer W W') : PfJ s f w lb T xs A c len cnt W' := ⟨h.tp.next hb, h.sx.below hb h.sx.lt, h.lx.below hb h.lx.lt, h.fd⟩
theorem PfJ.put {s : Sm} {f : Int} {w W W' : World} {lb : Nat} {T : Nat -> Nat -> Nat -> Int} {xs : List Rw} {A : Option Addr} {c r k b n : Nat} (h : PfJ s f w lb T xs A c (r + 1) (cntP r k b n) W) {x : Rw} {y : Ln} (hx : xs[r]? = some x) (hy : x.ls[k]? = some y) (hk : k < s.cs.length) {g g2 c2 : Nat} (hg : x.a = some ⟨g, 0, none⟩)
  (hown : W'.ownsRow w.heap.size 3 1 (.slice (some ⟨g2, 0, none⟩) (y.l.length + 1) c2) (y.l.length + 1) (y.l.flatMap intL ++ [vi (T r k b)])) (hw : (y.a = some ⟨g2, 0, none⟩ /\ c2 = y.c /\ W.grownBy W' (some g2)) ∨ (W.heap.size <= g2 /\ W.grownBy W' none)) :
  PfJ s f w lb T (xs.set r ⟨x.ls.set k ⟨y.l ++ [T r k b], some ⟨g2, 0, none⟩, c2⟩, x.a, x.c⟩) A c (r + 1) (cntP r k (b + 1) n) (W'.setCell ⟨g, k, none⟩ (.slice (some ⟨g2, 0, none⟩) (y.l.length + 1) c2)) := by
 have hyo := h.tp.tb.ls x (List.mem_of_getElem? hx) y (List.mem_of_getElem? hy)
 have hxo := h.tp.tb.rows x (List.mem_of_getElem? hx)
 have hgr : W.grownBy W' (Value.slice y.a y.l.length y.c).ownBlock := by
  rcases hw with ⟨h1, _, h3⟩ | ⟨_, h3⟩
  ·rw [h1]; exact h3
  ·exact h3.but _
 rw [hg] at hxo
 have n1 : w.heap.size ≠ g := fun e => own_ne hxo h.sx (by decide) (by rw [e]; rfl)
 have n2 : lb ≠ g := fun e => own_ne hxo h.lx (by decide) (by rw [e]; rfl)
 exact ⟨h.tp.put hx hy hg hown hw, (h.sx.grown hgr (fun e => own_ne hyo h.sx (by decide) e.symm)).far (p := ⟨g, k, none⟩) n1 _, (h.lx.grown hgr (fun e => own_ne hyo h.lx (by decide) e.symm)).far (p := ⟨g, k, none⟩) n2 _, h.fd.put hx hy hk _ _⟩
theorem PfJ.num {s : Sm} {f : Int} {w W : World} {lb : Nat} {T : Nat -> Nat -> Nat -> Int} {us : List Rw} {c r k b n g2 : Nat} (h : PfJ s f w lb T us (some ⟨g2, 0, none⟩) c (r + 1) (cntP r k b n) W) (hk : k < s.cs.length) :
  ∃ (y : Ln) (g xc : Nat), W.cell? ⟨g2, r, none⟩ = some (.slice (some ⟨g, 0, none⟩) s.cs.length xc) /\ W.cell? ⟨g, k, none⟩ = some (.slice y.a b y.c) /\
   W.ownsRow w.heap.size 3 1 (.slice y.a b y.c) b (y.l.map vi) /\ some g2 ≠ (Value.slice y.a b y.c).ownBlock /\ some g ≠ (Value.slice y.a b y.c).ownBlock /\ some lb ≠ (Value.slice y.a b y.c).ownBlock /\ (∀ q, (Value.slice y.a b y.c).ownBlock = some q -> w.heap.size <= q /\ q < W.heap.size) /\
   (∀ g3 c3 W', Onto1 y.a y.c g3 c3 W W' -> W'.ownsRow w.heap.size 3 1 (.slice (some ⟨g3, 0, none⟩) (b + 1) c3) (b + 1) (y.l.map vi ++ [vi (T r k b)]) ->
    W'.cell? ⟨g, k, none⟩ = some (.slice y.a b y.c) /\ W'.frozen? ⟨g, k, none⟩ = false /\ ∃ us2, PfJ s f w lb T us2 (some ⟨g2, 0, none⟩) c (r + 1) (cntP r k (b + 1) n) (W'.setCell ⟨g, k, none⟩ (.slice (some ⟨g3, 0, none⟩) (b + 1) c3))) := by
 obtain ⟨x, hx⟩ := get_of_lt (l := us) (k := r) (by rw [h.fd.ln]; omega)
 obtain ⟨h1, ⟨g, hg⟩, h3⟩ := h.fd.rw_ r x hx
 obtain ⟨y, hy⟩ := get_of_lt (l := x.ls) (k := k) (by omega)
 have hyl := h3 k y hy
 have hcn : cntP r k b n r k = b := by unfold cntP; rw [if_neg (by omega), if_pos ⟨rfl, rfl⟩]
 rw [hcn] at hyl
 have hlb : y.l.length = b := by rw [hyl]; simp
 have hmx := List.mem_of_getElem? hx
 have hyo := h.tp.tb.ls x hmx y (List.mem_of_getElem? hy)
 have hxo := h.tp.tb.rows x hmx
 have hto := h.tp.tb.ok
 obtain ⟨p1, o1, e1, c1⟩ := rwAll hto.rows (ne_nil_of_get hx)
 injection e1 with e1
 injection e1 with e1 e1'
 subst e1
 subst e1'
 obtain ⟨p2, o2, e2, c3⟩ := lnAll (hto.lss x hmx) (ne_nil_of_get hy)
 rw [hg] at e2
 injection e2 with e2
 injection e2 with e2 e2'
 subst e2
 subst e2'
 have cx := c1 r x hx W (newer_refl W)
 rw [hg, h1, Nat.zero_add] at cx
 have cy := c3 k y hy W (newer_refl W)
 rw [hlb, Nat.zero_add] at cy
 have hyo2 := hyo
 rw [hlb, ints_flat] at hyo2
 have nx : ∀ (z : Option Addr) (q m d : Nat) (e : TypeId) (xs : List Value), W.ownsRow w.heap.size e 1 (.slice z m d) m xs -> z = some ⟨q, 0, none⟩ -> e ≠ 3 -> some q ≠ (Value.slice y.a b y.c).ownBlock := fun z q m d e xs ho hz hne => by
  rcases own_apart ho hyo2 hne with h5 | h5
  ·rw [hz] at h5
   simp [Value.ownBlock] at h5
  ·rw [hz] at h5
   simpa [Value.ownBlock] using h5
 refine ⟨y, g, x.c, cx, cy, hyo2, nx _ _ _ _ _ _ h.tp.tb.own rfl (by decide), nx _ _ _ _ _ _ hxo hg (by decide), (own_ne hyo2 h.lx (by decide)).symm, fun q hq => ⟨own_ge hyo2 q hq, own_lt hyo2 q hq⟩, fun g3 c3 W' hon hown => ?_⟩
 have hgr := hon.grown (n := b)
 obtain ⟨q1, q2, q3, q4⟩ := h.tp.app hx hy (W' := W') (g2 := g3) (c2 := c3) hon
 have hxo' := q3 x hmx
 rw [hg] at hxo'
 obtain ⟨cs, hcs⟩ := own_cells hxo'
 refine ⟨hgr.cell cy (nx _ _ _ _ _ _ hxo hg (by decide)), hcs.free k, ?_⟩
 have hput := h.put hx hy hk hg (W' := W') (g2 := g3) (c2 := c3) (by rw [hlb, ints_flat]; exact hown) hon
 rw [hlb] at hput
 exact ⟨_, hput⟩
end

section
open Go.RowKit Go.Shelf Go.Deep
set_option maxRecDepth 100000 in
set_option maxHeartbeats 1000000 in
theorem truthAt_any (tl : List Rl) (A : Option Addr) (c tb i : Nat) (b : Bd) (y : Rl) (w : World) (ht : Whole w tb 78 #[.slice A tl.length c]) (hr : Row rlL 3 w w.heap.size A tl) (hy : tl[i]? = some y) : Calls Try.prog 76 #[vi i, bdV b, .pointer (some ⟨tb, 0, none⟩)] w fun e w' => e = .returned (rlV y) /\ newer w w' := by
 have hlt := (List.getElem?_eq_some_iff.1 hy).1
 have hki : (i : Int) < tl.length := by omega
 have e0 : newer w ((w.alloc (.cells (bdC b) 104)).alloc (.cells #[vi 0, vi 0, vi 0] 101)) := newer_trans (newer_allocH w (.cells (bdC b) 104)) (newer_allocH (w.alloc (.cells (bdC b) 104)) (.cells #[vi 0, vi 0, vi 0] 101))
 have a0 := Whole.made (w.alloc (.cells (bdC b) 104)) 101 #[vi 0, vi 0, vi 0]
 simp only [World.size_alloc] at a0
 obtain ⟨bt, ot, rfl, _, r0, r1, r2⟩ := row3 (hr.below e0) hy
 have c0 := (ht.below e0 ht.lt).at 0 (v := .slice (some ⟨bt, ot, none⟩) tl.length c) rfl
 have z0 := a0.at 0 (v := vi 0) rfl
 have z1 := a0.at 1 (v := vi 0) rfl
 have z2 := a0.at 2 (v := vi 0) rfl
 have f0 := a0.free 0
 have f1 := a0.free 1
 have f2 := a0.free 2
 have HZ : Hid (newer w ((w.alloc (.cells (bdC b) 104)).alloc (.cells (rlC y) 101)) /\ Whole ((w.alloc (.cells (bdC b) 104)).alloc (.cells (rlC y) 101)) (w.heap.size + 1) 101 (rlC y)) := Lib.hid ⟨newer_trans (newer_allocH w (.cells (bdC b) 104)) (newer_allocH (w.alloc (.cells (bdC b) 104)) (.cells (rlC y) 101)), by have h := Whole.made (w.alloc (.cells (bdC b) 104)) 101 (rlC y); rw [World.size_alloc] at h; exact h⟩
 clear e0 a0 hr hy ht hlt
 go_enter Try.func76, Try.ntmps76
 go_wp2_with fail
 have y0 := HZ.out.2.at 0 (v := vi y.fr) rfl
 have y1 := HZ.out.2.at 1 (v := vi y.co) rfl
 have y2 := HZ.out.2.at 2 (v := vi y.wa) rfl
 exact bodyPost_ret (v := .agg #[vi y.fr, vi y.co, vi y.wa]) (by simp [results, Try.results76, go_sem, y0, y1, y2]) rfl ⟨rfl, HZ.out.1⟩
def fitsA (bs : List Bd) (tl : List Rl) : Bool := decide (tl.length = bs.length) && goodB bs.length (fun i => fitB (bs.getD i zeroBd) (tl.getD i ⟨0, 0, 0⟩))
theorem fit_rlB {b : Bd} {x : Rl} (hb : bdB b = true) (h : fitB b x = true) : rlB x = true := by
 obtain ⟨_, _, h3, h4, h5⟩ := bdB_parts hb
 simp only [fitB, inB, Bool.and_eq_true, decide_eq_true_eq] at h
 simp only [rlB, inB, Bool.and_eq_true, decide_eq_true_eq]
 omega
theorem fitsA_iff {bs : List Bd} {tl : List Rl} : fitsA bs tl = true ↔ tl.length = bs.length /\ ∀ i, i < bs.length -> fitB (bs.getD i zeroBd) (tl.getD i ⟨0, 0, 0⟩) = true := by
 unfold fitsA
 rw [Bool.and_eq_true, decide_eq_true_eq, goodB_iff]
def facO (s : Sd) (frm : Int) (l : List Int) (tl : List Rl) : Int × Int := if checkUN s frm l = 0 then (if fitsA (bedsU s frm l) tl then (if dK (bedsU s frm l) (bedsU s frm l).length < 1 then (0, 7) else (factorN (hK (bedsU s frm l) (fun i => tl.getD i ⟨0, 0, 0⟩) (bedsU s frm l).length) (dK (bedsU s frm l) (bedsU s frm l).length), 0)) else (0, 9)) else (0, checkUN s frm l)
set_option maxRecDepth 100000 in
set_option maxHeartbeats 2000000 in
theorem factorP_any (s : Sm) (u : Su) (tl : List Rl) (TA : Option Addr) (tc : Nat) (w : World) (hok : SmOk s w) (few : SmFew s) (hu : SuOk u w) (hul : u.beds.length <= 1000) (htl : tl.length <= 1000) (htr : Row rlL 3 w w.heap.size TA tl) : Calls Try.prog 42 #[smV s, suV u, .slice TA tl.length tc] w fun e w' => e = .returned (.tuple #[vi (facO s.sd u.frm u.beds tl).1, vi (facO s.sd u.frm u.beds tl).2]) /\ newer w w' := by
 have hnw : newer w (((w.alloc (.cells (smC s) 37)).alloc (.cells (suC u) 39)).alloc (.cells #[.slice TA tl.length tc] 78)) := newer_trans (newer_trans (newer_allocH _ _) (newer_allocH _ _)) (newer_allocH _ _)
 have e3 := newer_allocH ((w.alloc (.cells (smC s) 37)).alloc (.cells (suC u) 39)) (.cells #[.slice TA tl.length tc] 78)
 have hxb0 := (Whole.made w 37 (smC s)).alloc (.cells (suC u) 39)
 have hub0 := Whole.made (w.alloc (.cells (smC s) 37)) 39 (suC u)
 have htb := Whole.made ((w.alloc (.cells (smC s) 37)).alloc (.cells (suC u) 39)) 78 #[.slice TA tl.length tc]
 rw [World.size_alloc] at hub0
 rw [World.size_alloc, World.size_alloc] at htb
 have hxb := hxb0.below e3 hxb0.lt
 have hub := hub0.below e3 hub0.lt
 have H0 := Lib.hid (And.intro hnw (And.intro hxb (And.intro hub htb)))
 have HCU := Lib.hid (checkU_any s u _ (hok.next hnw) few (hu.next hnw) hul)
 have x0 := hxb.at 0 (v := .slice s.a s.cs.length s.c) rfl
 have x1 := hxb.at 1 (v := vi s.least) rfl
 have u0 := hub.at 0 (v := vi u.frm) rfl
 have u1 := hub.at 1 (v := .slice u.a u.beds.length u.c) rfl
 have HOK := Lib.hid (And.intro hok (And.intro hu htr))
 have HZ : Hid (checkUN s.sd u.frm u.beds = 0 -> SdOk s.sd /\ surfB s.sd u.frm u.beds = true) := Lib.hid checkU_zero
 obtain ⟨R, hR⟩ : ∃ R, R = facO s.sd u.frm u.beds tl := ⟨_, rfl⟩
 rw [<- hR]
 unfold facO at hR
 obtain ⟨a, ha⟩ : ∃ a, a = checkUN s.sd u.frm u.beds := ⟨_, rfl⟩
 rw [<- ha] at HCU HZ hR
 clear ha hok few hu hul hnw hxb hub hxb0 hub0 htb e3 htr
 by_cases hz : a = 0
 ·subst hz
  obtain ⟨hs, hsf⟩ := HZ.out rfl
  obtain ⟨p1, p2, p3⟩ := surfB_parts hs hsf
  rw [if_pos rfl] at hR
  obtain ⟨k0, hk0⟩ : ∃ k0, k0 = u.frm.toNat := ⟨_, rfl⟩
  obtain ⟨l, hl⟩ : ∃ l, l = u.beds.map Int.toNat := ⟨_, rfl⟩
  rw [<- hk0] at p1 p3
  rw [<- hl] at p2 p3
  rw [sd_len] at p3
  have HBE : Hid (∀ W, newer w W -> Calls Try.prog 58 #[smV s, suV u] W fun e w' => ∃ A c, e = .returned (.slice A l.length c) /\ w'.ownsRow W.heap.size 104 8 (.slice A l.length c) l.length ((bedsL s.sd.cols k0 l).flatMap bdL) /\ newer W w') := Lib.hid (fun W hW => bedsU_any s u k0 l W (HOK.out.1.next hW) hs (HOK.out.2.1.next hW) p1 p2 p3)
  have hll : l.length <= 12 := by have h1 := p3.2.1; have h2 := hs.cols; rw [sd_len] at h2; omega
  have hbo := bedsL_ok hs p3.2.2 p3.2.1
  have eb : bedsU s.sd u.frm u.beds = bedsL s.sd.cols k0 l := by unfold bedsU; rw [<- hk0, <- hl]
  rw [eb] at hR
  have hbl := bedsL_len s.sd.cols l k0
  obtain ⟨bs, hbs⟩ : ∃ bs, bs = bedsL s.sd.cols k0 l := ⟨_, rfl⟩
  rw [<- hbs] at HBE hbo hbl hR
  rw [<- hbl] at HBE
  have hbn : bs.length <= 12 := by omega
  have HBO := Lib.hid hbo
  have HRR := Lib.hid hR
  clear hR hs hsf p1 p2 p3 hk0 hl hll eb hbl hbs hbo HZ
  go_enter Try.func42, Try.ntmps42
  go_wp2_with fail
  refine (HCU.out).mono ?_
  rintro e w1 ⟨rfl, hb⟩
  have H1 := Lib.hid (And.intro (newer_trans H0.out.1 hb) (And.intro (H0.out.2.1.below hb H0.out.2.1.lt) (And.intro (H0.out.2.2.1.below hb H0.out.2.2.1.lt) (H0.out.2.2.2.below hb H0.out.2.2.2.lt))))
  clear H0 hb HCU x0 x1 u0 u1
  have x0 := H1.out.2.1.at 0 (v := .slice s.a s.cs.length s.c) rfl
  have x1 := H1.out.2.1.at 1 (v := vi s.least) rfl
  have u0 := H1.out.2.2.1.at 0 (v := vi u.frm) rfl
  have u1 := H1.out.2.2.1.at 1 (v := .slice u.a u.beds.length u.c) rfl
  go_wp2_with fail
  refine (HBE.out _ H1.out.1).mono ?_
  rintro e w2 ⟨A, c, rfl, ho, hb⟩
  have hrow := row_of_own (enc := bdL) (size := 8) (by omega) (fun _ => rfl) ho
  have H2 := Lib.hid (And.intro (newer_trans H1.out.1 hb) (And.intro (H1.out.2.2.2.below hb H1.out.2.2.2.lt) hrow))
  have HX2 := Lib.hid (And.intro (newer_trans H1.out.1 hb) (H1.out.2.2.2.below hb H1.out.2.2.2.lt))
  clear H1 hb HBE x0 x1 u0 u1 ho hrow
  have t0 := H2.out.2.1.at 0 (v := .slice TA tl.length tc) rfl
  by_cases hlen : tl.length = bs.length
  case neg =>
   have hb0 : ((tl.length : Int) == (bs.length : Int)) = false := by simp; omega
   have hb1 : ((tl.length : Int) != (bs.length : Int)) = true := by simp; omega
   have hb2 : (tl.length == bs.length) = false := by simpa using hlen
   have hb3 : (tl.length != bs.length) = true := by simpa using hlen
   have HE : Hid (R = (0, 9)) := Lib.hid (by
    rw [HRR.out, if_neg]
    intro h
    exact hlen (fitsA_iff.1 h).1)
   clear hlen
   go_wp2_with fail
   exact bodyPost_ret (v := .tuple #[vi 0, vi 9]) (by simp [results, Try.results42, go_sem]) rfl ⟨by rw [HE.out], H2.out.1⟩
  case pos =>
  have HLN := Lib.hid hlen
  have HFL : Hid (¬ (∀ i, i < bs.length -> fitB (bs.getD i zeroBd) (tl.getD i ⟨0, 0, 0⟩) = true) -> R = (0, 9)) := Lib.hid (fun h => by
   rw [HRR.out, if_neg]
   intro h2
   exact h (fitsA_iff.1 h2).2)
  rw [hlen] at t0
  have hq0 : ((bs.length : Int) == (bs.length : Int)) = true := by simp
  have hq1 : ((bs.length : Int) != (bs.length : Int)) = false := by simp
  clear hlen
  go_wp2_with fail
  go_loopw [30] (fun s30 wr => ∃ k : Nat, s30 = vi k /\ k <= bs.length /\ (∀ i, i < k -> fitB (bs.getD i zeroBd) (tl.getD i ⟨0, 0, 0⟩) = true) /\ newer w wr /\ Whole wr (w.heap.size + 1 + 1) 78 #[.slice TA tl.length tc] /\ Row bdL 8 wr wr.heap.size A bs) (fun s30 _ => bs.length - (intOf s30).toNat)
  case atStart => exact ⟨0, rfl, Nat.zero_le _, fun i h => absurd h (by omega), H2.out.1, H2.out.2.1, H2.out.2.2⟩
  case round =>
   obtain ⟨k, rfl, hk, hfit, hn, htb, hrow⟩ := hrel
   clear H2 HX2 t0 hq0 hq1
   have HFI := Lib.hid hfit
   have HJ := Lib.hid (And.intro hn (And.intro htb hrow))
   clear hfit hn htb hrow
   by_cases hlt : k < bs.length
   ·obtain ⟨bd, hbd⟩ := get_of_lt hlt
    obtain ⟨y, hy⟩ := get_of_lt (l := tl) (k := k) (by rw [HLN.out]; exact hlt)
    obtain ⟨b4, o4, rfl, _, d0, d1, d2, d3, d4, d5, d6, d7⟩ := row8 HJ.out.2.2 hbd
    have hge : bs.getD k zeroBd = bd := by simp [List.getD, hbd]
    have hgy : tl.getD k ⟨0, 0, 0⟩ = y := by simp [List.getD, hy]
    have HFK : Hid (fitB (bs.getD k zeroBd) (tl.getD k ⟨0, 0, 0⟩) = (inB y.fr bd.fr.lo bd.fr.hi && inB y.co bd.co.lo bd.co.hi && inB y.wa bd.wa.lo bd.wa.hi)) := Lib.hid (by rw [hge, hgy]; rfl)
    obtain ⟨bt, ot, eT, _, r0, r1, r2⟩ := row3 (HOK.out.2.2.below HJ.out.1) hy
    have hkb : (k : Int) < bs.length := by omega
    have hkt : (k : Int) < tl.length := by rw [HLN.out]; exact hkb
    have HET := Lib.hid eT
    have HRW := Lib.hid (And.intro r0 (And.intro r1 r2))
    have e5 := newer_allocH wr (.cells (bdC bd) 104)
    have HE4 := Lib.hid (And.intro (newer_trans HJ.out.1 e5) (And.intro (HJ.out.2.1.below e5 HJ.out.2.1.lt) (And.intro ((HJ.out.2.2.below e5).more e5.size) (And.intro (Whole.made wr 104 (bdC bd)) (And.intro (keep_cell r0 e5) (And.intro (keep_cell r1 e5) (keep_cell r2 e5)))))))
    clear hbd hy hge hgy e5 r0 r1 r2 eT HJ HRW
    go_upto_region 10 with fail
    refine genQ (fun X => newer w X /\ Whole X (w.heap.size + 1 + 1) 78 #[.slice TA tl.length tc] /\ Row bdL 8 X X.heap.size (some ⟨b4, o4, none⟩) bs /\ Whole X wr.heap.size 104 (bdC bd) /\ X.cell? ⟨bt, ot + k * 3, none⟩ = some (vi y.fr) /\ X.cell? ⟨bt, ot + k * 3 + 1, none⟩ = some (vi y.co) /\ X.cell? ⟨bt, ot + k * 3 + 2, none⟩ = some (vi y.wa)) HE4.out ?_
    clear HE4 d0 d1 d2 d3 d4 d5 d6 d7
    obtain ⟨bb, hbb⟩ : ∃ bb, bb = wr.heap.size := ⟨_, rfl⟩
    rw [<- hbb]
    rintro w5 ⟨p1, p2, p3, p4, r0, r1, r2⟩
    have z0 := p4.at 0 (v := vi bd.drive) rfl
    have z1 := p4.at 1 (v := vi bd.normal) rfl
    have z2 := p4.at 2 (v := vi bd.fr.lo) rfl
    have z3 := p4.at 3 (v := vi bd.fr.hi) rfl
    have z4 := p4.at 4 (v := vi bd.co.lo) rfl
    have z5 := p4.at 5 (v := vi bd.co.hi) rfl
    have z6 := p4.at 6 (v := vi bd.wa.lo) rfl
    have z7 := p4.at 7 (v := vi bd.wa.hi) rfl
    have t0 := p2.at 0 (v := .slice TA tl.length tc) rfl
    rw [HET.out] at t0
    have HE5 := Lib.hid (And.intro p1 (And.intro p2 p3))
    have HH1 := Lib.hid (fun W => has_any bd.fr y.fr W)
    have HH2 := Lib.hid (fun W => has_any bd.co y.co W)
    have HH3 := Lib.hid (fun W => has_any bd.wa y.wa W)
    obtain ⟨q1, hq1⟩ : ∃ q, q = inB y.fr bd.fr.lo bd.fr.hi := ⟨_, rfl⟩
    obtain ⟨q2, hq2⟩ : ∃ q, q = inB y.co bd.co.lo bd.co.hi := ⟨_, rfl⟩
    obtain ⟨q3, hq3⟩ : ∃ q, q = inB y.wa bd.wa.lo bd.wa.hi := ⟨_, rfl⟩
    rw [<- hq1, <- hq2, <- hq3] at HFK
    rw [<- hq1] at HH1
    rw [<- hq2] at HH2
    rw [<- hq3] at HH3
    clear p1 p2 p3 p4 hbb hq1 hq2 hq3
    cases q1 with
    | false =>
     refine wp_words (by kernel_rfl) (region_told_u 30 (by kernel_rfl) (by kernel_rfl) [false, false, false, false, false, false, false, false, false, false, true, true, true, true, true, true, true, true, true, false, false, true, true, true, true, true, true, true, true, true] (fun W => Below w5.heap.size w5 W) newer [vIs (.pointer (some ⟨bb, 2, none⟩)), vIs (rgV bd.fr), vIs (.slice (some ⟨bt, ot, none⟩) tl.length tc), vIs (vi k), vIs (.pointer (some ⟨bt, ot + k * 3, none⟩)), vIs (.pointer (some ⟨bt, ot + k * 3, none⟩)), vIs (vi y.fr), vIs (.bool false), vIs (.bool true), vIs (.bool true), vIs (undef), vIs (undef), vIs (undef), vIs (undef), vIs (undef), vIs (undef), vIs (undef), vIs (undef), vIs (undef), vIs (.bool true), vIs (.bool true), vIs (undef), vIs (undef), vIs (undef), vIs (undef), vIs (undef), vIs (undef), vIs (undef), vIs (undef), vIs (undef)] (by repeat' first | refine And.intro ?_ ?_ | exact trivial | exact rfl | (intro v W h; obtain rfl : v = _ := h; first | rfl | (simp; done) | (simp [undef]; done))) (by repeat' first | refine And.intro ?_ ?_ | exact trivial | exact (fun h => Bool.noConfusion (show false = true from h)) | exact (fun _ _ => rfl)) (fun h k => newer_trans h k) (pickD_stable _ (by repeat' first | refine And.intro ?_ ?_ | exact trivial | exact vIs_st)) (Below.refl _ w5).drew (Below.refl _ _) ?_ ?_)
     ·refine ⟨.inr ?_, .inr ?_, .inr ?_, .inr ?_, .inr ?_, .inr ?_, .inr ?_, .inr ?_, .inr ?_, .inr ?_, .inl rfl, .inl rfl, .inl rfl, .inl rfl, .inl rfl, .inl rfl, .inl rfl, .inl rfl, .inl rfl, .inr ?_, .inr ?_, .inl rfl, .inl rfl, .inl rfl, .inl rfl, .inl rfl, .inl rfl, .inl rfl, .inl rfl, .inl rfl, trivial⟩
      ·intro a W hG hR hO hp; have h11 := hO.slot 11 (by kernel_rfl); refine kY (v := .pointer (some ⟨bb, 2, none⟩)) hG rfl ?_; simp [slotOf] at h11; simp [execOp, go_sem, h11]
      ·intro a W hG hR hO hp; have h35 : slotOf a 35 = .pointer (some ⟨bb, 2, none⟩) := hp.1; have c0 := keep_cell z2 hG; have c1 := keep_cell z3 hG; refine kY (v := rgV bd.fr) hG rfl ?_; simp [slotOf] at h35; simp [execOp, go_sem, h35, c0, c1]
      ·intro a W hG hR hO hp; have h5 := hO.slot 5 (by kernel_rfl); have c0 := keep_cell t0 hG; refine kY (v := .slice (some ⟨bt, ot, none⟩) tl.length tc) hG rfl ?_; simp [slotOf] at h5; simp [execOp, go_sem, h5, c0]
      ·exact fun a W hG _ hO _ => kM 10 rfl (hO.slot 10 (by kernel_rfl)) rfl hG
      ·intro a W hG hR hO hp; have h37 : slotOf a 37 = .slice (some ⟨bt, ot, none⟩) tl.length tc := hp.1; have h38 : slotOf a 38 = vi k := hp.2.1; refine kY (v := .pointer (some ⟨bt, ot + k * 3, none⟩)) hG rfl ?_; simp [slotOf] at h37 h38; simp [execOp, go_sem, h37, h38, hkt]
      ·intro a W hG hR hO hp; have h39 : slotOf a 39 = .pointer (some ⟨bt, ot + k * 3, none⟩) := hp.1; refine kY (v := .pointer (some ⟨bt, ot + k * 3, none⟩)) hG rfl ?_; simp [slotOf] at h39; simp [execOp, go_sem, h39]
      ·intro a W hG hR hO hp; have h40 : slotOf a 40 = .pointer (some ⟨bt, ot + k * 3, none⟩) := hp.1; have c0 := keep_cell r0 hG; refine kY (v := vi y.fr) hG rfl ?_; simp [slotOf] at h40; simp [execOp, go_sem, h40, c0]
      ·intro a W hG hR hO hp
       have h36 : slotOf a 36 = rgV bd.fr := hp.1
       have h41 : slotOf a 41 = vi y.fr := hp.2.1
       refine wp_enters (f := 75) (args := #[rgV bd.fr, vi y.fr]) ?_ ((HH1.out W).mono ?_)
       ·simp [slotOf] at h36 h41
        simp [go_sem, h36, h41]
       ·rintro e w' ⟨rfl, hb⟩
        exact ⟨_, rfl, _, rfl, rfl, hb, below_next hG hb⟩
      ·intro a W hG hR hO hp; have h42 : slotOf a 42 = .bool false := hp.1; refine kY (v := .bool true) hG rfl ?_; simp [slotOf] at h42; simp [execOp, go_sem, h42]
      ·exact fun a W hG _ _ hp => kM 43 rfl hp.1 rfl hG
      ·intro a W hG hR hO hp; have h44 : slotOf a 44 = .bool true := hp.1; have h53 : slotOf a 53 = undef := hp.2.1; refine kY (v := .bool true) hG rfl ?_; simp [slotOf] at h44 h53; simp [execOp, go_sem, h44, h53]
      ·exact fun a W hG _ _ hp => kM 54 rfl hp.1 rfl hG
     ·intro wz hG hR
      rintro _ rfl _ rfl _ rfl _ rfl _ rfl _ rfl _ rfl _ rfl _ rfl _ rfl _ rfl _ rfl _ rfl _ rfl _ rfl _ rfl _ rfl _ rfl _ rfl _ rfl _ rfl _ rfl _ rfl _ rfl _ rfl _ rfl _ rfl _ rfl _ rfl _ rfl
      change wpList _ _ _ _ _ _
      simp only [Act.put, List.setIfInBounds_toArray, List.set_cons_zero, List.set_cons_succ, List.drop_succ_cons, List.drop_zero]
      have HN := Lib.hid (newer_trans HE5.out.1 hG)
      have HFF := Lib.hid (HFL.out (fun h => by have h1 := h k hlt; rw [HFK.out] at h1; cases h1))
      clear hG hR HE5 t0 r0 r1 r2 z0 z1 z2 z3 z4 z5 z6 z7
      go_wp2_with fail
      exact bodyPost_ret (v := .tuple #[vi 0, vi 9]) (by simp [results, Try.results42, go_sem]) rfl ⟨by rw [HFF.out], HN.out⟩
    | true =>
    cases q2 with
    | false =>
     refine wp_words (by kernel_rfl) (region_told_u 30 (by kernel_rfl) (by kernel_rfl) [false, false, false, false, false, false, false, false, false, false, false, false, false, false, false, false, false, false, false, false, false, true, true, true, true, true, true, true, true, true] (fun W => Below w5.heap.size w5 W) newer [vIs (.pointer (some ⟨bb, 2, none⟩)), vIs (rgV bd.fr), vIs (.slice (some ⟨bt, ot, none⟩) tl.length tc), vIs (vi k), vIs (.pointer (some ⟨bt, ot + k * 3, none⟩)), vIs (.pointer (some ⟨bt, ot + k * 3, none⟩)), vIs (vi y.fr), vIs (.bool true), vIs (.bool false), vIs (.bool false), vIs (.pointer (some ⟨bb, 4, none⟩)), vIs (rgV bd.co), vIs (.slice (some ⟨bt, ot, none⟩) tl.length tc), vIs (vi k), vIs (.pointer (some ⟨bt, ot + k * 3, none⟩)), vIs (.pointer (some ⟨bt, ot + k * 3 + 1, none⟩)), vIs (vi y.co), vIs (.bool false), vIs (.bool true), vIs (.bool true), vIs (.bool true), vIs (undef), vIs (undef), vIs (undef), vIs (undef), vIs (undef), vIs (undef), vIs (undef), vIs (undef), vIs (undef)] (by repeat' first | refine And.intro ?_ ?_ | exact trivial | exact rfl | (intro v W h; obtain rfl : v = _ := h; first | rfl | (simp; done) | (simp [undef]; done))) (by repeat' first | refine And.intro ?_ ?_ | exact trivial | exact (fun h => Bool.noConfusion (show false = true from h)) | exact (fun _ _ => rfl)) (fun h k => newer_trans h k) (pickD_stable _ (by repeat' first | refine And.intro ?_ ?_ | exact trivial | exact vIs_st)) (Below.refl _ w5).drew (Below.refl _ _) ?_ ?_)
     ·refine ⟨.inr ?_, .inr ?_, .inr ?_, .inr ?_, .inr ?_, .inr ?_, .inr ?_, .inr ?_, .inr ?_, .inr ?_, .inr ?_, .inr ?_, .inr ?_, .inr ?_, .inr ?_, .inr ?_, .inr ?_, .inr ?_, .inr ?_, .inr ?_, .inr ?_, .inl rfl, .inl rfl, .inl rfl, .inl rfl, .inl rfl, .inl rfl, .inl rfl, .inl rfl, .inl rfl, trivial⟩
      ·intro a W hG hR hO hp; have h11 := hO.slot 11 (by kernel_rfl); refine kY (v := .pointer (some ⟨bb, 2, none⟩)) hG rfl ?_; simp [slotOf] at h11; simp [execOp, go_sem, h11]
      ·intro a W hG hR hO hp; have h35 : slotOf a 35 = .pointer (some ⟨bb, 2, none⟩) := hp.1; have c0 := keep_cell z2 hG; have c1 := keep_cell z3 hG; refine kY (v := rgV bd.fr) hG rfl ?_; simp [slotOf] at h35; simp [execOp, go_sem, h35, c0, c1]
      ·intro a W hG hR hO hp; have h5 := hO.slot 5 (by kernel_rfl); have c0 := keep_cell t0 hG; refine kY (v := .slice (some ⟨bt, ot, none⟩) tl.length tc) hG rfl ?_; simp [slotOf] at h5; simp [execOp, go_sem, h5, c0]
      ·exact fun a W hG _ hO _ => kM 10 rfl (hO.slot 10 (by kernel_rfl)) rfl hG
      ·intro a W hG hR hO hp; have h37 : slotOf a 37 = .slice (some ⟨bt, ot, none⟩) tl.length tc := hp.1; have h38 : slotOf a 38 = vi k := hp.2.1; refine kY (v := .pointer (some ⟨bt, ot + k * 3, none⟩)) hG rfl ?_; simp [slotOf] at h37 h38; simp [execOp, go_sem, h37, h38, hkt]
      ·intro a W hG hR hO hp; have h39 : slotOf a 39 = .pointer (some ⟨bt, ot + k * 3, none⟩) := hp.1; refine kY (v := .pointer (some ⟨bt, ot + k * 3, none⟩)) hG rfl ?_; simp [slotOf] at h39; simp [execOp, go_sem, h39]
      ·intro a W hG hR hO hp; have h40 : slotOf a 40 = .pointer (some ⟨bt, ot + k * 3, none⟩) := hp.1; have c0 := keep_cell r0 hG; refine kY (v := vi y.fr) hG rfl ?_; simp [slotOf] at h40; simp [execOp, go_sem, h40, c0]
      ·intro a W hG hR hO hp
       have h36 : slotOf a 36 = rgV bd.fr := hp.1
       have h41 : slotOf a 41 = vi y.fr := hp.2.1
       refine wp_enters (f := 75) (args := #[rgV bd.fr, vi y.fr]) ?_ ((HH1.out W).mono ?_)
       ·simp [slotOf] at h36 h41
        simp [go_sem, h36, h41]
       ·rintro e w' ⟨rfl, hb⟩
        exact ⟨_, rfl, _, rfl, rfl, hb, below_next hG hb⟩
      ·intro a W hG hR hO hp; have h42 : slotOf a 42 = .bool true := hp.1; refine kY (v := .bool false) hG rfl ?_; simp [slotOf] at h42; simp [execOp, go_sem, h42]
      ·exact fun a W hG _ _ hp => kM 43 rfl hp.1 rfl hG
      ·intro a W hG hR hO hp; have h11 := hO.slot 11 (by kernel_rfl); refine kY (v := .pointer (some ⟨bb, 4, none⟩)) hG rfl ?_; simp [slotOf] at h11; simp [execOp, go_sem, h11]
      ·intro a W hG hR hO hp; have h45 : slotOf a 45 = .pointer (some ⟨bb, 4, none⟩) := hp.1; have c0 := keep_cell z4 hG; have c1 := keep_cell z5 hG; refine kY (v := rgV bd.co) hG rfl ?_; simp [slotOf] at h45; simp [execOp, go_sem, h45, c0, c1]
      ·intro a W hG hR hO hp; have h5 := hO.slot 5 (by kernel_rfl); have c0 := keep_cell t0 hG; refine kY (v := .slice (some ⟨bt, ot, none⟩) tl.length tc) hG rfl ?_; simp [slotOf] at h5; simp [execOp, go_sem, h5, c0]
      ·exact fun a W hG _ hO _ => kM 10 rfl (hO.slot 10 (by kernel_rfl)) rfl hG
      ·intro a W hG hR hO hp; have h47 : slotOf a 47 = .slice (some ⟨bt, ot, none⟩) tl.length tc := hp.1; have h48 : slotOf a 48 = vi k := hp.2.1; refine kY (v := .pointer (some ⟨bt, ot + k * 3, none⟩)) hG rfl ?_; simp [slotOf] at h47 h48; simp [execOp, go_sem, h47, h48, hkt]
      ·intro a W hG hR hO hp; have h49 : slotOf a 49 = .pointer (some ⟨bt, ot + k * 3, none⟩) := hp.1; refine kY (v := .pointer (some ⟨bt, ot + k * 3 + 1, none⟩)) hG rfl ?_; simp [slotOf] at h49; simp [execOp, go_sem, h49]
      ·intro a W hG hR hO hp; have h50 : slotOf a 50 = .pointer (some ⟨bt, ot + k * 3 + 1, none⟩) := hp.1; have c0 := keep_cell r1 hG; refine kY (v := vi y.co) hG rfl ?_; simp [slotOf] at h50; simp [execOp, go_sem, h50, c0]
      ·intro a W hG hR hO hp
       have h46 : slotOf a 46 = rgV bd.co := hp.1
       have h51 : slotOf a 51 = vi y.co := hp.2.1
       refine wp_enters (f := 75) (args := #[rgV bd.co, vi y.co]) ?_ ((HH2.out W).mono ?_)
       ·simp [slotOf] at h46 h51
        simp [go_sem, h46, h51]
       ·rintro e w' ⟨rfl, hb⟩
        exact ⟨_, rfl, _, rfl, rfl, hb, below_next hG hb⟩
      ·intro a W hG hR hO hp; have h52 : slotOf a 52 = .bool false := hp.1; refine kY (v := .bool true) hG rfl ?_; simp [slotOf] at h52; simp [execOp, go_sem, h52]
      ·intro a W hG hR hO hp; have h44 : slotOf a 44 = .bool false := hp.1; have h53 : slotOf a 53 = .bool true := hp.2.1; refine kY (v := .bool true) hG rfl ?_; simp [slotOf] at h44 h53; simp [execOp, go_sem, h44, h53]
      ·exact fun a W hG _ _ hp => kM 54 rfl hp.1 rfl hG
     ·intro wz hG hR
      rintro _ rfl _ rfl _ rfl _ rfl _ rfl _ rfl _ rfl _ rfl _ rfl _ rfl _ rfl _ rfl _ rfl _ rfl _ rfl _ rfl _ rfl _ rfl _ rfl _ rfl _ rfl _ rfl _ rfl _ rfl _ rfl _ rfl _ rfl _ rfl _ rfl _ rfl
      change wpList _ _ _ _ _ _
      simp only [Act.put, List.setIfInBounds_toArray, List.set_cons_zero, List.set_cons_succ, List.drop_succ_cons, List.drop_zero]
      have HN := Lib.hid (newer_trans HE5.out.1 hG)
      have HFF := Lib.hid (HFL.out (fun h => by have h1 := h k hlt; rw [HFK.out] at h1; cases h1))
      clear hG hR HE5 t0 r0 r1 r2 z0 z1 z2 z3 z4 z5 z6 z7
      go_wp2_with fail
      exact bodyPost_ret (v := .tuple #[vi 0, vi 9]) (by simp [results, Try.results42, go_sem]) rfl ⟨by rw [HFF.out], HN.out⟩
    | true =>
    cases q3 with
    | false =>
     refine wp_words (by kernel_rfl) (region_told_u 30 (by kernel_rfl) (by kernel_rfl) [false, false, false, false, false, false, false, false, false, false, false, false, false, false, false, false, false, false, false, false, false, false, false, false, false, false, false, false, false, false] (fun W => Below w5.heap.size w5 W) newer [vIs (.pointer (some ⟨bb, 2, none⟩)), vIs (rgV bd.fr), vIs (.slice (some ⟨bt, ot, none⟩) tl.length tc), vIs (vi k), vIs (.pointer (some ⟨bt, ot + k * 3, none⟩)), vIs (.pointer (some ⟨bt, ot + k * 3, none⟩)), vIs (vi y.fr), vIs (.bool true), vIs (.bool false), vIs (.bool false), vIs (.pointer (some ⟨bb, 4, none⟩)), vIs (rgV bd.co), vIs (.slice (some ⟨bt, ot, none⟩) tl.length tc), vIs (vi k), vIs (.pointer (some ⟨bt, ot + k * 3, none⟩)), vIs (.pointer (some ⟨bt, ot + k * 3 + 1, none⟩)), vIs (vi y.co), vIs (.bool true), vIs (.bool false), vIs (.bool false), vIs (.bool false), vIs (.pointer (some ⟨bb, 6, none⟩)), vIs (rgV bd.wa), vIs (.slice (some ⟨bt, ot, none⟩) tl.length tc), vIs (vi k), vIs (.pointer (some ⟨bt, ot + k * 3, none⟩)), vIs (.pointer (some ⟨bt, ot + k * 3 + 2, none⟩)), vIs (vi y.wa), vIs (.bool false), vIs (.bool true)] (by repeat' first | refine And.intro ?_ ?_ | exact trivial | exact rfl | (intro v W h; obtain rfl : v = _ := h; first | rfl | (simp; done) | (simp [undef]; done))) (by repeat' first | refine And.intro ?_ ?_ | exact trivial | exact (fun h => Bool.noConfusion (show false = true from h)) | exact (fun _ _ => rfl)) (fun h k => newer_trans h k) (pickD_stable _ (by repeat' first | refine And.intro ?_ ?_ | exact trivial | exact vIs_st)) (Below.refl _ w5).drew (Below.refl _ _) ?_ ?_)
     ·refine ⟨.inr ?_, .inr ?_, .inr ?_, .inr ?_, .inr ?_, .inr ?_, .inr ?_, .inr ?_, .inr ?_, .inr ?_, .inr ?_, .inr ?_, .inr ?_, .inr ?_, .inr ?_, .inr ?_, .inr ?_, .inr ?_, .inr ?_, .inr ?_, .inr ?_, .inr ?_, .inr ?_, .inr ?_, .inr ?_, .inr ?_, .inr ?_, .inr ?_, .inr ?_, .inr ?_, trivial⟩
      ·intro a W hG hR hO hp; have h11 := hO.slot 11 (by kernel_rfl); refine kY (v := .pointer (some ⟨bb, 2, none⟩)) hG rfl ?_; simp [slotOf] at h11; simp [execOp, go_sem, h11]
      ·intro a W hG hR hO hp; have h35 : slotOf a 35 = .pointer (some ⟨bb, 2, none⟩) := hp.1; have c0 := keep_cell z2 hG; have c1 := keep_cell z3 hG; refine kY (v := rgV bd.fr) hG rfl ?_; simp [slotOf] at h35; simp [execOp, go_sem, h35, c0, c1]
      ·intro a W hG hR hO hp; have h5 := hO.slot 5 (by kernel_rfl); have c0 := keep_cell t0 hG; refine kY (v := .slice (some ⟨bt, ot, none⟩) tl.length tc) hG rfl ?_; simp [slotOf] at h5; simp [execOp, go_sem, h5, c0]
      ·exact fun a W hG _ hO _ => kM 10 rfl (hO.slot 10 (by kernel_rfl)) rfl hG
      ·intro a W hG hR hO hp; have h37 : slotOf a 37 = .slice (some ⟨bt, ot, none⟩) tl.length tc := hp.1; have h38 : slotOf a 38 = vi k := hp.2.1; refine kY (v := .pointer (some ⟨bt, ot + k * 3, none⟩)) hG rfl ?_; simp [slotOf] at h37 h38; simp [execOp, go_sem, h37, h38, hkt]
      ·intro a W hG hR hO hp; have h39 : slotOf a 39 = .pointer (some ⟨bt, ot + k * 3, none⟩) := hp.1; refine kY (v := .pointer (some ⟨bt, ot + k * 3, none⟩)) hG rfl ?_; simp [slotOf] at h39; simp [execOp, go_sem, h39]
      ·intro a W hG hR hO hp; have h40 : slotOf a 40 = .pointer (some ⟨bt, ot + k * 3, none⟩) := hp.1; have c0 := keep_cell r0 hG; refine kY (v := vi y.fr) hG rfl ?_; simp [slotOf] at h40; simp [execOp, go_sem, h40, c0]
      ·intro a W hG hR hO hp
       have h36 : slotOf a 36 = rgV bd.fr := hp.1
       have h41 : slotOf a 41 = vi y.fr := hp.2.1
       refine wp_enters (f := 75) (args := #[rgV bd.fr, vi y.fr]) ?_ ((HH1.out W).mono ?_)
       ·simp [slotOf] at h36 h41
        simp [go_sem, h36, h41]
       ·rintro e w' ⟨rfl, hb⟩
        exact ⟨_, rfl, _, rfl, rfl, hb, below_next hG hb⟩
      ·intro a W hG hR hO hp; have h42 : slotOf a 42 = .bool true := hp.1; refine kY (v := .bool false) hG rfl ?_; simp [slotOf] at h42; simp [execOp, go_sem, h42]
      ·exact fun a W hG _ _ hp => kM 43 rfl hp.1 rfl hG
      ·intro a W hG hR hO hp; have h11 := hO.slot 11 (by kernel_rfl); refine kY (v := .pointer (some ⟨bb, 4, none⟩)) hG rfl ?_; simp [slotOf] at h11; simp [execOp, go_sem, h11]
      ·intro a W hG hR hO hp; have h45 : slotOf a 45 = .pointer (some ⟨bb, 4, none⟩) := hp.1; have c0 := keep_cell z4 hG; have c1 := keep_cell z5 hG; refine kY (v := rgV bd.co) hG rfl ?_; simp [slotOf] at h45; simp [execOp, go_sem, h45, c0, c1]
      ·intro a W hG hR hO hp; have h5 := hO.slot 5 (by kernel_rfl); have c0 := keep_cell t0 hG; refine kY (v := .slice (some ⟨bt, ot, none⟩) tl.length tc) hG rfl ?_; simp [slotOf] at h5; simp [execOp, go_sem, h5, c0]
      ·exact fun a W hG _ hO _ => kM 10 rfl (hO.slot 10 (by kernel_rfl)) rfl hG
      ·intro a W hG hR hO hp; have h47 : slotOf a 47 = .slice (some ⟨bt, ot, none⟩) tl.length tc := hp.1; have h48 : slotOf a 48 = vi k := hp.2.1; refine kY (v := .pointer (some ⟨bt, ot + k * 3, none⟩)) hG rfl ?_; simp [slotOf] at h47 h48; simp [execOp, go_sem, h47, h48, hkt]
      ·intro a W hG hR hO hp; have h49 : slotOf a 49 = .pointer (some ⟨bt, ot + k * 3, none⟩) := hp.1; refine kY (v := .pointer (some ⟨bt, ot + k * 3 + 1, none⟩)) hG rfl ?_; simp [slotOf] at h49; simp [execOp, go_sem, h49]
      ·intro a W hG hR hO hp; have h50 : slotOf a 50 = .pointer (some ⟨bt, ot + k * 3 + 1, none⟩) := hp.1; have c0 := keep_cell r1 hG; refine kY (v := vi y.co) hG rfl ?_; simp [slotOf] at h50; simp [execOp, go_sem, h50, c0]
      ·intro a W hG hR hO hp
       have h46 : slotOf a 46 = rgV bd.co := hp.1
       have h51 : slotOf a 51 = vi y.co := hp.2.1
       refine wp_enters (f := 75) (args := #[rgV bd.co, vi y.co]) ?_ ((HH2.out W).mono ?_)
       ·simp [slotOf] at h46 h51
        simp [go_sem, h46, h51]
       ·rintro e w' ⟨rfl, hb⟩
        exact ⟨_, rfl, _, rfl, rfl, hb, below_next hG hb⟩
      ·intro a W hG hR hO hp; have h52 : slotOf a 52 = .bool true := hp.1; refine kY (v := .bool false) hG rfl ?_; simp [slotOf] at h52; simp [execOp, go_sem, h52]
      ·intro a W hG hR hO hp; have h44 : slotOf a 44 = .bool false := hp.1; have h53 : slotOf a 53 = .bool false := hp.2.1; refine kY (v := .bool false) hG rfl ?_; simp [slotOf] at h44 h53; simp [execOp, go_sem, h44, h53]
      ·exact fun a W hG _ _ hp => kM 54 rfl hp.1 rfl hG
      ·intro a W hG hR hO hp; have h11 := hO.slot 11 (by kernel_rfl); refine kY (v := .pointer (some ⟨bb, 6, none⟩)) hG rfl ?_; simp [slotOf] at h11; simp [execOp, go_sem, h11]
      ·intro a W hG hR hO hp; have h56 : slotOf a 56 = .pointer (some ⟨bb, 6, none⟩) := hp.1; have c0 := keep_cell z6 hG; have c1 := keep_cell z7 hG; refine kY (v := rgV bd.wa) hG rfl ?_; simp [slotOf] at h56; simp [execOp, go_sem, h56, c0, c1]
      ·intro a W hG hR hO hp; have h5 := hO.slot 5 (by kernel_rfl); have c0 := keep_cell t0 hG; refine kY (v := .slice (some ⟨bt, ot, none⟩) tl.length tc) hG rfl ?_; simp [slotOf] at h5; simp [execOp, go_sem, h5, c0]
      ·exact fun a W hG _ hO _ => kM 10 rfl (hO.slot 10 (by kernel_rfl)) rfl hG
      ·intro a W hG hR hO hp; have h58 : slotOf a 58 = .slice (some ⟨bt, ot, none⟩) tl.length tc := hp.1; have h59 : slotOf a 59 = vi k := hp.2.1; refine kY (v := .pointer (some ⟨bt, ot + k * 3, none⟩)) hG rfl ?_; simp [slotOf] at h58 h59; simp [execOp, go_sem, h58, h59, hkt]
      ·intro a W hG hR hO hp; have h60 : slotOf a 60 = .pointer (some ⟨bt, ot + k * 3, none⟩) := hp.1; refine kY (v := .pointer (some ⟨bt, ot + k * 3 + 2, none⟩)) hG rfl ?_; simp [slotOf] at h60; simp [execOp, go_sem, h60]
      ·intro a W hG hR hO hp; have h61 : slotOf a 61 = .pointer (some ⟨bt, ot + k * 3 + 2, none⟩) := hp.1; have c0 := keep_cell r2 hG; refine kY (v := vi y.wa) hG rfl ?_; simp [slotOf] at h61; simp [execOp, go_sem, h61, c0]
      ·intro a W hG hR hO hp
       have h57 : slotOf a 57 = rgV bd.wa := hp.1
       have h62 : slotOf a 62 = vi y.wa := hp.2.1
       refine wp_enters (f := 75) (args := #[rgV bd.wa, vi y.wa]) ?_ ((HH3.out W).mono ?_)
       ·simp [slotOf] at h57 h62
        simp [go_sem, h57, h62]
       ·rintro e w' ⟨rfl, hb⟩
        exact ⟨_, rfl, _, rfl, rfl, hb, below_next hG hb⟩
      ·intro a W hG hR hO hp; have h63 : slotOf a 63 = .bool false := hp.1; refine kY (v := .bool true) hG rfl ?_; simp [slotOf] at h63; simp [execOp, go_sem, h63]
     ·intro wz hG hR
      rintro _ rfl _ rfl _ rfl _ rfl _ rfl _ rfl _ rfl _ rfl _ rfl _ rfl _ rfl _ rfl _ rfl _ rfl _ rfl _ rfl _ rfl _ rfl _ rfl _ rfl _ rfl _ rfl _ rfl _ rfl _ rfl _ rfl _ rfl _ rfl _ rfl _ rfl
      change wpList _ _ _ _ _ _
      simp only [Act.put, List.setIfInBounds_toArray, List.set_cons_zero, List.set_cons_succ, List.drop_succ_cons, List.drop_zero]
      have HN := Lib.hid (newer_trans HE5.out.1 hG)
      have HFF := Lib.hid (HFL.out (fun h => by have h1 := h k hlt; rw [HFK.out] at h1; cases h1))
      clear hG hR HE5 t0 r0 r1 r2 z0 z1 z2 z3 z4 z5 z6 z7
      go_wp2_with fail
      exact bodyPost_ret (v := .tuple #[vi 0, vi 9]) (by simp [results, Try.results42, go_sem]) rfl ⟨by rw [HFF.out], HN.out⟩
    | true =>
     refine wp_words (by kernel_rfl) (region_told_u 30 (by kernel_rfl) (by kernel_rfl) [false, false, false, false, false, false, false, false, false, false, false, false, false, false, false, false, false, false, false, false, false, false, false, false, false, false, false, false, false, false] (fun W => Below w5.heap.size w5 W) newer [vIs (.pointer (some ⟨bb, 2, none⟩)), vIs (rgV bd.fr), vIs (.slice (some ⟨bt, ot, none⟩) tl.length tc), vIs (vi k), vIs (.pointer (some ⟨bt, ot + k * 3, none⟩)), vIs (.pointer (some ⟨bt, ot + k * 3, none⟩)), vIs (vi y.fr), vIs (.bool true), vIs (.bool false), vIs (.bool false), vIs (.pointer (some ⟨bb, 4, none⟩)), vIs (rgV bd.co), vIs (.slice (some ⟨bt, ot, none⟩) tl.length tc), vIs (vi k), vIs (.pointer (some ⟨bt, ot + k * 3, none⟩)), vIs (.pointer (some ⟨bt, ot + k * 3 + 1, none⟩)), vIs (vi y.co), vIs (.bool true), vIs (.bool false), vIs (.bool false), vIs (.bool false), vIs (.pointer (some ⟨bb, 6, none⟩)), vIs (rgV bd.wa), vIs (.slice (some ⟨bt, ot, none⟩) tl.length tc), vIs (vi k), vIs (.pointer (some ⟨bt, ot + k * 3, none⟩)), vIs (.pointer (some ⟨bt, ot + k * 3 + 2, none⟩)), vIs (vi y.wa), vIs (.bool true), vIs (.bool false)] (by repeat' first | refine And.intro ?_ ?_ | exact trivial | exact rfl | (intro v W h; obtain rfl : v = _ := h; first | rfl | (simp; done) | (simp [undef]; done))) (by repeat' first | refine And.intro ?_ ?_ | exact trivial | exact (fun h => Bool.noConfusion (show false = true from h)) | exact (fun _ _ => rfl)) (fun h k => newer_trans h k) (pickD_stable _ (by repeat' first | refine And.intro ?_ ?_ | exact trivial | exact vIs_st)) (Below.refl _ w5).drew (Below.refl _ _) ?_ ?_)
     ·refine ⟨.inr ?_, .inr ?_, .inr ?_, .inr ?_, .inr ?_, .inr ?_, .inr ?_, .inr ?_, .inr ?_, .inr ?_, .inr ?_, .inr ?_, .inr ?_, .inr ?_, .inr ?_, .inr ?_, .inr ?_, .inr ?_, .inr ?_, .inr ?_, .inr ?_, .inr ?_, .inr ?_, .inr ?_, .inr ?_, .inr ?_, .inr ?_, .inr ?_, .inr ?_, .inr ?_, trivial⟩
      ·intro a W hG hR hO hp; have h11 := hO.slot 11 (by kernel_rfl); refine kY (v := .pointer (some ⟨bb, 2, none⟩)) hG rfl ?_; simp [slotOf] at h11; simp [execOp, go_sem, h11]
      ·intro a W hG hR hO hp; have h35 : slotOf a 35 = .pointer (some ⟨bb, 2, none⟩) := hp.1; have c0 := keep_cell z2 hG; have c1 := keep_cell z3 hG; refine kY (v := rgV bd.fr) hG rfl ?_; simp [slotOf] at h35; simp [execOp, go_sem, h35, c0, c1]
      ·intro a W hG hR hO hp; have h5 := hO.slot 5 (by kernel_rfl); have c0 := keep_cell t0 hG; refine kY (v := .slice (some ⟨bt, ot, none⟩) tl.length tc) hG rfl ?_; simp [slotOf] at h5; simp [execOp, go_sem, h5, c0]
      ·exact fun a W hG _ hO _ => kM 10 rfl (hO.slot 10 (by kernel_rfl)) rfl hG
      ·intro a W hG hR hO hp; have h37 : slotOf a 37 = .slice (some ⟨bt, ot, none⟩) tl.length tc := hp.1; have h38 : slotOf a 38 = vi k := hp.2.1; refine kY (v := .pointer (some ⟨bt, ot + k * 3, none⟩)) hG rfl ?_; simp [slotOf] at h37 h38; simp [execOp, go_sem, h37, h38, hkt]
      ·intro a W hG hR hO hp; have h39 : slotOf a 39 = .pointer (some ⟨bt, ot + k * 3, none⟩) := hp.1; refine kY (v := .pointer (some ⟨bt, ot + k * 3, none⟩)) hG rfl ?_; simp [slotOf] at h39; simp [execOp, go_sem, h39]
      ·intro a W hG hR hO hp; have h40 : slotOf a 40 = .pointer (some ⟨bt, ot + k * 3, none⟩) := hp.1; have c0 := keep_cell r0 hG; refine kY (v := vi y.fr) hG rfl ?_; simp [slotOf] at h40; simp [execOp, go_sem, h40, c0]
      ·intro a W hG hR hO hp
       have h36 : slotOf a 36 = rgV bd.fr := hp.1
       have h41 : slotOf a 41 = vi y.fr := hp.2.1
       refine wp_enters (f := 75) (args := #[rgV bd.fr, vi y.fr]) ?_ ((HH1.out W).mono ?_)
       ·simp [slotOf] at h36 h41
        simp [go_sem, h36, h41]
       ·rintro e w' ⟨rfl, hb⟩
        exact ⟨_, rfl, _, rfl, rfl, hb, below_next hG hb⟩
      ·intro a W hG hR hO hp; have h42 : slotOf a 42 = .bool true := hp.1; refine kY (v := .bool false) hG rfl ?_; simp [slotOf] at h42; simp [execOp, go_sem, h42]
      ·exact fun a W hG _ _ hp => kM 43 rfl hp.1 rfl hG
      ·intro a W hG hR hO hp; have h11 := hO.slot 11 (by kernel_rfl); refine kY (v := .pointer (some ⟨bb, 4, none⟩)) hG rfl ?_; simp [slotOf] at h11; simp [execOp, go_sem, h11]
      ·intro a W hG hR hO hp; have h45 : slotOf a 45 = .pointer (some ⟨bb, 4, none⟩) := hp.1; have c0 := keep_cell z4 hG; have c1 := keep_cell z5 hG; refine kY (v := rgV bd.co) hG rfl ?_; simp [slotOf] at h45; simp [execOp, go_sem, h45, c0, c1]
      ·intro a W hG hR hO hp; have h5 := hO.slot 5 (by kernel_rfl); have c0 := keep_cell t0 hG; refine kY (v := .slice (some ⟨bt, ot, none⟩) tl.length tc) hG rfl ?_; simp [slotOf] at h5; simp [execOp, go_sem, h5, c0]
      ·exact fun a W hG _ hO _ => kM 10 rfl (hO.slot 10 (by kernel_rfl)) rfl hG
      ·intro a W hG hR hO hp; have h47 : slotOf a 47 = .slice (some ⟨bt, ot, none⟩) tl.length tc := hp.1; have h48 : slotOf a 48 = vi k := hp.2.1; refine kY (v := .pointer (some ⟨bt, ot + k * 3, none⟩)) hG rfl ?_; simp [slotOf] at h47 h48; simp [execOp, go_sem, h47, h48, hkt]
      ·intro a W hG hR hO hp; have h49 : slotOf a 49 = .pointer (some ⟨bt, ot + k * 3, none⟩) := hp.1; refine kY (v := .pointer (some ⟨bt, ot + k * 3 + 1, none⟩)) hG rfl ?_; simp [slotOf] at h49; simp [execOp, go_sem, h49]
      ·intro a W hG hR hO hp; have h50 : slotOf a 50 = .pointer (some ⟨bt, ot + k * 3 + 1, none⟩) := hp.1; have c0 := keep_cell r1 hG; refine kY (v := vi y.co) hG rfl ?_; simp [slotOf] at h50; simp [execOp, go_sem, h50, c0]
      ·intro a W hG hR hO hp
       have h46 : slotOf a 46 = rgV bd.co := hp.1
       have h51 : slotOf a 51 = vi y.co := hp.2.1
       refine wp_enters (f := 75) (args := #[rgV bd.co, vi y.co]) ?_ ((HH2.out W).mono ?_)
       ·simp [slotOf] at h46 h51
        simp [go_sem, h46, h51]
       ·rintro e w' ⟨rfl, hb⟩
        exact ⟨_, rfl, _, rfl, rfl, hb, below_next hG hb⟩
      ·intro a W hG hR hO hp; have h52 : slotOf a 52 = .bool true := hp.1; refine kY (v := .bool false) hG rfl ?_; simp [slotOf] at h52; simp [execOp, go_sem, h52]
      ·intro a W hG hR hO hp; have h44 : slotOf a 44 = .bool false := hp.1; have h53 : slotOf a 53 = .bool false := hp.2.1; refine kY (v := .bool false) hG rfl ?_; simp [slotOf] at h44 h53; simp [execOp, go_sem, h44, h53]
      ·exact fun a W hG _ _ hp => kM 54 rfl hp.1 rfl hG
      ·intro a W hG hR hO hp; have h11 := hO.slot 11 (by kernel_rfl); refine kY (v := .pointer (some ⟨bb, 6, none⟩)) hG rfl ?_; simp [slotOf] at h11; simp [execOp, go_sem, h11]
      ·intro a W hG hR hO hp; have h56 : slotOf a 56 = .pointer (some ⟨bb, 6, none⟩) := hp.1; have c0 := keep_cell z6 hG; have c1 := keep_cell z7 hG; refine kY (v := rgV bd.wa) hG rfl ?_; simp [slotOf] at h56; simp [execOp, go_sem, h56, c0, c1]
      ·intro a W hG hR hO hp; have h5 := hO.slot 5 (by kernel_rfl); have c0 := keep_cell t0 hG; refine kY (v := .slice (some ⟨bt, ot, none⟩) tl.length tc) hG rfl ?_; simp [slotOf] at h5; simp [execOp, go_sem, h5, c0]
      ·exact fun a W hG _ hO _ => kM 10 rfl (hO.slot 10 (by kernel_rfl)) rfl hG
      ·intro a W hG hR hO hp; have h58 : slotOf a 58 = .slice (some ⟨bt, ot, none⟩) tl.length tc := hp.1; have h59 : slotOf a 59 = vi k := hp.2.1; refine kY (v := .pointer (some ⟨bt, ot + k * 3, none⟩)) hG rfl ?_; simp [slotOf] at h58 h59; simp [execOp, go_sem, h58, h59, hkt]
      ·intro a W hG hR hO hp; have h60 : slotOf a 60 = .pointer (some ⟨bt, ot + k * 3, none⟩) := hp.1; refine kY (v := .pointer (some ⟨bt, ot + k * 3 + 2, none⟩)) hG rfl ?_; simp [slotOf] at h60; simp [execOp, go_sem, h60]
      ·intro a W hG hR hO hp; have h61 : slotOf a 61 = .pointer (some ⟨bt, ot + k * 3 + 2, none⟩) := hp.1; have c0 := keep_cell r2 hG; refine kY (v := vi y.wa) hG rfl ?_; simp [slotOf] at h61; simp [execOp, go_sem, h61, c0]
      ·intro a W hG hR hO hp
       have h57 : slotOf a 57 = rgV bd.wa := hp.1
       have h62 : slotOf a 62 = vi y.wa := hp.2.1
       refine wp_enters (f := 75) (args := #[rgV bd.wa, vi y.wa]) ?_ ((HH3.out W).mono ?_)
       ·simp [slotOf] at h57 h62
        simp [go_sem, h57, h62]
       ·rintro e w' ⟨rfl, hb⟩
        exact ⟨_, rfl, _, rfl, rfl, hb, below_next hG hb⟩
      ·intro a W hG hR hO hp; have h63 : slotOf a 63 = .bool true := hp.1; refine kY (v := .bool false) hG rfl ?_; simp [slotOf] at h63; simp [execOp, go_sem, h63]
     ·intro wz hG hR
      rintro _ rfl _ rfl _ rfl _ rfl _ rfl _ rfl _ rfl _ rfl _ rfl _ rfl _ rfl _ rfl _ rfl _ rfl _ rfl _ rfl _ rfl _ rfl _ rfl _ rfl _ rfl _ rfl _ rfl _ rfl _ rfl _ rfl _ rfl _ rfl _ rfl _ rfl
      change wpList _ _ _ _ _ _
      simp only [Act.put, List.setIfInBounds_toArray, List.set_cons_zero, List.set_cons_succ, List.drop_succ_cons, List.drop_zero]
      have HN := Lib.hid (And.intro (newer_trans HE5.out.1 hG) (And.intro (HE5.out.2.1.below hG HE5.out.2.1.lt) ((HE5.out.2.2.below hG).more hG.size)))
      clear hG hR HE5 t0 r0 r1 r2 z0 z1 z2 z3 z4 z5 z6 z7
      go_wp2_with fail
      refine ⟨⟨k + 1, rfl, by omega, fun i h => ?_, HN.out.1, HN.out.2.1, HN.out.2.2⟩, ?_⟩
      ·by_cases hik : i = k
       ·rw [hik, HFK.out]; rfl
       ·exact HFI.out i (by omega)
      ·simp [intOf]
       omega
   ·obtain rfl : k = bs.length := by omega
    obtain ⟨D, hD⟩ : ∃ D, D = dK bs bs.length := ⟨_, rfl⟩
    obtain ⟨H, hH⟩ : ∃ H, H = hK bs (fun i => tl.getD i ⟨0, 0, 0⟩) bs.length := ⟨_, rfl⟩
    have HRV : Hid (R = if D < 1 then (0, 7) else (factorN H D, 0)) := Lib.hid (by rw [HRR.out, if_pos (fitsA_iff.2 ⟨HLN.out, HFI.out⟩), <- hD, <- hH])
    have HFA : Hid (Calls Try.prog 59 #[.slice A bs.length c, .func (.func 76) #[] #[.pointer (some ⟨w.heap.size + 1 + 1, 0, none⟩)]] wr fun e w' => e = .returned (facV H D) /\ newer wr w') := Lib.hid (by
     rw [hH, hD]
     refine factor_any bs A c 76 #[.pointer (some ⟨w.heap.size + 1 + 1, 0, none⟩)] (fun i => tl.getD i ⟨0, 0, 0⟩) wr (by omega) HJ.out.2.2 HBO.out (fun i hi => ?_) (fun args W => by simp [go_sem]) (fun i b W hb hW => ?_)
     ·obtain ⟨b, hb⟩ := get_of_lt (l := bs) (k := i) hi
      have hge : bs.getD i zeroBd = b := by simp [List.getD, hb]
      have h1 := HFI.out i hi
      rw [hge] at h1
      exact fit_rlB (HBO.out b (List.mem_of_getElem? hb)) h1
     ·obtain ⟨y, hy⟩ := get_of_lt (l := tl) (k := i) (by rw [HLN.out]; exact (List.getElem?_eq_some_iff.1 hb).1)
      have hgy : tl.getD i ⟨0, 0, 0⟩ = y := by simp [List.getD, hy]
      show Calls _ _ _ _ fun e w' => e = .returned (rlV (tl.getD i ⟨0, 0, 0⟩)) /\ newer W w'
      rw [hgy]
      exact truthAt_any tl TA tc _ i b y W (HJ.out.2.1.below hW HJ.out.2.1.lt) ((HOK.out.2.2.below (newer_trans HJ.out.1 hW)).more (newer_trans HJ.out.1 hW).size) hy)
    clear hD hH
    unfold facV at HFA
    by_cases hd1 : D < 1
    ·rw [if_pos hd1] at HFA HRV
     go_wp2_with fail
     refine (HFA.out).mono ?_
     rintro e w6 ⟨rfl, hb⟩
     have HE := Lib.hid (newer_trans HJ.out.1 hb)
     clear hb
     go_wp2_with fail
     exact bodyPost_ret (v := .tuple #[vi 0, vi 7]) (by simp [results, Try.results42, go_sem]) rfl ⟨by rw [HRV.out], HE.out⟩
    ·rw [if_neg hd1] at HFA HRV
     obtain ⟨fv, hfv⟩ : ∃ fv, fv = factorN H D := ⟨_, rfl⟩
     rw [<- hfv] at HFA HRV
     clear hfv
     go_wp2_with fail
     refine (HFA.out).mono ?_
     rintro e w6 ⟨rfl, hb⟩
     have HE := Lib.hid (newer_trans HJ.out.1 hb)
     clear hb
     go_wp2_with fail
     exact bodyPost_ret (v := .tuple #[vi fv, vi 0]) (by simp [results, Try.results42, go_sem]) rfl ⟨by rw [HRV.out], HE.out⟩
 ·rw [if_neg hz] at hR
  have hz2 : (a == 0) = false := by rw [beq_eq_false_iff_ne]; exact hz
  have hz3 : (a != 0) = true := by simp [hz]
  have HRR := Lib.hid hR
  clear HZ hR hz
  go_enter Try.func42, Try.ntmps42
  go_wp2_with fail
  refine (HCU.out).mono ?_
  rintro e w1 ⟨rfl, hb⟩
  have HE := Lib.hid (newer_trans H0.out.1 hb)
  clear H0 hb HCU x0 x1 u0 u1
  go_wp2_with fail
  exact bodyPost_ret (v := .tuple #[vi 0, vi a]) (by simp [results, Try.results42, go_sem]) rfl ⟨by rw [HRR.out], HE.out⟩
end

section
open Go.RowKit Go.Shelf Go.Deep
def wE (s : Sd) : Int := match worstS s with
 | none => 7
 | some _ => 0
def wV (s : Sd) : Int := match worstS s with
 | none => 0
 | some (_, v) => v
theorem worst_of {s : Sd} (q : Option ((Nat × List Nat) × Int)) (h : worstS s = q) : (q = none /\ wE s = 7 /\ wV s = 0) ∨ ∃ u v, q = some (u, v) /\ wE s = 0 /\ wV s = v := by
 unfold wE wV
 rw [h]
 cases q with
 | none => exact .inl ⟨rfl, rfl, rfl⟩
 | some q => exact .inr ⟨_, _, rfl, rfl, rfl⟩
theorem worst_wet {s : Sd} (m : Int) : worstS (wetS s m) = worstR (hAt false (wetS s m)) (dAt s) s.n s.cols.length s.K := by
 unfold worstS
 rw [wet_drive, wet_n]
 have e1 : (wetS s m).cols.length = s.cols.length := by simp [wetS]
 rw [e1]
 rfl
theorem low_w {s : Sd} (hs : SdOk s) {f : Int} (f0 : 0 <= f) (f1 : f <= 10000) (m : Nat) : (lowT (wetS s m) f (some false)).isSome = true ↔ wE (wetS s m) = 0 /\ wV (wetS s m) < f := by
 rw [lowW_is, low_worst (wet_hd hs m) f0 f1, <- worst_wet]
 rcases worst_of _ (rfl : worstS (wetS s m) = worstS (wetS s m)) with ⟨h1, h2, h3⟩ | ⟨u, v, h1, h2, h3⟩
 ·rw [h1, h2]
  constructor
  ·rintro ⟨u, v, h, _⟩
   cases h
  ·rintro ⟨h, _⟩
   cases h
 ·rw [h1, h2, h3]
  constructor
  ·rintro ⟨u', v', h, h4⟩
   simp only [Option.some.injEq, Prod.mk.injEq] at h
   exact ⟨rfl, by omega⟩
  ·rintro ⟨_, h⟩
   exact ⟨u, v, rfl, h⟩
theorem worst_low0 {s : Sd} (hs : SdOk s) {f : Int} (f0 : 0 <= f) (f1 : f <= 10000) : (lowT s f (some false)).isSome = true ↔ wE s = 0 /\ wV s < f := by
 have h := low_w hs f0 f1 0
 rw [show ((0 : Nat) : Int) = 0 from rfl, wet_zero hs] at h
 exact h
theorem row_nats {w : World} {B : Nat} {A : Option Addr} {c : Nat} {l : List Nat} {L : List Int} (hL : L = l.map fun x : Nat => (x : Int)) (h : w.ownsRow B 3 1 (.slice A l.length c) l.length (l.map fun x : Nat => vi x)) : L.length = l.length /\ Row intL 1 w w.heap.size A L := by
 have e2 : L.length = l.length := by rw [hL, List.length_map]
 have e1 : (l.map fun x : Nat => vi x) = L.flatMap intL := by rw [hL, <- map_intL, List.map_map]; rfl
 rw [e1, <- e2] at h
 exact ⟨e2, row_of_own (enc := intL) (size := 1) (by omega) (fun _ => rfl) h⟩
end

section
open Go.RowKit Go.Shelf Go.Deep
theorem low_cost {s : Sd} (hs : SdOk s) {f : Int} (f0 : 0 <= f) (f1 : f <= 10000) : (lowT s f (some false)).isSome = true ↔ LowB (cS s f) s.n s.cols.length s.K :=
 have ok := hd_ok hs false
 lowS_iff (fun k b _ => cF_bd ok f0 (by omega) k b) (by decide) ok.n0 ok.K0 (few_big ok)
theorem prove_low {s : Sd} {f : Int} {D : List (List (List Int))} (h : provO s f D = true) : SdOk s /\ 0 <= f /\ f <= 10000 /\ (lowT s f (some false)).isSome = false := by
 unfold provO at h
 simp only [Bool.and_eq_true, decide_eq_true_eq] at h
 obtain ⟨h1, h2, h3⟩ := h
 obtain ⟨hs, f0, f1⟩ := asked_zero h1
 refine ⟨hs, f0, f1, ?_⟩
 cases hl : (lowT s f (some false)).isSome with
 | false => rfl
 | true =>
  obtain ⟨k, l, h4, h5⟩ := (low_cost hs f0 f1).1 hl
  have h6 := table_low (provB_iff.1 h3) (hd_ok hs false).K0 h4
  omega
theorem prove_w {s : Sd} {f : Int} {D : List (List (List Int))} (h : provO s f D = true) (hw : wE s = 0) : f <= wV s := by
 obtain ⟨hs, f0, f1, h1⟩ := prove_low h
 by_cases hlt : f <= wV s
 ·exact hlt
 ·rw [(worst_low0 hs f0 f1).2 ⟨hw, by omega⟩] at h1
  cases h1
theorem behind_cong {big : Int} {n b : Nat} {row row' : Nat -> Int} (hb : b < n) (h : ∀ x, x < n -> row x = row' x) : behindN big n row b = behindN big n row' b := by
 unfold behindN
 congr 1
 exact List.map_congr_left fun x hx => h x ((mem_near hb).1 hx).1
theorem cell_cong {c : Nat -> Nat -> Int} {big : Int} {n cols K : Nat} {t t' : Nat -> Nat -> Nat -> Int} (h : ∀ r k b, r < K -> k < cols -> b < n -> t r k b = t' r k b) {r k b : Nat} (hr : r < K) (hk : k < cols) (hb : b < n) : cellT c big n K t r k b ↔ cellT c big n K t' r k b := by
 unfold cellT
 rw [h r k b hr hk hb]
 by_cases hk0 : 0 < k
 ·rw [behind_cong hb (fun x hx => h r (k - 1) x hr (by omega) hx)]
  by_cases hr0 : 0 < r
  ·rw [behind_cong hb (fun x hx => h (r - 1) (k - 1) x (by omega) (by omega) hx)]
  ·simp [hr0]
 ·simp [hk0]
theorem tab_at {s : Sd} {f : Int} {r k b : Nat} (hr : r < s.K) (hk : k < s.cols.length) (hb : b < s.n) : tN (tabD s f) r k b = tabT (cS s f) bigN farN s.n s.K r k b := by
 unfold tN tabD iAt
 simp only [List.getD_eq_getElem?_getD, List.getElem?_map, List.getElem?_range hr, List.getElem?_range hk, List.getElem?_range hb, Option.map_some, Option.getD_some]
theorem tab_prov {s : Sd} {f : Int} (h : enoughN s f = 0) : provO s f (tabD s f) = true := by
 obtain ⟨hs, f0, f1, hl⟩ := enough_zero h
 have ok := hd_ok hs false
 have hcb := cS_bd hs f0 (show f <= 10001 by omega)
 have hcl := hs.cols
 have hbig : ((s.cols.length + 1 : Nat) : Int) * 1300100000 + farN <= bigN := by
  show ((s.cols.length + 1 : Nat) : Int) * 1300100000 + 100000000000000 <= 1000000000000000
  omega
 have hfar : ((s.cols.length + 1 : Nat) : Int) * 1300100000 <= farN := by
  show ((s.cols.length + 1 : Nat) : Int) * 1300100000 <= 100000000000000
  omega
 have hbd : ∀ r k b, r < s.K -> k < s.cols.length -> b < s.n -> -bigN <= tabT (cS s f) bigN farN s.n s.K r k b /\ tabT (cS s f) bigN farN s.n s.K r k b <= bigN := fun r k b hr hk hb => by
  have hbig2 : ((k + 1 : Nat) : Int) * 1300100000 + farN <= bigN := by
   show ((k + 1 : Nat) : Int) * 1300100000 + 100000000000000 <= 1000000000000000
   omega
  exact real_bd hcb (by decide) (by decide) hbig2 (tabT_real hcb (by decide) (by decide) ok.K0 hbig r hr k hk b hb)
 have hpr := tabT_proves hcb (by decide) (by decide) ok.K0 hbig hfar fun k l hsf => by
  by_cases hneg : 0 <= costP (cS s f) k l
  ·exact hneg
  ·have h1 := (low_cost hs f0 f1).2 ⟨k, l, hsf, by omega⟩
   rw [hl] at h1
   cases h1
 unfold provO
 simp only [Bool.and_eq_true, decide_eq_true_eq]
 refine ⟨?_, ?_, ?_⟩
 ·unfold enoughN at h
  by_cases ha : askedN s f = 0
  ·exact ha
  ·rw [if_neg ha] at h
   exact h
 ·have hKi : (s.K : Int) = s.least := by have := hs.least; unfold Sd.K; omega
  unfold shT shR shL tabD
  simp only [Bool.and_eq_true, decide_eq_true_eq, List.all_eq_true, List.length_map, List.length_range, List.mem_map, List.mem_range]
  refine ⟨hKi, ?_⟩
  rintro x ⟨r, hr, rfl⟩
  refine ⟨by simp, ?_⟩
  rintro y hy
  obtain ⟨k, hk, rfl⟩ := List.mem_map.1 hy
  refine ⟨by simp, ?_⟩
  intro z hz
  obtain ⟨b, hb, rfl⟩ := List.mem_map.1 hz
  have h2 := hbd r k b hr (List.mem_range.1 hk) (List.mem_range.1 hb)
  simp only [inB, Bool.and_eq_true, decide_eq_true_eq]
  exact h2
 ·rw [provB_iff]
  intro r k b hr hk hb
  exact (cell_cong (fun r k b h1 h2 h3 => tab_at h1 h2 h3) hr hk hb).2 (hpr r k b hr hk hb)
end

end Go.Proofs.Ytkenokpobbichaa
