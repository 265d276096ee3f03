/- What the search for whole turns holds in memory. -/
import Derived.Test.YtpmafnifgegfbaaW
import Derived.Test.YtpmafnifgegfbaaJ
import Derived.Test.YtpmafnifgegfbaaQ
import Derived.Test.YtpmafnifgegfbaaO
namespace Go.Proofs.Ytpmafnifgegfbaa
open Go.RowKit Go.Shelf Go.Deep

open Go.ChangeMaps (setBlock)
abbrev ptV (b : Nat) : Value := .pointer (some ⟨b, 0, none⟩)
abbrev ptL (b : Nat) : List Value := [ptV b]
/-- A survey's rows lie below a block. -/
structure SmAt (y : Sm) (W : World) (B : Nat) : Prop where
  sp : Row spL 4 W B y.sa y.s.spots
  tl : Row tlL 7 W B y.ta y.s.tools
  rd : Row intL 1 W B y.ra y.s.reads
theorem SmAt.ok {y : Sm} {W : World} {B : Nat} (h : SmAt y W B) (hB : B ≤ W.heap.size) : SmOk y W := ⟨h.sp.more hB, h.tl.more hB, h.rd.more hB⟩
theorem SmOk.at {y : Sm} {W : World} (h : SmOk y W) : SmAt y W W.heap.size := ⟨h.sp, h.tl, h.rd⟩
theorem SmAt.same {y : Sm} {W W' : World} {B : Nat} (h : SmAt y W B) (hk : ∀ k, k < B → W'.heap[k]? = W.heap[k]?) : SmAt y W' B := ⟨h.sp.same hk, h.tl.same hk, h.rd.same hk⟩
/-- What the search's function closes over, and where it lies. -/
structure FP where
  y : Sm
  B : Nat
  sb : Nat
  tb : Nat
  q : Nat
  fb : Nat
  lb : Nat
  kb : Nat
  nb : Nat
  base : Nat
structure FpOk (T : FP) : Prop where
  hs : SdOk T.y.s
  o1 : T.B ≤ T.sb
  o2 : T.sb < T.lb
  o3 : T.lb < T.kb
  o4 : T.kb < T.fb
  o5 : T.fb < T.q
  o6 : T.q < T.tb
  o7 : T.tb < T.nb
  o8 : T.nb < T.base
abbrev fpC (T : FP) : Array Value := #[ptV T.sb, ptV T.tb, ptV T.fb, ptV T.lb, ptV T.kb, ptV T.nb]
abbrev own1 (A : Option Addr) (n c : Nat) : Option Nat := (Value.slice A n c).ownBlock
/-- What the search holds: S: all that was found (the first 60 are kept). -/
structure FdM (T : FP) (ks : List (Option Int)) (S : List (List (Option Int))) (xs : List Ln) (ls : List Nat) (A1 : Option Addr) (c1 : Nat) (A2 : Option Addr) (c2 : Nat) (W : World) : Prop where
  sb : Whole W T.sb 40 (smC T.y)
  sm : SmAt T.y W T.B
  tb : Whole W T.tb 24 #[.slice (some ⟨T.q, 0, none⟩) ks.length ks.length]
  q : Whole W T.q 3 (ks.flatMap koL).toArray
  fb : Whole W T.fb 4 #[.bool (decide (S.length ≤ 60))]
  lb : Whole W T.lb 33 #[.slice A1 xs.length c1]
  kb : Whole W T.kb 138 #[.slice A2 ls.length c2]
  nb : Whole W T.nb 193 #[.func (.func 131) #[] (fpC T)]
  r1 : W.ownsRow T.base 24 1 (.slice A1 xs.length c1) xs.length (xs.flatMap lnL)
  r2 : W.ownsRow T.base 120 1 (.slice A2 ls.length c2) ls.length (ls.map ptV)
  xl : xs.map (·.l) = (S.take 60).map (turL T.y.s.tools)
  xr : ∀ x ∈ xs, W.ownsRow T.base 3 1 (.slice x.a x.l.length x.c) x.l.length (x.l.map vi)
  ll : ls.length = (S.take 60).length
  lk : ∀ (i : Nat) (k : List (Option Int)) (l : Nat), (S.take 60)[i]? = some k → ls[i]? = some l → ∃ ms A c, LookOk T.y k T.base l ms A c W
  le : T.base ≤ W.heap.size
/-- What the search may turn. -/
structure MovF (T : FP) (g1 g2 : Option Nat) (w W : World) : Prop where
  os : W.os = w.os
  tape : W.tape = w.tape
  output : W.output = w.output
  size : w.heap.size ≤ W.heap.size
  block : ∀ k, k < w.heap.size → k ≠ T.q → k ≠ T.fb → k ≠ T.lb → k ≠ T.kb → some k ≠ g1 → some k ≠ g2 → W.heap[k]? = w.heap[k]?
/-- A row's block is the old one, or was made since. -/
def LinkO (g g' : Option Nat) (w : World) : Prop := ∀ q, g' = some q → g = some q ∨ w.heap.size ≤ q
section
variable {T : FP} {g1 g2 g1' g2' : Option Nat} {w W W' : World}
theorem LinkO.refl (g : Option Nat) (w : World) : LinkO g g w := fun _ h => .inl h
theorem LinkO.trans {g g' g'' : Option Nat} (h : LinkO g g' w) (k : LinkO g' g'' W) (hs : w.heap.size ≤ W.heap.size) : LinkO g g'' w := fun q hq => by
  rcases k q hq with h1 | h1
  · exact h q h1
  · exact .inr (Nat.le_trans hs h1)
theorem MovF.refl (T : FP) (g1 g2 : Option Nat) (w : World) : MovF T g1 g2 w w := ⟨rfl, rfl, rfl, Nat.le_refl _, fun _ _ _ _ _ _ _ _ => rfl⟩
theorem MovF.trans (h : MovF T g1 g2 w W) (l1 : LinkO g1 g1' w) (l2 : LinkO g2 g2' w) (k : MovF T g1' g2' W W') : MovF T g1 g2 w W' :=
  ⟨k.os.trans h.os, k.tape.trans h.tape, k.output.trans h.output, Nat.le_trans h.size k.size, fun i hi a1 a2 a3 a4 a5 a6 => (k.block i (Nat.lt_of_lt_of_le hi h.size) a1 a2 a3 a4 (fun e => by
    rcases l1 i e.symm with h1 | h1
    · exact a5 h1.symm
    · omega) (fun e => by
    rcases l2 i e.symm with h1 | h1
    · exact a6 h1.symm
    · omega)).trans (h.block i hi a1 a2 a3 a4 a5 a6)⟩
theorem MovF.ofNewer (T : FP) (g1 g2 : Option Nat) (h : newer w W) : MovF T g1 g2 w W := ⟨h.os, h.tape, h.output, h.size, fun i hi _ _ _ _ _ _ => h.block i hi⟩
theorem MovF.ofGrown {d : Nat} (h : w.grownBy W (some d)) (hd : d = T.q ∨ d = T.fb ∨ d = T.lb ∨ d = T.kb ∨ g1 = some d ∨ g2 = some d) : MovF T g1 g2 w W :=
  ⟨h.os, h.tape, h.output, h.size, fun i hi a1 a2 a3 a4 a5 a6 => h.block i hi (fun e => by
    injection e with e
    rcases hd with e1 | e1 | e1 | e1 | e1 | e1
    · exact a1 (e.trans e1)
    · exact a2 (e.trans e1)
    · exact a3 (e.trans e1)
    · exact a4 (e.trans e1)
    · exact a5 (by rw [e, e1])
    · exact a6 (by rw [e, e1]))⟩
theorem MovF.low (h : MovF T g1 g2 w W) (hT : FpOk T) {B : Nat} (hB : B ≤ T.lb) (h1 : ∀ q, g1 = some q → T.base ≤ q) (h2 : ∀ q, g2 = some q → T.base ≤ q) (hw : B ≤ w.heap.size) : Below B w W := by
  have o3 := hT.o3; have o4 := hT.o4; have o5 := hT.o5; have o6 := hT.o6; have o7 := hT.o7; have o8 := hT.o8
  exact ⟨h.os, h.tape, h.output, h.size, fun k hk => h.block k (by omega) (by omega) (by omega) (by omega) (by omega) (fun e => by have := h1 k e.symm; omega) (fun e => by have := h2 k e.symm; omega)⟩
variable {ks : List (Option Int)} {S : List (List (Option Int))} {xs : List Ln} {ls : List Nat} {A1 A2 : Option Addr} {c1 c2 : Nat}
theorem FdM.next (h : FdM T ks S xs ls A1 c1 A2 c2 W) (hT : FpOk T) (hb : newer W W') : FdM T ks S xs ls A1 c1 A2 c2 W' := by
  have hl := h.sb.lt
  have o1 := hT.o1
  refine ⟨h.sb.below hb h.sb.lt, h.sm.same (fun k hk => hb.block k (by omega)), h.tb.below hb h.tb.lt, h.q.below hb h.q.lt, h.fb.below hb h.fb.lt, h.lb.below hb h.lb.lt, h.kb.below hb h.kb.lt, h.nb.below hb h.nb.lt, own_below h.r1 hb, own_below h.r2 hb, h.xl, fun x hx => own_below (h.xr x hx) hb, h.ll, fun i k l h1 h2 => ?_, Nat.le_trans h.le hb.size⟩
  obtain ⟨ms, A, c, h3⟩ := h.lk i k l h1 h2
  exact ⟨ms, A, c, h3.next hb⟩
/-- A box of the search turns. -/
theorem FdM.keep1 (h : FdM T ks S xs ls A1 c1 A2 c2 W) {d : Nat} (hg : W.grownBy W' (some d)) (hd : d < T.base) :
    W'.ownsRow T.base 24 1 (.slice A1 xs.length c1) xs.length (xs.flatMap lnL) ∧ W'.ownsRow T.base 120 1 (.slice A2 ls.length c2) ls.length (ls.map ptV) ∧ (∀ x ∈ xs, W'.ownsRow T.base 3 1 (.slice x.a x.l.length x.c) x.l.length (x.l.map vi)) ∧
    (∀ (i : Nat) (k : List (Option Int)) (l : Nat), (S.take 60)[i]? = some k → ls[i]? = some l → ∃ ms A c, LookOk T.y k T.base l ms A c W') ∧ T.base ≤ W'.heap.size := by
  have ne : ∀ {v : Value} {e : TypeId} {n : Nat} {xs : List Value}, W.ownsRow T.base e 1 v n xs → v.ownBlock = none ∨ v.ownBlock ≠ some d := fun ho => .inr fun e => by have := own_ge ho d e; omega
  refine ⟨h.r1.kept hg (ne h.r1), h.r2.kept hg (ne h.r2), fun x hx => (h.xr x hx).kept hg (ne (h.xr x hx)), fun i k l h1 h2 => ?_, Nat.le_trans h.le hg.size⟩
  obtain ⟨ms, A, c, h3⟩ := h.lk i k l h1 h2
  exact ⟨ms, A, c, h3.kept fun k hk hbk _ => hg.block k hk (fun e => by injection e; omega)⟩
/-- A tool's turns are laid in. -/
theorem FdM.setQ (h : FdM T ks S xs ls A1 c1 A2 c2 W) (hT : FpOk T) (j : Nat) (o : Option Int) : FdM T (ks.set j o) S xs ls A1 c1 A2 c2 (W.setCell ⟨T.q, j, none⟩ (vi (koN o))) := by
  have hg : W.grownBy (W.setCell ⟨T.q, j, none⟩ (vi (koN o))) (some T.q) := grown_set (p := ⟨T.q, j, none⟩) (grown_refl W _) (.inl rfl) _
  have o1 := hT.o1; have o2 := hT.o2; have o3 := hT.o3; have o4 := hT.o4; have o5 := hT.o5; have o6 := hT.o6; have o7 := hT.o7; have o8 := hT.o8
  have ne : ∀ {x : Nat}, x ≠ T.q → some x ≠ some T.q := fun h e => h (by injection e)
  obtain ⟨k1, k2, k3, k4, k5⟩ := h.keep1 hg (by omega)
  refine ⟨h.sb.grown hg (ne (by omega)), h.sm.same (fun k hk => hg.block k (by have := h.sb.lt; omega) (ne (by omega))), by rw [List.length_set]; exact h.tb.grown hg (ne (by omega)), ?_, h.fb.grown hg (ne (by omega)), h.lb.grown hg (ne (by omega)), h.kb.grown hg (ne (by omega)), h.nb.grown hg (ne (by omega)), k1, k2, h.xl, k3, h.ll, k4, k5⟩
  have h1 := h.q.set j (vi (koN o))
  have e : (ks.flatMap koL).toArray.setIfInBounds j (vi (koN o)) = ((ks.set j o).flatMap koL).toArray := by
    rw [List.setIfInBounds_toArray]
    congr 1
    clear h h1 hg k1 k2 k3 k4 k5
    induction ks generalizing j with
    | nil => rfl
    | cons a ks ih =>
      cases j with
      | zero => rfl
      | succ j =>
        rw [List.set_cons_succ, List.flatMap_cons, List.flatMap_cons, ← ih j]
        rfl
  rw [e] at h1
  exact h1
/-- Too many are found: nothing more is said. -/
theorem FdM.over (h : FdM T ks S xs ls A1 c1 A2 c2 W) (hS : 60 < S.length) (Z : List (List (Option Int))) : FdM T ks (S ++ Z) xs ls A1 c1 A2 c2 W := by
  have e : (S ++ Z).take 60 = S.take 60 := List.take_append_of_le_length (by omega)
  have e2 : decide ((S ++ Z).length ≤ 60) = decide (S.length ≤ 60) := by
    rw [decide_eq_false (show ¬ S.length ≤ 60 by omega), decide_eq_false (show ¬ (S ++ Z).length ≤ 60 by rw [List.length_append]; omega)]
  exact ⟨h.sb, h.sm, h.tb, h.q, by rw [e2]; exact h.fb, h.lb, h.kb, h.nb, h.r1, h.r2, by rw [e]; exact h.xl, h.xr, by rw [e]; exact h.ll, by rw [e]; exact h.lk, h.le⟩
theorem FdM.len (h : FdM T ks S xs ls A1 c1 A2 c2 W) : xs.length = (S.take 60).length := by
  have := congrArg List.length h.xl
  rwa [List.length_map, List.length_map] at this
/-- The sixty-first is found. -/
theorem FdM.full (h : FdM T ks S xs ls A1 c1 A2 c2 W) (hT : FpOk T) (hS : S.length = 60) (z : List (Option Int)) : FdM T ks (S ++ [z]) xs ls A1 c1 A2 c2 (W.setCell ⟨T.fb, 0, none⟩ (.bool false)) := by
  have hg : W.grownBy (W.setCell ⟨T.fb, 0, none⟩ (.bool false)) (some T.fb) := grown_set (p := ⟨T.fb, 0, none⟩) (grown_refl W _) (.inl rfl) _
  have o1 := hT.o1; have o2 := hT.o2; have o3 := hT.o3; have o4 := hT.o4; have o5 := hT.o5; have o6 := hT.o6; have o7 := hT.o7; have o8 := hT.o8
  have ne : ∀ {x : Nat}, x ≠ T.fb → some x ≠ some T.fb := fun h e => h (by injection e)
  obtain ⟨k1, k2, k3, k4, k5⟩ := h.keep1 hg (by omega)
  have e : (S ++ [z]).take 60 = S.take 60 := List.take_append_of_le_length (by omega)
  have e2 : decide ((S ++ [z]).length ≤ 60) = false := decide_eq_false (by rw [List.length_append, List.length_singleton]; omega)
  exact ⟨h.sb.grown hg (ne (by omega)), h.sm.same (fun k hk => hg.block k (by have := h.sb.lt; omega) (ne (by omega))), h.tb.grown hg (ne (by omega)), h.q.grown hg (ne (by omega)), by rw [e2]; exact h.fb.set 0 _, h.lb.grown hg (ne (by omega)), h.kb.grown hg (ne (by omega)), h.nb.grown hg (ne (by omega)), k1, k2, by rw [e]; exact h.xl, k3, by rw [e]; exact h.ll, by rw [e]; exact k4, k5⟩
/-- A box of a caller's stays. -/
theorem MovF.whole (h : MovF T (own1 A1 xs.length c1) (own1 A2 ls.length c2) W W') (hm : FdM T ks S xs ls A1 c1 A2 c2 W) (hT : FpOk T) {b : Nat} {t : TypeId} {cs : Array Value} (hw : Whole W b t cs) (hb : T.base ≤ b) (h1 : (24 : Nat) ≠ t) (h2 : (120 : Nat) ≠ t) : Whole W' b t cs := by
  have o3 := hT.o3; have o4 := hT.o4; have o5 := hT.o5; have o6 := hT.o6; have o7 := hT.o7; have o8 := hT.o8
  exact hw.same (h.block b hw.lt (by omega) (by omega) (by omega) (by omega) (fun e => own_ne hm.r1 hw h1 e.symm) (fun e => own_ne hm.r2 hw h2 e.symm))
end
/-- Two rows of one's own turned. -/
structure Grown2 (w W : World) (g1 g2 : Option Nat) : Prop where
  os : W.os = w.os
  tape : W.tape = w.tape
  output : W.output = w.output
  size : w.heap.size ≤ W.heap.size
  block : ∀ k, k < w.heap.size → some k ≠ g1 → some k ≠ g2 → W.heap[k]? = w.heap[k]?
section
variable {T : FP} {g1 g2 : Option Nat} {w W W' we : World}
theorem Grown2.refl (w : World) (g1 g2 : Option Nat) : Grown2 w w g1 g2 := ⟨rfl, rfl, rfl, Nat.le_refl _, fun _ _ _ _ => rfl⟩
theorem Grown2.next (h : Grown2 w W g1 g2) (hb : newer W W') : Grown2 w W' g1 g2 := ⟨hb.os.trans h.os, hb.tape.trans h.tape, hb.output.trans h.output, Nat.le_trans h.size hb.size, fun k hk a b => (hb.block k (Nat.lt_of_lt_of_le hk h.size)).trans (h.block k hk a b)⟩
theorem Grown2.one (h : Grown2 w W g1 g2) (hg : W.grownBy W' g1) : Grown2 w W' g1 g2 := ⟨hg.os.trans h.os, hg.tape.trans h.tape, hg.output.trans h.output, Nat.le_trans h.size hg.size, fun k hk a b => (hg.block k (Nat.lt_of_lt_of_le hk h.size) a).trans (h.block k hk a b)⟩
theorem Grown2.two (h : Grown2 w W g1 g2) (hg : W.grownBy W' g2) : Grown2 w W' g1 g2 := ⟨hg.os.trans h.os, hg.tape.trans h.tape, hg.output.trans h.output, Nat.le_trans h.size hg.size, fun k hk a b => (hg.block k (Nat.lt_of_lt_of_le hk h.size) b).trans (h.block k hk a b)⟩
variable {ks : List (Option Int)} {S : List (List (Option Int))} {xs : List Ln} {ls : List Nat} {A1 A2 : Option Addr} {c1 c2 : Nat}
theorem ownT {w : World} {base : Nat} {e : TypeId} {size n : Nat} {v : Value} {ys : List Value} (h : w.ownsRow base e size v n ys) {k : Nat} (hk : v.ownBlock = some k) : ∃ cs, Whole w k e cs := by
  rcases h.2 with ⟨rfl, _⟩ | ⟨g, cap, cur, rfl, _, hg, _⟩
  · simp [Value.ownBlock] at hk
  · have e3 : g = k := by simpa [Value.ownBlock] using hk
    rw [← e3]
    exact ⟨cur, hg⟩
/-- One list more, and its look. -/
theorem FdM.add (h : FdM T ks S xs ls A1 c1 A2 c2 we) (hT : FpOk T) (hS : S.length < 60) {x : Ln} {l g1 g2 d1 d2 : Nat} (hx : x.l = turL T.y.s.tools ks) (hxo : W.ownsRow T.base 3 1 (.slice x.a x.l.length x.c) x.l.length (x.l.map vi)) (hlk : ∃ ms A c, LookOk T.y ks T.base l ms A c we)
    (hg : Grown2 we W (own1 A1 xs.length c1) (own1 A2 ls.length c2)) (r1 : W.ownsRow T.base 24 1 (.slice (some ⟨g1, 0, none⟩) (xs.length + 1) d1) (xs.length + 1) (xs.flatMap lnL ++ [lnV x])) (r2 : W.ownsRow T.base 120 1 (.slice (some ⟨g2, 0, none⟩) (ls.length + 1) d2) (ls.length + 1) (ls.map ptV ++ [ptV l])) :
    FdM T ks (S ++ [ks]) (xs ++ [x]) (ls ++ [l]) (some ⟨g1, 0, none⟩) d1 (some ⟨g2, 0, none⟩) d2 ((W.setCell ⟨T.lb, 0, none⟩ (.slice (some ⟨g1, 0, none⟩) (xs.length + 1) d1)).setCell ⟨T.kb, 0, none⟩ (.slice (some ⟨g2, 0, none⟩) (ls.length + 1) d2)) ∧
    MovF T (own1 A1 xs.length c1) (own1 A2 ls.length c2) we ((W.setCell ⟨T.lb, 0, none⟩ (.slice (some ⟨g1, 0, none⟩) (xs.length + 1) d1)).setCell ⟨T.kb, 0, none⟩ (.slice (some ⟨g2, 0, none⟩) (ls.length + 1) d2)) := by
  have o1 := hT.o1; have o2 := hT.o2; have o3 := hT.o3; have o4 := hT.o4; have o5 := hT.o5; have o6 := hT.o6; have o7 := hT.o7; have o8 := hT.o8
  have s1 : W.grownBy (W.setCell ⟨T.lb, 0, none⟩ (.slice (some ⟨g1, 0, none⟩) (xs.length + 1) d1)) (some T.lb) := grown_set (p := ⟨T.lb, 0, none⟩) (grown_refl W _) (.inl rfl) _
  have s2 := grown_set (g := T.kb) (p := ⟨T.kb, 0, none⟩) (grown_refl (W.setCell ⟨T.lb, 0, none⟩ (.slice (some ⟨g1, 0, none⟩) (xs.length + 1) d1)) (some T.kb)) (.inl rfl) (.slice (some ⟨g2, 0, none⟩) (ls.length + 1) d2)
  obtain ⟨W2, hW2⟩ : ∃ W2, W2 = (W.setCell ⟨T.lb, 0, none⟩ (.slice (some ⟨g1, 0, none⟩) (xs.length + 1) d1)).setCell ⟨T.kb, 0, none⟩ (.slice (some ⟨g2, 0, none⟩) (ls.length + 1) d2) := ⟨_, rfl⟩
  have hlb : Whole W2 T.lb 33 #[.slice (some ⟨g1, 0, none⟩) (xs.length + 1) d1] := by
    rw [hW2]
    have k1 : Whole W T.lb 33 #[.slice A1 xs.length c1] := h.lb.same (hg.block _ h.lb.lt (fun e => by have := own_ge h.r1 _ e.symm; omega) (fun e => by have := own_ge h.r2 _ e.symm; omega))
    exact (k1.set 0 (.slice (some ⟨g1, 0, none⟩) (xs.length + 1) d1)).far (by show T.lb ≠ T.kb; omega) _
  have hkb : Whole W2 T.kb 138 #[.slice (some ⟨g2, 0, none⟩) (ls.length + 1) d2] := by
    rw [hW2]
    have k1 : Whole W T.kb 138 #[.slice A2 ls.length c2] := h.kb.same (hg.block _ h.kb.lt (fun e => by have := own_ge h.r1 _ e.symm; omega) (fun e => by have := own_ge h.r2 _ e.symm; omega))
    exact (k1.far (p := ⟨T.lb, 0, none⟩) (by show T.kb ≠ T.lb; omega) _).set 0 _
  rw [← hW2] at s2 ⊢
  have hsz : W.heap.size ≤ W2.heap.size := Nat.le_trans s1.size s2.size
  have hk : ∀ k, k < we.heap.size → k ≠ T.lb → k ≠ T.kb → some k ≠ own1 A1 xs.length c1 → some k ≠ own1 A2 ls.length c2 → W2.heap[k]? = we.heap[k]? := fun k hk a1 a2 a3 a4 =>
    (s2.block k (Nat.lt_of_lt_of_le hk (Nat.le_trans hg.size s1.size)) (fun e => a2 (by injection e))).trans ((s1.block k (Nat.lt_of_lt_of_le hk hg.size) (fun e => a1 (by injection e))).trans (hg.block k hk a3 a4))
  have low : ∀ {k : Nat}, k < T.base → k ≠ T.lb → k ≠ T.kb → W2.heap[k]? = we.heap[k]? := fun hkb a1 a2 => hk _ (by have := h.le; omega) a1 a2 (fun e => by have := own_ge h.r1 _ e.symm; omega) (fun e => by have := own_ge h.r2 _ e.symm; omega)
  have hown : ∀ {e : TypeId} {v : Value} {n : Nat} {ys : List Value}, W.ownsRow T.base e 1 v n ys → W2.ownsRow T.base e 1 v n ys := fun ho => (ho.kept s1 (.inr (fun e => by have := own_ge ho _ e; omega))).kept s2 (.inr (fun e => by have := own_ge ho _ e; omega))
  have hlook : ∀ {k : List (Option Int)} {l : Nat}, (∃ ms A c, LookOk T.y k T.base l ms A c we) → ∃ ms A c, LookOk T.y k T.base l ms A c W2 := fun ⟨ms, A, c, h3⟩ => ⟨ms, A, c, h3.kept fun q hq hb ht => hk q hq (by omega) (by omega) (fun e => by
      obtain ⟨cs, hw⟩ := ownT h.r1 e.symm
      rcases ht _ _ hw with e2 | e2 <;> exact absurd e2 (by decide)) (fun e => by
      obtain ⟨cs, hw⟩ := ownT h.r2 e.symm
      rcases ht _ _ hw with e2 | e2 <;> exact absurd e2 (by decide))⟩
  have t1 : S.take 60 = S := List.take_of_length_le (by omega)
  have t2 : (S ++ [ks]).take 60 = S ++ [ks] := List.take_of_length_le (by rw [List.length_append, List.length_singleton]; omega)
  refine ⟨⟨h.sb.same (low (by omega) (by omega) (by omega)), h.sm.same (fun k hk => low (by omega) (by omega) (by omega)), h.tb.same (low (by omega) (by omega) (by omega)), h.q.same (low (by omega) (by omega) (by omega)), ?_, ?_, ?_, h.nb.same (low (by omega) (by omega) (by omega)), ?_, ?_, ?_, fun y hy => ?_, ?_, fun i k l2 h1 h2 => ?_, Nat.le_trans h.le (Nat.le_trans hg.size hsz)⟩, ⟨s2.os.trans (s1.os.trans hg.os), s2.tape.trans (s1.tape.trans hg.tape), s2.output.trans (s1.output.trans hg.output), Nat.le_trans hg.size hsz, fun k hk1 _ _ a3 a4 a5 a6 => hk k hk1 a3 a4 a5 a6⟩⟩
  · have h1 := h.fb
    rw [decide_eq_true (show S.length ≤ 60 by omega)] at h1
    rw [decide_eq_true (show (S ++ [ks]).length ≤ 60 by rw [List.length_append, List.length_singleton]; omega)]
    exact h1.same (low (by omega) (by omega) (by omega))
  · rw [List.length_append, List.length_singleton]
    exact hlb
  · rw [List.length_append, List.length_singleton]
    exact hkb
  · rw [List.length_append, List.length_singleton, List.flatMap_append]
    exact hown r1
  · rw [List.length_append, List.length_singleton, List.map_append]
    exact hown r2
  · rw [t2, List.map_append, List.map_append, h.xl, t1]
    simp [hx]
  · rcases List.mem_append.1 hy with hy | hy
    · have ho := h.xr y hy
      refine own_same ho (fun k hq => hk k (own_lt ho k hq) (by have := own_ge ho k hq; omega) (by have := own_ge ho k hq; omega) (fun e => own_own_ne ho h.r1 (by decide) k hq e.symm) (fun e => own_own_ne ho h.r2 (by decide) k hq e.symm))
    · rw [List.mem_singleton.1 hy]
      exact hown hxo
  · rw [t2, List.length_append, List.length_append, h.ll, t1]
    rfl
  · rw [t2] at h1
    by_cases hi : i < S.length
    · rw [List.getElem?_append_left hi] at h1
      rw [List.getElem?_append_left (by rw [h.ll, t1]; exact hi)] at h2
      exact hlook (h.lk i k l2 (by rw [t1]; exact h1) h2)
    · have hi2 := (List.getElem?_eq_some_iff.1 h1).1
      rw [List.length_append, List.length_singleton] at hi2
      obtain rfl : i = S.length := by omega
      rw [List.getElem?_append_right (Nat.le_refl _), Nat.sub_self, List.getElem?_cons_zero, Option.some.injEq] at h1
      have hls : ls.length = S.length := by rw [h.ll, t1]
      rw [List.getElem?_append_right (by omega), hls, Nat.sub_self, List.getElem?_cons_zero, Option.some.injEq] at h2
      rw [← h1, ← h2]
      exact hlook hlk
end

end Go.Proofs.Ytpmafnifgegfbaa
