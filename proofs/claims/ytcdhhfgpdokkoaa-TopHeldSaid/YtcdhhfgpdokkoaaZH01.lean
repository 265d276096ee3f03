/- What the last text of this chain needs: G. -/
import Derived.WalkKit
import Derived.WalkSpells
import Derived.WalkLawsBesides
import Derived.Lib.Hide
import Derived.Deep.QuietTactic
import Derived.BigQuiet
import Derived.Deep.RegionHeld3
import Derived.BigRegion
import Derived.Deep.DeepCutAuto
import Derived.StillTailTactics
import Derived.RangeFuncNested
import Derived.RangeFuncCalls
import Derived.RangeFuncLeaves
import Derived.OrdersHeld
import Derived.OrdersIn
import Derived.RangeFuncBound
import Derived.Shelf.Abstract
import Derived.Shelf.RegionOpen
import Derived.OwnWalkIn
import Derived.TacticsInMore
import Derived.LoopNIn
import Derived.LoopIn
import Derived.StillTail
import Derived.Laws.CopyOwn
import Derived.Outline
import Derived.Laws.EntriesVeiled
import Derived.Deep.AppendLies
import Derived.Laws.MakeOwn
import Derived.Laws.OwnMore
import Derived.ArgAppend
import Derived.ProofKit
import Derived.OpenShut
import Derived.ShutString
import Derived.ChangeOld
import Derived.Below
import Derived.Deep.Slices
import Derived.Laws.Cover3
import Derived.Deep.CutBlock
import Derived.Maps.Own
import Derived.Maps.OwnOps
import Derived.Maps.RangeRun
import Derived.Maps.RangeWalk
import Derived.Laws.Cells
import Derived.Laws.Tables
import Derived.Laws.Rows
import Derived.DeepKeys3
import Derived.Deep.DeepAppendRoom
import Derived.Great.BuildSlice
import Derived.WalkMore
import Derived.Test.YtcdhhfgpdokkoaaProg
import Derived.Test.YtcdhhfgpdokkoaaChecked
import Derived.Test.YtcdhhfgpdokkoaaRows
import Derived.Deep.OwnRows
namespace Go.Proofs.Ytcdhhfgpdokkoaa
section
section
open Go.RowKit
abbrev vi (n : Int) : Value := .int .i64 n
abbrev intL (n : Int) : List Value := [vi n]
def inB (n lo hi : Int) : Bool := decide (lo <= n) && decide (n <= hi)
def Row {α : Type} (enc : α -> List Value) (s : Nat) (w : World) (B : Nat) (A : Option Addr) (l : List α) : Prop :=
 l ≠ [] -> ∃ b off, A = some ⟨b, off, none⟩ /\ b < B /\ ∀ (k : Nat) (x : α), l[k]? = some x -> ∀ (j : Nat) (v : Value), (enc x)[j]? = some v -> w.cell? ⟨b, off + k * s + j, none⟩ = some v
section
variable {α : Type} {enc : α -> List Value} {s B B' : Nat} {w w' : World} {A : Option Addr} {l : List α}
theorem Row.keep (h : Row enc s w B A l) (hk : ∀ p : Addr, p.block < B -> w'.cell? p = w.cell? p) : Row enc s w' B A l := fun hl => by
 obtain ⟨b, off, e, hb, hc⟩ := h hl
 exact ⟨b, off, e, hb, fun k x hx j v hv => (hk _ hb).trans (hc k x hx j v hv)⟩
theorem Row.below (h : Row enc s w B A l) (hb : Below B w w') : Row enc s w' B A l := h.keep fun _ hp => hb.cell hp
theorem Row.more (h : Row enc s w B A l) (hB : B <= B') : Row enc s w B' A l := fun hl => by
 obtain ⟨b, off, e, hb, hc⟩ := h hl
 exact ⟨b, off, e, by omega, hc⟩
theorem Row.nil (A : Option Addr) : Row enc s w B A [] := fun h => absurd rfl h
theorem ne_nil_of_get {k : Nat} {x : α} (h : l[k]? = some x) : l ≠ [] := by rintro rfl; simp at h
theorem get_of_lt {k : Nat} (h : k < l.length) : ∃ x, l[k]? = some x := ⟨l[k], List.getElem?_eq_getElem h⟩
end
theorem row1 {w : World} {B : Nat} {A : Option Addr} {l : List Int} (h : Row intL 1 w B A l) {k : Nat} {c : Int} (hk : l[k]? = some c) :
  ∃ b off, A = some ⟨b, off, none⟩ /\ b < B /\ w.cell? ⟨b, off + k, none⟩ = some (.int .i64 c) := by
 obtain ⟨b, off, e, hb, hc⟩ := h (ne_nil_of_get hk)
 exact ⟨b, off, e, hb, by simpa using hc k c hk 0 _ rfl⟩
theorem below_step {B : Nat} {a b c : World} (h : Below B a b) (k : Below b.heap.size b c) (hB : B <= b.heap.size) : Below B a c := h.trans (k.mono hB)
theorem below_next {a b c : World} (h : Below a.heap.size a b) (k : Below b.heap.size b c) : Below a.heap.size a c := h.trans (k.mono h.size)
theorem ret_int {k : IntKind} {a b : Int} (h : a = b) : Ending.returned (.int k a) = .returned (.int k b) := by rw [h]
theorem ret_bool {a b : Bool} (h : a = b) : Ending.returned (.bool a) = .returned (.bool b) := by rw [h]
theorem cell_alloc {w : World} {p : Addr} {v : Value} (h : w.cell? p = some v) (o : Obj) : (w.alloc o).cell? p = some v :=
 (World.cell?_alloc_lt _ _ _ (World.block_lt_of_cell? w _ h)).trans h
end
section
open Go.RowKit
def idx {α : Type} (p : α -> Bool) (l : List α) : Int :=
 match l.findIdx? p with
 | some i => (i : Int)
 | none => -1
theorem idx_here {α : Type} (p : α -> Bool) (l : List α) (k : Nat) (c : α) (hk : l[k]? = some c) (hc : p c = true) (hb : ∀ j x, j < k -> l[j]? = some x -> p x = false) : idx p l = (k : Int) := by
 have hlt : k < l.length := (List.getElem?_eq_some_iff.1 hk).1
 have : l.findIdx? p = some k := by
  rw [List.findIdx?_eq_some_iff_getElem]
  refine ⟨hlt, ?_, fun j hj => ?_⟩
  ·rw [(List.getElem?_eq_some_iff.1 hk).2]; exact hc
  ·rw [hb j _ hj (List.getElem?_eq_getElem (by omega))]; simp
 unfold idx
 rw [this]
theorem idx_none {α : Type} (p : α -> Bool) (l : List α) (hb : ∀ j x, j < l.length -> l[j]? = some x -> p x = false) : idx p l = -1 := by
 have : l.findIdx? p = none := by
  rw [List.findIdx?_eq_none_iff]
  intro x hx
  obtain ⟨j, hj, rfl⟩ := List.mem_iff_getElem.1 hx
  exact hb j _ hj (List.getElem?_eq_getElem hj)
 unfold idx
 rw [this]
theorem idx_all {α : Type} (p : α -> Bool) (l : List α) : (!decide (0 <= idx (fun c => !p c) l)) = l.all p := by
 unfold idx
 cases h : l.findIdx? (fun c => !p c) with
 | none =>
  rw [List.findIdx?_eq_none_iff] at h
  have : l.all p = true := List.all_eq_true.2 fun x hx => by simpa using h x hx
  rw [this]; rfl
 | some i =>
  have h2 : l.all p = false := by
   rw [List.findIdx?_eq_some_iff_getElem] at h
   obtain ⟨hi, hp, _⟩ := h
   rw [List.all_eq_false]
   exact ⟨l[i], List.getElem_mem hi, by simpa using hp⟩
  rw [h2]
  simp
def early {α : Type} (p : α -> Bool) (l : List α) (k : Nat) : Prop := ∀ j x, j < k -> l[j]? = some x -> p x = false
theorem early_zero {α : Type} (p : α -> Bool) (l : List α) : early p l 0 := fun _ _ h => by omega
theorem early_succ {α : Type} {p : α -> Bool} {l : List α} {k : Nat} {c : α} (h : early p l k) (hk : l[k]? = some c) (hc : p c = false) : early p l (k + 1) := fun j x hj hx => by
 rcases Nat.lt_or_ge j k with h1 | h1
 ·exact h j x h1 hx
 ·have : j = k := by omega
  subst this
  rw [hk] at hx; cases hx; exact hc
end
section
open Go.RowKit
end
section
open Go.RowKit
def Whole (w : World) (g : Nat) (t : TypeId) (cs : Array Value) : Prop := w.heap[g]? = some (.cells cs t (0, 0))
section
variable {w w' : World} {g : Nat} {t : TypeId} {cs : Array Value}
theorem Whole.lt (h : Whole w g t cs) : g < w.heap.size := (Array.getElem?_eq_some_iff.1 h).1
theorem Whole.at (h : Whole w g t cs) (i : Nat) {v : Value} (hv : cs[i]? = some v) : w.cell? ⟨g, i, none⟩ = some v := by
 unfold Whole at h
 simp [World.cell?, h, hv]
theorem Whole.free (h : Whole w g t cs) (i : Nat) : w.frozen? ⟨g, i, none⟩ = false := by
 unfold Whole at h
 simp [World.frozen?, h]
theorem Whole.made (w : World) (t : TypeId) (cs : Array Value) : Whole (w.alloc (.cells cs t)) w.heap.size t cs := by
 show (w.heap.push _)[w.heap.size]? = _
 simp
theorem Whole.same (h : Whole w g t cs) (hs : w'.heap[g]? = w.heap[g]?) : Whole w' g t cs := hs.trans h
theorem Whole.alloc (h : Whole w g t cs) (o : Obj) : Whole (w.alloc o) g t cs := h.same (Below.heap_alloc w o g h.lt)
theorem Whole.set (h : Whole w g t cs) (i : Nat) (u : Value) : Whole (w.setCell ⟨g, i, none⟩ u) g t (cs.setIfInBounds i u) := by
 unfold Whole at h ⊢
 simp [World.setCell, Array.getElem?_modify, h]
theorem Whole.far (h : Whole w g t cs) {p : Addr} (hp : g ≠ p.block) (u : Value) : Whole (w.setCell p u) g t cs := h.same (Below.heap_setCell w p u g hp)
theorem Whole.below {B : Nat} (h : Whole w g t cs) (hb : Below B w w') (hg : g < B) : Whole w' g t cs := h.same (hb.block g hg)
theorem Whole.grown {row : Option Nat} (h : Whole w g t cs) (hb : w.grownBy w' row) (hg : some g ≠ row) : Whole w' g t cs := h.same (hb.block g h.lt hg)
end
theorem grown_refl (w : World) (row : Option Nat) : w.grownBy w row := ⟨rfl, rfl, rfl, Nat.le_refl _, fun _ _ _ => rfl⟩
theorem grown_alloc {a w : World} {row : Option Nat} (h : a.grownBy w row) (o : Obj) : a.grownBy (w.alloc o) row :=
 ⟨h.os, h.tape, h.output, Nat.le_trans h.size (by simp), fun i hi hne => (Below.heap_alloc w o i (Nat.lt_of_lt_of_le hi h.size)).trans (h.block i hi hne)⟩
theorem grown_set {a w : World} {g : Nat} (h : a.grownBy w (some g)) {p : Addr} (hp : p.block = g ∨ a.heap.size <= p.block) (u : Value) : a.grownBy (w.setCell p u) (some g) :=
 ⟨h.os, h.tape, h.output, by simpa [World.setCell] using h.size, fun i hi hne => (Below.heap_setCell w p u i (by
  rintro rfl
  rcases hp with hp | hp
  ·exact hne (by rw [hp])
  ·omega)).trans (h.block i hi hne)⟩
theorem grown_below {a w w' : World} {row : Option Nat} (h : a.grownBy w row) (hb : Below w.heap.size w w') : a.grownBy w' row :=
 ⟨hb.os.trans h.os, hb.tape.trans h.tape, hb.output.trans h.output, Nat.le_trans h.size hb.size, fun i hi hne => (hb.block i (Nat.lt_of_lt_of_le hi h.size)).trans (h.block i hi hne)⟩
theorem grown_trans {a b c : World} {g : Nat} (h : a.grownBy b (some g)) (k : b.grownBy c (some g)) : a.grownBy c (some g) :=
 ⟨k.os.trans h.os, k.tape.trans h.tape, k.output.trans h.output, Nat.le_trans h.size k.size, fun i hi hne => (k.block i (Nat.lt_of_lt_of_le hi h.size) hne).trans (h.block i hi hne)⟩
theorem below_of_grown {B : Nat} {a w : World} {g : Nat} (h : a.grownBy w (some g)) (hg : B <= g) (hB : B <= a.heap.size) : Below B a w :=
 ⟨h.os, h.tape, h.output, h.size, fun k hk => h.block k (by omega) (fun e => by injection e; omega)⟩
end
section
open Go.RowKit
end
section
open Go.RowKit
variable {P : Program}
def busyOf (r : Loop) : Loop := { r with state := .busy }
def doneOf (r : Loop) (c : Code) : Loop := { r with state := .done, pending := some c }
def overOf (r : Loop) : Loop := { r with state := .exhausted }
def roundEnd (l : Nat) (r : Loop) (R : Ending -> World -> Prop) : Exit -> Act -> World -> Prop
 | .normal, _, W => W.heap[l]? = some (.loop (busyOf r)) /\ R (.returned (.bool true)) (W.putObj l (.loop r))
 | .ret, _, W => W.heap[l]? = some (.loop (busyOf r)) /\ R (.returned (.bool false)) (W.putObj l (.loop (doneOf r .ret)))
 | .exit id, _, W => W.heap[l]? = some (.loop (busyOf r)) /\ R (.returned (.bool false)) (W.putObj l (.loop (doneOf r (.exit id))))
 | _, _, _ => False
theorem yield_round {m l : Nat} {r : Loop} {args : Array Value} {W : World} {R : Ending -> World -> Prop} (hl : W.heap[l]? = some (.loop r)) (hr : r.state = .ready) (hp : r.pending = none) (hps : args.size = r.params.size)
  (h : r.assign.wpIn (Fence.wide.inRound l) m P (Exit.then (fun a₁ W₁ => W₁.heap[l]? = some (.loop r) /\ r.body.wpIn (Fence.wide.inRound l) m P (roundEnd l r R) a₁ (W₁.putObj l (.loop (busyOf r)))) (fun _ _ _ => False))
   { tmps := (r.params.zip args).foldl (fun tmps (t, a) => tmps.setIfInBounds t a) r.tmps, defers := [] } W) :
  YieldAt Fence.wide m P l args W R := by
 refine ⟨r.fn, _, r.assign, r.body, run_yield (P := P) hl hps, roundIn_of_wpIn trivial (wpIn_mono h ?_)⟩
 intro e a₁ W₁ hq
 cases e with
 | normal =>
  obtain ⟨hl1, hb⟩ := hq
  refine ⟨_, run_beginRound hl1 hr, wpIn_mono hb ?_⟩
  intro e2 a2 W2 hq2
  cases e2 with
  | normal =>
   obtain ⟨h2, hR⟩ := hq2
   refine ⟨_, _, run_endRound (P := P) none h2, ?_⟩
   have e : ({ r with state := LoopState.ready, pending := none } : Loop) = r := by cases r; simp_all
   simpa [busyOf, e] using hR
  | ret =>
   obtain ⟨h2, hR⟩ := hq2
   exact ⟨_, _, run_endRound (P := P) (some .ret) h2, by simpa [busyOf, doneOf] using hR⟩
  | exit id =>
   obtain ⟨h2, hR⟩ := hq2
   exact ⟨_, _, run_endRound (P := P) (some (.exit id)) h2, by simpa [busyOf, doneOf] using hR⟩
  | goto t => exact hq2.elim
  | panic c => exact hq2.elim
  | outgrown => exact hq2.elim
 | ret => exact hq.elim
 | exit id => exact hq.elim
 | goto t => exact hq.elim
 | panic c => exact hq.elim
 | outgrown => exact hq.elim
def rangeEnd (n : Nat) (P : Program) (D : Nat) (r : Loop) (Q : Exit -> Act -> World -> Prop) (a : Act) (e : Ending) (W : World) : Prop :=
 (∃ v, e = .returned v) /\
  ((W.heap[D + 1]? = some (.loop r) /\ Q .normal { a with defers := { target := .collected D, args := #[] } :: a.defers } (W.putObj (D + 1) (.loop (overOf r)))) ∨
   (∃ c, W.heap[D + 1]? = some (.loop (doneOf r c)) /\ c.wpIn Fence.wide n P Q { a with defers := { target := .collected D, args := #[] } :: a.defers } (W.putObj (D + 1) (.loop (overOf (doneOf r c))))))
theorem range_law {n : Nat} {g : Operand} {ps : Array Tmp} {assign body : Code} {Q : Exit -> Act -> World -> Prop} {a : Act} {w : World} {gf : Nat} {lb : Array Value}
  (hg : a.eval g = .func (.func gf) #[] lb) (eg : ∀ args w, (callFunc gf args).run P w = .ok (.enter gf args) w)
  (h : ∀ r : Loop, r.state = .ready -> r.pending = none -> r.tmps = a.tmps -> r.params = ps -> r.assign = assign -> r.body = body ->
   Calls P gf (#[.func (.yield (w.heap.size + 1)) #[] #[]] ++ lb) ((w.alloc (.deferred (some []))).alloc (.loop r)) (rangeEnd n P w.heap.size r Q a)) :
  (Code.rangeFunc g ps assign body).wpIn Fence.wide n P Q a w := by
 refine wpIn_rangeFunc ?_
 intro fn hfn
 obtain ⟨W1, hW1⟩ : ∃ W1, W1 = (w.alloc (.deferred (some []))).alloc (.loop { state := .ready, pending := none, fn, tmps := a.tmps, params := ps, assign, body, defers := w.heap.size }) := ⟨_, rfl⟩
 refine ⟨w.heap.size + 1, [{ target := .collected w.heap.size, args := #[] }], W1, { target := .fn (.func gf) lb, args := #[.func (.yield (w.heap.size + 1)) #[] #[]] }, W1, gf,
  #[.func (.yield (w.heap.size + 1)) #[] #[]] ++ lb, W1, hW1 ▸ run_enterLoop_outer _ _ _ _ _, ?_, ?_, ?_, fun h => by simp [Fence.wide] at h, ?_⟩
 ·simp only [resolve, hg]
  simp [go_sem]
 ·intro f' _; trivial
 ·simp [invoke, go_sem, eg]
 ·rw [hW1]
  refine callsIn_wide.2 ((h _ rfl rfl rfl rfl rfl rfl).mono ?_)
  rintro e W ⟨⟨v, rfl⟩, ⟨hl, hq⟩ | ⟨c, hl, hq⟩⟩
  ·exact ⟨none, _, run_endLoop (P := P) hl (by simp), hq⟩
  ·exact ⟨some c, _, run_endLoop (P := P) hl (by simp [doneOf]), hq⟩
def Oper.noDefer (o : Oper) : Bool := match o.op with
 | .defer _ => false
 | _ => true
theorem semAt_noDefer {o : Oper} (h : Oper.noDefer o = true) (x : Option Nat) (ρ : Operand -> Value) : o.semAt x ρ = execOp ρ o := by
 unfold Oper.noDefer at h
 cases x with
 | none => rfl
 | some l =>
  unfold Oper.semAt
  cases ho : o.op <;> simp_all
def onlyN (Q : Act -> World -> Prop) : Exit -> Act -> World -> Prop
 | .normal, a, w => Q a w
 | _, _, _ => False
theorem onlyN_not (Q : Act -> World -> Prop) : ¬ LetsOut (onlyN Q) := fun ⟨_, _, h⟩ => h
theorem wpIn_of_wp {o : Oper} {l n : Nat} {a : Act} {w : World} {Q' : Act -> World -> Prop} {Q : Exit -> Act -> World -> Prop} {K : Act -> World -> Prop} (hd : Oper.noDefer o = true) (h : o.wp P a w K (onlyN Q')) :
  o.wpIn (Fence.wide.inRound l) n P a w K Q := by
 refine ⟨fun _ _ => trivial, ?_⟩
 rw [semAt_noDefer hd]
 unfold Oper.wp at h
 generalize (execOp a.eval o).run P w = r at *
 cases r with
 | ok x w' =>
  cases x <;> simp only [Oper.upon, Oper.uponIn] at h ⊢ <;>
   first
    | exact h
    | exact h.elim
    | exact ⟨fun hh => (by simp [Fence.inRound, Fence.wide] at hh), CallsIn.inRound l (callsIn_wide.2 (h.mono (fun e w'' he => by cases e <;> first | exact he | exact he.elim | exact (onlyN_not _ he).elim)))⟩
    | exact ⟨fun hh => (by simp [Fence.inRound, Fence.wide] at hh), fun c cs _ => let ⟨v, w3, hr, hs⟩ := h c cs; ⟨v, w3, hr, stepsIn_wide.2 hs⟩⟩
 | halt x w' =>
  cases x <;> simp only [Oper.upon, Oper.uponIn] at h ⊢ <;> exact h.elim
theorem wpAnyIn_of_any {l n : Nat} {md : Region.Mode} {ops : Array Oper} {Q' : Act -> World -> Prop} {Q : Exit -> Act -> World -> Prop} (hQ : ∀ a w, Q' a w -> Q .normal a w) (hd : ops.all Oper.noDefer = true) :
  ∀ (fuel : Nat) (listed : Array Bool) (a : Act) (w : World), wpAny P md ops (onlyN Q') fuel listed a w -> wpAnyIn (Fence.wide.inRound l) n P md ops Q fuel listed a w
 | 0, _, a, w, h => ⟨h.1, hQ _ _ h.2⟩
 | fuel + 1, listed, a, w, h => by
  refine ⟨fun hr => hQ _ _ (h.1 hr), fun i hi => ?_⟩
  have h2 := h.2 i hi
  unfold wpOp at h2
  unfold wpOpIn
  cases ho : ops[i]? with
  | none => simp only [ho] at h2 ⊢; exact wpAnyIn_of_any hQ hd fuel _ _ _ h2
  | some o =>
   simp only [ho] at h2 ⊢
   have hod : Oper.noDefer o = true := by
    rw [Array.all_eq_true_iff_forall_mem] at hd
    exact hd o (Array.mem_of_getElem? ho)
   split
   ·rename_i hw
    rw [if_pos hw] at h2
    rcases h2 with h2 | ⟨_, h2⟩
    ·exact Oper.wpIn_mono (fun a w hk => wpAnyIn_of_any hQ hd fuel _ _ _ hk) (wpIn_of_wp hod h2)
    ·exact (onlyN_not _ h2).elim
   ·rename_i hw
    rw [if_neg hw] at h2
    exact ⟨fun _ _ => trivial, wpAnyIn_of_any hQ hd fuel _ _ _ h2⟩
end
section
def iAt (l : List Int) (k : Nat) : Int := l[k]?.getD 0
theorem iAt_of {l : List Int} {k : Nat} {d : Int} (h : l[k]? = some d) : iAt l k = d := by simp [iAt, h]
end
section
open Go.RowKit
variable {P : Program}
def headDone (n size : Nat) : Array Bool := Array.ofFn (n := size) fun i => decide (i.val < n)
def relB (l : List Oper) (n : Nat) : Bool :=
 decide (n < l.length) && Region.sinkB .any l.toArray n && Region.chainB .any l.toArray n &&
 ((List.range l.length).all fun i => match l[i]? with
  | some o => o.after.all (fun e => !Region.binds .any e || decide (e.on < i)) && o.guard.isNone
  | none => true) &&
 ((List.range n).all fun i => (List.range n).all fun j => decide (i = j) || match l[i]?, l[j]? with
  | some o, some o' => o.dst.isNone || (o.dst != o'.dst)
  | _, _ => true) &&
 Region.seqB .any l.toArray (l.length - n) n (headDone n l.length)
def slotOf (a : Act) (t : Nat) : Value := a.tmps[t]?.getD undef
structure Outer (l : List Oper) (n : Nat) (a₀ a : Act) : Prop where
 defers : a.defers = a₀.defers
 size : a.tmps.size = a₀.tmps.size
 same : ∀ t, (∀ i o, i < n -> l[i]? = some o -> o.dst ≠ some t) -> a.tmps[t]? = a₀.tmps[t]?
theorem slot_put_same {a : Act} {d : Nat} {v : Value} (h : d < a.tmps.size) : slotOf (a.put (some d) v) d = v := by
 simp [slotOf, Act.put, h]
theorem slot_put_other {a : Act} {d t : Nat} {v : Value} (h : t ≠ d) : slotOf (a.put (some d) v) t = slotOf a t := by
 simp [slotOf, Act.put, Array.getElem?_setIfInBounds_ne (Ne.symm h)]
theorem filter_ne_length (i : Nat) : ∀ l : List Nat, l.Nodup -> i ∈ l -> (l.filter (fun j => decide (j ≠ i))).length + 1 = l.length
 | [], _, h => by cases h
 | x :: l, hn, h => by
  rw [List.nodup_cons] at hn
  by_cases hx : x = i
  ·subst hx
   have : l.filter (fun j => decide (j ≠ x)) = l := List.filter_eq_self.2 (fun j hj => by
    have : j ≠ x := fun e => hn.1 (e ▸ hj)
    simp [this])
   simp only [ne_eq, not_true_eq_false, decide_false, Bool.false_eq_true, not_false_eq_true, List.filter_cons_of_neg, List.length_cons]
   have e2 : (l.filter (fun j => decide (¬ j = x))) = l := this
   rw [e2]
  ·have hm : i ∈ l := by
    rcases List.mem_cons.1 h with h | h
    ·exact absurd h.symm hx
    ·exact h
   have := filter_ne_length i l hn.2 hm
   rw [List.filter_cons_of_pos (by simp [hx])]
   simp only [List.length_cons]
   omega
theorem region_rel_any {l : List Oper} {n : Nat} {Q : Exit -> Act -> World -> Prop} {a₀ : Act} {w : World} (hB : relB l n = true)
  (G : Array Bool -> World -> Prop) (Rl : Nat -> World -> World -> Prop) (D : Nat -> Value -> World -> Prop)
  (hDs : ∀ i j v W W', i < n -> j ≠ i -> D j v W -> Rl i W W' -> D j v W')
  (hsz : ∀ i o d, i < n -> l[i]? = some o -> o.dst = some d -> d < a₀.tmps.size)
  (hG : G (Array.replicate l.toArray.size false) w)
  (hstep : ∀ i o, i < n -> l[i]? = some o -> ∀ (listed : Array Bool) a W, listed.size = l.length -> listed.getD i true = false -> G listed W -> Outer l n a₀ a ->
   (∀ j oj d, j < n -> l[j]? = some oj -> oj.dst = some d -> (∃ e ∈ o.after, Region.binds .any e = true /\ e.on = j) -> D j (slotOf a d) W) ->
   o.wp P a W (fun a' W' => ∃ v, a' = a.put o.dst v /\ D i v W' /\ Rl i W W' /\ G (listed.setIfInBounds i true) W') Q)
  (htail : ∀ (listed : Array Bool) a W, G listed W -> Outer l n a₀ a -> (∀ j oj d, j < n -> l[j]? = some oj -> oj.dst = some d -> D j (slotOf a d) W) -> wpList P l.toArray Q (l.drop n) a W) :
  wpAny P .any l.toArray Q l.toArray.size (Array.replicate l.toArray.size false) a₀ w := by
 simp only [relB, Bool.and_eq_true, decide_eq_true_eq] at hB
 obtain ⟨⟨⟨⟨⟨hn, hs⟩, hc⟩, hback⟩, hdst⟩, hseq⟩ := hB
 have hback' : ∀ (i : Nat) (o : Oper), l[i]? = some o -> (∀ e ∈ o.after, Region.binds .any e = true -> e.on < i) /\ o.guard = none := by
  intro i o ho
  have := List.all_eq_true.1 hback i (List.mem_range.2 (List.getElem?_eq_some_iff.1 ho).1)
  simp only [ho, Bool.and_eq_true, Array.all_eq_true_iff_forall_mem] at this
  exact ⟨fun e he hb => by simpa [hb] using this.1 e he, by simpa using this.2⟩
 have hdst' : ∀ (i j : Nat) (o o' : Oper) (d : Tmp), i < n -> j < n -> i ≠ j -> l[i]? = some o -> l[j]? = some o' -> o.dst = some d -> o'.dst ≠ some d := by
  intro i j o o' d hi hj hij ho ho' hd hd'
  have := List.all_eq_true.1 (List.all_eq_true.1 hdst i (List.mem_range.2 hi)) j (List.mem_range.2 hj)
  simp [hij, ho, ho', hd, hd'] at this
 have key : ∀ (f : Nat) (listed : Array Bool) (a : Act) (W : World), HeadInv .any l.toArray n listed -> ((List.range n).filter fun i => !listed.getD i false).length = f ->
   G listed W -> Outer l n a₀ a -> (∀ (j : Nat) (oj : Oper) (d : Tmp), j < n -> l[j]? = some oj -> listed.getD j false = true -> oj.dst = some d -> D j (slotOf a d) W) ->
   wpAny P .any l.toArray Q (f + (l.length - n)) listed a W := by
  intro f
  induction f with
  | zero =>
   intro listed a W inv hcnt hGW hO hD
   have hall : ∀ i, i < n -> listed.getD i false = true := by
    intro i hi
    have := List.eq_nil_of_length_eq_zero hcnt
    have h2 := List.filter_eq_nil_iff.1 this i (List.mem_range.2 hi)
    simpa using h2
   have hcanon : listed = headDone n l.length := by
    apply Array.ext
    ·rw [inv.size]; simp [headDone]
    ·intro i h1 h2
     have hi : i < l.length := by simpa [headDone] using h2
     simp only [headDone, Array.getElem_ofFn]
     by_cases hin : i < n
     ·have := hall i hin
      simp [h1] at this
      simp [this, hin]
     ·have := inv.tail i (by omega) (by simpa using hi)
      simp [h1] at this
      simp [this, hin]
   rw [Nat.zero_add]
   have := wpAny_of_seq (md := .any) (Q' := Q) (P := P) (ops := l.toArray) (l.drop n) n listed a W (fun j => by simp [List.getElem?_drop]) (by rw [List.length_drop, hcanon]; exact hseq) (htail listed a W hGW hO (fun j oj d hj ho hd => hD j oj d hj ho (hall j hj) hd))
   rwa [List.length_drop] at this
  | succ f ih =>
   intro listed a W inv hcnt hGW hO hD
   -- some operation of the head has not come up
   have hex : ∃ i, i < n /\ listed.getD i false = false /\ ∀ j, j < i -> listed.getD j false = true := by
    have hne : ((List.range n).filter fun i => !listed.getD i false) ≠ [] := by intro h; rw [h] at hcnt; cases hcnt
    have : ∃ i, i < n /\ listed.getD i false = false := by
     obtain ⟨x, hx⟩ := List.exists_mem_of_ne_nil _ hne
     have hx' := List.mem_filter.1 hx
     exact ⟨x, List.mem_range.1 hx'.1, by simpa using hx'.2⟩
    obtain ⟨i, hi, hl⟩ := this
    have : ∀ k i, i <= k -> i < n -> listed.getD i false = false -> ∃ i, i < n /\ listed.getD i false = false /\ ∀ j, j < i -> listed.getD j false = true := by
     intro k
     induction k with
     | zero => intro i hik hi hl; exact ⟨i, hi, hl, fun j hj => by omega⟩
     | succ k ihk =>
      intro i hik hi hl
      by_cases h : ∃ j, j < i /\ listed.getD j false = false
      ·obtain ⟨j, hj, hjl⟩ := h
       exact ihk j (by omega) (by omega) hjl
      ·refine ⟨i, hi, hl, fun j hj => ?_⟩
       cases hh : listed.getD j false with
       | true => rfl
       | false => exact absurd ⟨j, hj, hh⟩ h
    exact this i i (Nat.le_refl _) hi hl
   obtain ⟨i₀, hi₀, hun₀, hbelow⟩ := hex
   have hi₀s : i₀ < listed.size := by rw [inv.size]; simp; omega
   have hl₀ : listed.getD i₀ true = false := getD_in hi₀s hun₀
   have hready₀ : i₀ ∈ Region.ready .any l.toArray listed := by
    have ho : l[i₀]? = some l[i₀] := List.getElem?_eq_getElem (by omega)
    refine mem_ready.2 ⟨hl₀, l[i₀], by simp, fun e he hb => hbelow _ ((hback' i₀ _ ho).1 e he hb)⟩
   rw [show f + 1 + (l.length - n) = f + (l.length - n) + 1 by omega]
   refine ⟨fun h => (by rw [h] at hready₀; cases hready₀), fun i hi => ?_⟩
   have hin : i < n := by
    rcases Nat.lt_or_ge i n with h | h
    ·exact h
    ·exact absurd hi (tail_waits hs hc (by simpa using hn) inv _ i₀ rfl hi₀ hl₀ i h)
   obtain ⟨hiun, o, ho, hall⟩ := mem_ready.1 hi
   have ho' : l[i]? = some o := by simpa using ho
   have hst := hstep i o hin ho' listed a W (by rw [inv.size]; simp) hiun hGW hO (fun j oj d hj hoj hd ⟨e, he, hb, hon⟩ => hD j oj d hj hoj (by rw [<- hon]; exact hall e he hb) hd)
   unfold wpOp
   simp only [ho]
   have hw : Region.wanted o (yielded l.toArray a.tmps) = true := by simp [Region.wanted, (hback' i o ho').2]
   rw [if_pos hw]
   refine .inl (Oper.wp_mono ?_ hst)
   rintro a' W' ⟨v, rfl, hDv, hRv, hGv⟩
   have hOut : Outer l n a₀ (a.put o.dst v) := by
    refine ⟨?_, ?_, fun t ht => ?_⟩
    ·cases hd : o.dst <;> simp [Act.put, hO.defers]
    ·cases hd : o.dst <;> simp [Act.put, hO.size]
    ·cases hd : o.dst with
     | none => simpa [Act.put] using hO.same t ht
     | some d =>
      have hne : d ≠ t := fun h => ht i o hin ho' (by rw [hd, h])
      simp only [Act.put]
      rw [Array.getElem?_setIfInBounds_ne hne]
      exact hO.same t ht
   refine ih _ _ _ (inv.set hi hin) ?_ hGv hOut ?_
   ·have hiun' : listed.getD i false = false := getD_both hiun
    have his : i < listed.size := by rw [inv.size]; simp; omega
    have e1 : ((List.range n).filter fun j => !(listed.setIfInBounds i true).getD j false) = ((List.range n).filter fun j => !listed.getD j false).filter (fun j => decide (j ≠ i)) := by
     rw [List.filter_filter]
     apply List.filter_congr
     intro j _
     by_cases hji : j = i
     ·subst hji; simp [his]
     ·rw [getD_set_ne false (Ne.symm hji)]; simp [hji]
    rw [e1]
    have hnd : ((List.range n).filter fun j => !listed.getD j false).Nodup := List.nodup_range.filter _
    have hmem : i ∈ ((List.range n).filter fun j => !listed.getD j false) := List.mem_filter.2 ⟨List.mem_range.2 hin, by simp [hiun']⟩
    have := filter_ne_length i _ hnd hmem
    omega
   ·intro j oj d hj hoj hlj hd
    by_cases hji : j = i
    ·subst hji
     have : oj = o := Option.some.inj (hoj.symm.trans ho')
     subst this
     have hds : d < a.tmps.size := by rw [hO.size]; exact hsz j oj d hj hoj hd
     rw [hd, slot_put_same hds]
     exact hDv
    ·rw [getD_set_ne false (Ne.symm hji)] at hlj
     have hold := hDs i j _ W W' hin hji (hD j oj d hj hoj hlj hd) hRv
     cases hdo : o.dst with
     | none => simpa [Act.put] using hold
     | some d' =>
      have hne : d ≠ d' := fun h => hdst' j i oj o d hj hin hji hoj ho' hd (by rw [hdo, h])
      rw [slot_put_other hne]
      exact hold
 have inv0 : HeadInv .any l.toArray n (Array.replicate l.toArray.size false) :=
  ⟨by simp, fun j oj _ hl => (by rw [getD_replicate_false] at hl; cases hl), fun t _ ht => getD_in (by simpa using ht) (getD_replicate_false _ _)⟩
 have := key n _ a₀ w inv0 (by
  have : ((List.range n).filter fun i => !(Array.replicate l.toArray.size false).getD i false) = List.range n := List.filter_eq_self.2 (fun i _ => by rw [getD_replicate_false]; rfl)
  rw [this, List.length_range]) hG ⟨rfl, rfl, fun _ _ => rfl⟩ (fun j oj d _ _ hl => by rw [getD_replicate_false] at hl; cases hl)
 rw [show n + (l.length - n) = l.toArray.size by simp; omega] at this
 exact this
def preds (l : List Oper) (D : Nat -> Value -> World -> Prop) (a : Act) (W : World) : List Edge -> Prop
 | [] => True
 | e :: es => (match Region.binds .any e, l[e.on]? with
   | true, some o => (match o.dst with
    | some d => D e.on (slotOf a d) W
    | none => True)
   | _, _ => True) /\ preds l D a W es
def stepOk (P : Program) (l : List Oper) (n : Nat) (Q : Exit -> Act -> World -> Prop) (a₀ : Act) (w : World) (G : World -> Prop) (Rl : World -> World -> Prop) (D : Nat -> Value -> World -> Prop) (i : Nat) (o : Oper) : Prop :=
 ∀ a W, G W -> Rl w W -> Outer l n a₀ a -> preds l D a W o.after.toList -> o.wp P a W (fun a' W' => ∃ v, a' = a.put o.dst v /\ D i v W' /\ Rl W W' /\ G W') Q
def stepsOk (P : Program) (l : List Oper) (n : Nat) (Q : Exit -> Act -> World -> Prop) (a₀ : Act) (w : World) (G : World -> Prop) (Rl : World -> World -> Prop) (D : Nat -> Value -> World -> Prop) : Nat -> List Oper -> Prop
 | _, [] => True
 | i, o :: os => stepOk P l n Q a₀ w G Rl D i o /\ stepsOk P l n Q a₀ w G Rl D (i + 1) os
def heads (D : Nat -> Value -> World -> Prop) (a : Act) (W : World) : Nat -> List Oper -> Prop
 | _, [] => True
 | i, o :: os => (match o.dst with
   | some d => D i (slotOf a d) W
   | none => True) /\ heads D a W (i + 1) os
def szOk (s : Nat) : List Oper -> Bool
 | [] => true
 | o :: os => (match o.dst with
   | some d => decide (d < s)
   | none => true) && szOk s os
theorem preds_of {l : List Oper} {D : Nat -> Value -> World -> Prop} {a : Act} {W : World} {n : Nat} (o : Oper) (hb : ∀ e ∈ o.after, Region.binds .any e = true -> e.on < n)
  (h : ∀ (j : Nat) (oj : Oper) (d : Tmp), j < n -> l[j]? = some oj -> oj.dst = some d -> (∃ e ∈ o.after, Region.binds .any e = true /\ e.on = j) -> D j (slotOf a d) W) : preds l D a W o.after.toList := by
 have : ∀ es : List Edge, (∀ e ∈ es, e ∈ o.after) -> preds l D a W es := by
  intro es
  induction es with
  | nil => intro _; trivial
  | cons e es ih =>
   intro hes
   refine ⟨?_, ih fun e' he' => hes e' (List.mem_cons_of_mem _ he')⟩
   split
   ·rename_i o' hbind ho'
    split
    ·rename_i d hd
     exact h e.on o' d (hb e (hes e (by simp)) hbind) ho' hd ⟨e, hes e (by simp), hbind, rfl⟩
    ·trivial
   ·trivial
 exact this _ fun e he => by simpa using he
theorem steps_get {l : List Oper} {n : Nat} {Q : Exit -> Act -> World -> Prop} {a₀ : Act} {w : World} {G : World -> Prop} {Rl : World -> World -> Prop} {D : Nat -> Value -> World -> Prop} : ∀ (os : List Oper) (k : Nat), stepsOk P l n Q a₀ w G Rl D k os -> ∀ i o, os[i]? = some o -> stepOk P l n Q a₀ w G Rl D (k + i) o
 | [], _, _, i, o, h => by simp at h
 | x :: os, k, hs, 0, o, h => by simp at h; subst h; exact hs.1
 | x :: os, k, hs, i + 1, o, h => by
  have := steps_get os (k + 1) hs.2 i o (by simpa using h)
  rw [show k + (i + 1) = k + 1 + i by omega]
  exact this
theorem heads_of {D : Nat -> Value -> World -> Prop} {a : Act} {W : World} : ∀ (os : List Oper) (k : Nat), (∀ (j : Nat) (oj : Oper) (d : Tmp), os[j]? = some oj -> oj.dst = some d -> D (k + j) (slotOf a d) W) -> heads D a W k os
 | [], _, _ => trivial
 | o :: os, k, h => by
  refine ⟨?_, heads_of os (k + 1) fun j oj d hj hd => ?_⟩
  ·split
   ·rename_i d hd
    exact h 0 o d rfl hd
   ·trivial
  ·have := h (j + 1) oj d (by simpa using hj) hd
   rw [show k + 1 + j = k + (j + 1) by omega]
   exact this
theorem sz_of {s : Nat} : ∀ (os : List Oper), szOk s os = true -> ∀ (i : Nat) (o : Oper) (d : Tmp), os[i]? = some o -> o.dst = some d -> d < s
 | [], _, i, o, d, h, _ => by simp at h
 | x :: os, hs, 0, o, d, h, hd => by
  simp at h; subst h
  simp only [szOk, hd, Bool.and_eq_true, decide_eq_true_eq] at hs
  exact hs.1
 | x :: os, hs, i + 1, o, d, h, hd => by
  simp only [szOk, Bool.and_eq_true] at hs
  exact sz_of os hs.2 i o d (by simpa using h) hd
theorem region_words {l : List Oper} {n : Nat} {Q : Exit -> Act -> World -> Prop} {a₀ : Act} {w : World} (hB : relB l n = true) (hz : szOk a₀.tmps.size (l.take n) = true)
  (G : World -> Prop) (Rl : World -> World -> Prop) (D : Nat -> Value -> World -> Prop)
  (hRt : ∀ {A B C : World}, Rl A B -> Rl B C -> Rl A C) (hDs : ∀ i v W W', D i v W -> Rl W W' -> D i v W')
  (hG : G w) (hR0 : Rl w w) (hstep : stepsOk P l n Q a₀ w G Rl D 0 (l.take n))
  (htail : ∀ a W, G W -> Rl w W -> Outer l n a₀ a -> heads D a W 0 (l.take n) -> wpList P l.toArray Q (l.drop n) a W) :
  wpAny P .any l.toArray Q l.toArray.size (Array.replicate l.toArray.size false) a₀ w := by
 have htake : ∀ (i : Nat) (o : Oper), i < n -> l[i]? = some o -> (l.take n)[i]? = some o := fun i o hi ho => by rw [List.getElem?_take, if_pos hi]; exact ho
 have hback : ∀ (i : Nat) (o : Oper), i < n -> l[i]? = some o -> ∀ e ∈ o.after, Region.binds .any e = true -> e.on < n := by
  have hB' := hB
  simp only [relB, Bool.and_eq_true, decide_eq_true_eq] at hB'
  obtain ⟨⟨⟨⟨⟨_, _⟩, _⟩, hback⟩, _⟩, _⟩ := hB'
  intro i o hi ho e he hbd
  have := List.all_eq_true.1 hback i (List.mem_range.2 (List.getElem?_eq_some_iff.1 ho).1)
  simp only [ho, Bool.and_eq_true, Array.all_eq_true_iff_forall_mem] at this
  have h2 : e.on < i := by simpa [hbd] using this.1 e he
  omega
 refine region_rel_any hB (fun _ W => G W /\ Rl w W) (fun _ => Rl) D (fun _ j v W W' _ _ => hDs j v W W') (fun i o d hi ho hd => sz_of _ hz i o d (htake i o hi ho) hd) ⟨hG, hR0⟩ ?_ ?_
 ·rintro i o hi ho _ a W _ _ ⟨hGW, hRW⟩ hO hp
  have := steps_get _ _ hstep i o (htake i o hi ho)
  rw [Nat.zero_add] at this
  refine Oper.wp_mono ?_ (this a W hGW hRW hO (preds_of o (hback i o hi ho) hp))
  rintro a' W' ⟨v, h1, h2, h3, h4⟩
  exact ⟨v, h1, h2, h3, h4, hRt hRW h3⟩
 ·rintro _ a W ⟨hGW, hRW⟩ hO hd
  refine htail a W hGW hRW hO (heads_of _ _ fun j oj d hj hdd => ?_)
  rw [List.getElem?_take] at hj
  split at hj
  ·rename_i hjn
   rw [Nat.zero_add]
   exact hd j oj d hjn hj hdd
  ·cases hj
def tailsOk (D : Nat -> Value -> World -> Prop) (W : World) (K : Act -> Prop) : Nat -> List Oper -> Act -> Prop
 | _, [], a => K a
 | i, o :: os, a => match o.dst with
  | some d => ∀ v, D i v W -> tailsOk D W K (i + 1) os (a.put (some d) v)
  | none => tailsOk D W K (i + 1) os a
def filled (a : Act) : List Oper -> Act -> Act
 | [], b => b
 | o :: os, b => match o.dst with
  | some d => filled a os (b.put (some d) (slotOf a d))
  | none => filled a os b
theorem tails_filled {D : Nat -> Value -> World -> Prop} {W : World} {K : Act -> Prop} {a : Act} : ∀ (os : List Oper) (k : Nat) (b : Act), heads D a W k os -> tailsOk D W K k os b -> K (filled a os b)
 | [], _, _, _, h => h
 | o :: os, k, b, hh, h => by
  obtain ⟨h1, h2⟩ := hh
  unfold tailsOk at h
  unfold filled
  cases hd : o.dst with
  | none => simp only [hd] at h ⊢; exact tails_filled os (k + 1) b h2 h
  | some d =>
   simp only [hd] at h h1 ⊢
   exact tails_filled os (k + 1) _ h2 (h _ h1)
theorem filled_defers {a : Act} : ∀ (os : List Oper) (b : Act), (filled a os b).defers = b.defers
 | [], _ => rfl
 | o :: os, b => by
  unfold filled
  cases hd : o.dst with
  | none => exact filled_defers os b
  | some d => exact (filled_defers os _).trans rfl
theorem filled_get {a : Act} : ∀ (os : List Oper) (b : Act) (t : Nat), a.tmps.size = b.tmps.size -> ((∃ o ∈ os, o.dst = some t) ∨ b.tmps[t]? = a.tmps[t]?) -> (filled a os b).tmps[t]? = a.tmps[t]?
 | [], b, t, _, h => by
  rcases h with ⟨o, ho, _⟩ | h
  ·cases ho
  ·exact h
 | o :: os, b, t, hs, h => by
  unfold filled
  cases hd : o.dst with
  | none =>
   refine filled_get os b t hs ?_
   rcases h with ⟨o', ho', hd'⟩ | h
   ·rcases List.mem_cons.1 ho' with rfl | ho'
    ·rw [hd] at hd'; cases hd'
    ·exact .inl ⟨o', ho', hd'⟩
   ·exact .inr h
  | some d =>
   refine filled_get os _ t (by simp [Act.put, hs]) ?_
   by_cases htd : t = d
   ·subst htd
    refine .inr ?_
    simp only [Act.put]
    rcases Nat.lt_or_ge t b.tmps.size with hlt | hge
    ·rw [Array.getElem?_setIfInBounds_self_of_lt hlt]
     have hlt' : t < a.tmps.size := by omega
     simp [slotOf, hlt']
    ·have h1 : (b.tmps.setIfInBounds t (slotOf a t)).size <= t := by simpa using hge
     rw [Array.getElem?_eq_none h1, Array.getElem?_eq_none (by omega)]
   ·rcases h with ⟨o', ho', hd'⟩ | h
    ·rcases List.mem_cons.1 ho' with rfl | ho'
     ·rw [hd] at hd'; cases hd'; exact absurd rfl htd
     ·exact .inl ⟨o', ho', hd'⟩
    ·refine .inr ?_
     simp only [Act.put]
     rw [Array.getElem?_setIfInBounds_ne (Ne.symm htd)]
     exact h
theorem filled_eq {l : List Oper} {n : Nat} {a₀ a : Act} (hO : Outer l n a₀ a) : filled a (l.take n) a₀ = a := by
 have h1 : (filled a (l.take n) a₀).tmps = a.tmps := by
  apply Array.ext_getElem?
  intro t
  refine filled_get _ _ t hO.size ?_
  by_cases h : ∃ o ∈ l.take n, o.dst = some t
  ·exact .inl h
  ·refine .inr (hO.same t fun i o hi ho hd => h ⟨o, List.mem_of_getElem? (i := i) (by rw [List.getElem?_take, if_pos hi]; exact ho), hd⟩).symm
 have h2 := (filled_defers (a := a) (l.take n) a₀).trans hO.defers.symm
 generalize filled a (l.take n) a₀ = x at *
 cases x; cases a; simp_all
theorem region_told {l : List Oper} (n : Nat) {Q : Exit -> Act -> World -> Prop} {a₀ : Act} {w : World} (hB : relB l n = true) (hz : szOk a₀.tmps.size (l.take n) = true)
  (G : World -> Prop) (Rl : World -> World -> Prop) (D : Nat -> Value -> World -> Prop)
  (hRt : ∀ {A B C : World}, Rl A B -> Rl B C -> Rl A C) (hDs : ∀ i v W W', D i v W -> Rl W W' -> D i v W')
  (hG : G w) (hR0 : Rl w w) (hstep : stepsOk P l n Q a₀ w G Rl D 0 (l.take n))
  (htail : ∀ W, G W -> Rl w W -> tailsOk D W (fun a => wpList P l.toArray Q (l.drop n) a W) 0 (l.take n) a₀) :
  wpAny P .any l.toArray Q l.toArray.size (Array.replicate l.toArray.size false) a₀ w :=
 region_words hB hz G Rl D hRt hDs hG hR0 hstep fun a W hGW hRW hO hh => by
  have := tails_filled _ _ _ hh (htail W hGW hRW)
  rwa [filled_eq hO] at this
def stepOk' (P : Program) (l : List Oper) (n : Nat) (Q : Exit -> Act -> World -> Prop) (a₀ : Act) (m : Nat) (G G1 : World -> Prop) (Rl : Nat -> World -> World -> Prop) (D : Nat -> Value -> World -> Prop) (i : Nat) (o : Oper) : Prop :=
 ∀ a W, G W -> (i = m -> G1 W) -> Outer l n a₀ a -> preds l D a W o.after.toList -> o.wp P a W (fun a' W' => ∃ v, a' = a.put o.dst v /\ D i v W' /\ Rl i W W' /\ G W' /\ (i ≠ m -> G1 W -> G1 W')) Q
def stepsOk' (P : Program) (l : List Oper) (n : Nat) (Q : Exit -> Act -> World -> Prop) (a₀ : Act) (m : Nat) (G G1 : World -> Prop) (Rl : Nat -> World -> World -> Prop) (D : Nat -> Value -> World -> Prop) : Nat -> List Oper -> Prop
 | _, [] => True
 | i, o :: os => stepOk' P l n Q a₀ m G G1 Rl D i o /\ stepsOk' P l n Q a₀ m G G1 Rl D (i + 1) os
theorem steps_get' {l : List Oper} {n : Nat} {Q : Exit -> Act -> World -> Prop} {a₀ : Act} {m : Nat} {G G1 : World -> Prop} {Rl : Nat -> World -> World -> Prop} {D : Nat -> Value -> World -> Prop} : ∀ (os : List Oper) (k : Nat), stepsOk' P l n Q a₀ m G G1 Rl D k os -> ∀ i o, os[i]? = some o -> stepOk' P l n Q a₀ m G G1 Rl D (k + i) o
 | [], _, _, i, o, h => by simp at h
 | x :: os, k, hs, 0, o, h => by simp at h; subst h; exact hs.1
 | x :: os, k, hs, i + 1, o, h => by
  have := steps_get' os (k + 1) hs.2 i o (by simpa using h)
  rw [show k + (i + 1) = k + 1 + i by omega]
  exact this
theorem region_tale {l : List Oper} (n : Nat) {Q : Exit -> Act -> World -> Prop} {a₀ : Act} {w : World} (hB : relB l n = true) (hz : szOk a₀.tmps.size (l.take n) = true)
  (m : Nat) (G G1 : World -> Prop) (Rl : Nat -> World -> World -> Prop) (D : Nat -> Value -> World -> Prop)
  (hDs : ∀ i j v W W', i < n -> j ≠ i -> D j v W -> Rl i W W' -> D j v W')
  (hmn : m < n) (hG : G w) (hG1 : G1 w) (hstep : stepsOk' P l n Q a₀ m G G1 Rl D 0 (l.take n))
  (htail : ∀ W, G W -> tailsOk D W (fun a => wpList P l.toArray Q (l.drop n) a W) 0 (l.take n) a₀) :
  wpAny P .any l.toArray Q l.toArray.size (Array.replicate l.toArray.size false) a₀ w := by
 have htake : ∀ (i : Nat) (o : Oper), i < n -> l[i]? = some o -> (l.take n)[i]? = some o := fun i o hi ho => by rw [List.getElem?_take, if_pos hi]; exact ho
 have hback : ∀ (i : Nat) (o : Oper), i < n -> l[i]? = some o -> ∀ e ∈ o.after, Region.binds .any e = true -> e.on < n := by
  have hB' := hB
  simp only [relB, Bool.and_eq_true, decide_eq_true_eq] at hB'
  obtain ⟨⟨⟨⟨⟨_, _⟩, _⟩, hback⟩, _⟩, _⟩ := hB'
  intro i o hi ho e he hbd
  have := List.all_eq_true.1 hback i (List.mem_range.2 (List.getElem?_eq_some_iff.1 ho).1)
  simp only [ho, Bool.and_eq_true, Array.all_eq_true_iff_forall_mem] at this
  have h2 : e.on < i := by simpa [hbd] using this.1 e he
  omega
 have hn : n < l.length := by
  have hB' := hB
  simp only [relB, Bool.and_eq_true, decide_eq_true_eq] at hB'
  exact hB'.1.1.1.1.1
 refine region_rel_any hB (fun listed W => G W /\ (listed.getD m true = false -> G1 W)) Rl D hDs (fun i o d hi ho hd => sz_of _ hz i o d (htake i o hi ho) hd) ⟨hG, fun _ => hG1⟩ ?_ ?_
 ·rintro i o hi ho listed a W hsz hun ⟨hGW, hG1W⟩ hO hp
  have := steps_get' _ _ hstep i o (htake i o hi ho)
  rw [Nat.zero_add] at this
  refine Oper.wp_mono ?_ (this a W hGW (fun e => hG1W (e ▸ hun)) hO (preds_of o (hback i o hi ho) hp))
  rintro a' W' ⟨v, h1, h2, h3, h4, h5⟩
  refine ⟨v, h1, h2, h3, h4, fun hm => ?_⟩
  by_cases him : i = m
  ·subst him
   rw [show (listed.setIfInBounds i true).getD i true = true by simp [hsz, show i < l.length by omega]] at hm
   cases hm
  ·rw [getD_set_ne true him] at hm
   exact h5 him (hG1W hm)
 ·rintro _ a W ⟨hGW, _⟩ hO hd
  have := tails_filled _ _ _ (heads_of (D := D) (a := a) (W := W) (l.take n) 0 fun j oj d hj hdd => by
   rw [List.getElem?_take] at hj
   split at hj
   ·rename_i hjn
    rw [Nat.zero_add]
    exact hd j oj d hjn hj hdd
   ·cases hj) (htail W hGW)
  rwa [filled_eq hO] at this
theorem wpIn_of_wp0 {o : Oper} {n : Nat} {a : Act} {w : World} {Q' : Act -> World -> Prop} {Q : Exit -> Act -> World -> Prop} {K : Act -> World -> Prop} (h : o.wp P a w K (onlyN Q')) :
  o.wpIn Fence.wide n P a w K Q := by
 refine ⟨fun _ _ => trivial, ?_⟩
 show o.uponIn Fence.wide n P a K Q ((execOp a.eval o).run P w)
 unfold Oper.wp at h
 generalize (execOp a.eval o).run P w = r at *
 cases r with
 | ok x w' =>
  cases x <;> simp only [Oper.upon, Oper.uponIn] at h ⊢ <;>
   first
    | exact h
    | exact h.elim
    | exact ⟨fun hh => (by simp [Fence.wide] at hh), callsIn_wide.2 (h.mono (fun e w'' he => by cases e <;> first | exact he | exact he.elim | exact (onlyN_not _ he).elim))⟩
    | exact ⟨fun hh => (by simp [Fence.wide] at hh), fun c cs _ => let ⟨v, w3, hr, hs⟩ := h c cs; ⟨v, w3, hr, stepsIn_wide.2 hs⟩⟩
 | halt x w' =>
  cases x <;> simp only [Oper.upon, Oper.uponIn] at h ⊢ <;> exact h.elim
theorem wpAnyIn_of_any0 {n : Nat} {md : Region.Mode} {ops : Array Oper} {Q' : Act -> World -> Prop} {Q : Exit -> Act -> World -> Prop} (hQ : ∀ a w, Q' a w -> Q .normal a w) :
  ∀ (fuel : Nat) (listed : Array Bool) (a : Act) (w : World), wpAny P md ops (onlyN Q') fuel listed a w -> wpAnyIn Fence.wide n P md ops Q fuel listed a w
 | 0, _, a, w, h => ⟨h.1, hQ _ _ h.2⟩
 | fuel + 1, listed, a, w, h => by
  refine ⟨fun hr => hQ _ _ (h.1 hr), fun i hi => ?_⟩
  have h2 := h.2 i hi
  unfold wpOp at h2
  unfold wpOpIn
  cases ho : ops[i]? with
  | none => simp only [ho] at h2 ⊢; exact wpAnyIn_of_any0 hQ fuel _ _ _ h2
  | some o =>
   simp only [ho] at h2 ⊢
   split
   ·rename_i hw
    rw [if_pos hw] at h2
    rcases h2 with h2 | ⟨_, h2⟩
    ·exact Oper.wpIn_mono (fun a w hk => wpAnyIn_of_any0 hQ fuel _ _ _ hk) (wpIn_of_wp0 h2)
    ·exact (onlyN_not _ h2).elim
   ·rename_i hw
    rw [if_neg hw] at h2
    exact ⟨fun _ _ => trivial, wpAnyIn_of_any0 hQ fuel _ _ _ h2⟩
theorem outer_words {n id : Nat} {l : List Oper} {Q' : Act -> World -> Prop} {Q : Exit -> Act -> World -> Prop} {a₀ : Act} {w : World} (hm : P.follows .mixedOrders = true) (hQ : ∀ a w, Q' a w -> Q .normal a w)
  (h : wpAny P .any l.toArray (onlyN Q') l.toArray.size (Array.replicate l.toArray.size false) a₀ w.drew) : (Code.region id l.toArray true).wpIn Fence.wide n P Q a₀ w :=
 wpIn_region_any hm (wpAnyIn_of_any0 hQ _ _ _ _ h)
theorem onlyN_intro {Q : Act -> World -> Prop} {a : Act} {w : World} (h : Q a w) : onlyN Q .normal a w := h
theorem wp_words {id : Nat} {l : List Oper} {Q : Exit -> Act -> World -> Prop} {a₀ : Act} {w : World} (hm : P.follows .mixedOrders = true)
  (h : wpAny P .any l.toArray Q l.toArray.size (Array.replicate l.toArray.size false) a₀ w.drew) : (Code.region id l.toArray true).wp P Q a₀ w := wp_region_any hm h
theorem round_words {r n id : Nat} {l : List Oper} {Q' : Act -> World -> Prop} {Q : Exit -> Act -> World -> Prop} {a₀ : Act} {w : World} (hm : P.follows .mixedOrders = true) (hd : l.toArray.all Oper.noDefer = true) (hQ : ∀ a w, Q' a w -> Q .normal a w)
  (h : wpAny P .any l.toArray (onlyN Q') l.toArray.size (Array.replicate l.toArray.size false) a₀ w.drew) : (Code.region id l.toArray true).wpIn (Fence.wide.inRound r) n P Q a₀ w :=
 wpIn_region_any hm (wpAnyIn_of_any hQ hd _ _ _ _ h)
theorem wp_yields {o : Oper} {a : Act} {W : World} {K : Act -> World -> Prop} {Q : Exit -> Act -> World -> Prop} {v : Value} (h : (execOp a.eval o).run P W = .ok (.value v) W) (hk : K (a.put o.dst v) W) : o.wp P a W K Q := by
 unfold Oper.wp
 rw [h]
 exact hk
theorem wp_makes {o : Oper} {a : Act} {W W' : World} {K : Act -> World -> Prop} {Q : Exit -> Act -> World -> Prop} {v : Value} (h : (execOp a.eval o).run P W = .ok (.value v) W') (hk : K (a.put o.dst v) W') : o.wp P a W K Q := by
 unfold Oper.wp
 rw [h]
 exact hk
theorem wp_enters {o : Oper} {a : Act} {W : World} {K : Act -> World -> Prop} {Q : Exit -> Act -> World -> Prop} {f : FuncId} {args : Array Value} (h : (execOp a.eval o).run P W = .ok (.enter f args) W)
  (hc : Calls P f args W fun e W' => ∃ v, e = .returned v /\ K (a.put o.dst v) W') : o.wp P a W K Q := by
 unfold Oper.wp
 rw [h]
 refine hc.mono ?_
 rintro e W' ⟨v, rfl, hk⟩
 exact hk
theorem Outer.slot {l : List Oper} {n : Nat} {a₀ a : Act} (h : Outer l n a₀ a) (t : Nat) (ht : ((l.take n).all fun o => o.dst != some t) = true) : slotOf a t = slotOf a₀ t := by
 unfold slotOf
 rw [h.same t fun i o hi ho hd => ?_]
 have := List.all_eq_true.1 ht o (List.mem_of_getElem? (i := i) (by rw [List.getElem?_take, if_pos hi]; exact ho))
 simp [hd] at this
def pickD : List (Value -> World -> Prop) -> Nat -> Value -> World -> Prop
 | [], _, _, _ => True
 | p :: _, 0, v, W => p v W
 | _ :: ps, i + 1, v, W => pickD ps i v W
def allStable (R : World -> World -> Prop) : List (Value -> World -> Prop) -> Prop
 | [] => True
 | p :: ps => (∀ v W W', p v W -> R W W' -> p v W') /\ allStable R ps
theorem pickD_stable {R : World -> World -> Prop} : ∀ (ps : List (Value -> World -> Prop)), allStable R ps -> ∀ i v W W', pickD ps i v W -> R W W' -> pickD ps i v W'
 | [], _, _, _, _, _, _, _ => trivial
 | _ :: _, hs, 0, v, W, W', h, hr => hs.1 v W W' h hr
 | _ :: ps, hs, i + 1, v, W, W', h, hr => pickD_stable ps hs.2 i v W W' h hr
abbrev vIs (x : Value) (v : Value) (_ : World) : Prop := v = x
theorem vIs_st {R : World -> World -> Prop} {x : Value} : ∀ v W W', vIs x v W -> R W W' -> vIs x v W' := fun _ _ _ h _ => h
abbrev newer (W W' : World) : Prop := Below W.heap.size W W'
theorem newer_trans {A B C : World} (h : newer A B) (k : newer B C) : newer A C := h.trans (k.mono h.size)
end
section
open Go.RowKit
theorem add_row (b off j : Nat) : (⟨b, off, none⟩ : Addr).add j = ⟨b, off + j, none⟩ := by
 unfold Addr.add
 split <;> simp_all
theorem own_ne {w : World} {base : Nat} {e : TypeId} {size n : Nat} {v : Value} {xs : List Value} {g : Nat} {t : TypeId} {cs : Array Value} (h : w.ownsRow base e size v n xs) (hg : Whole w g t cs) (hne : e ≠ t) : v.ownBlock ≠ some g := by
 rcases h.2 with ⟨rfl, _⟩ | ⟨g', cap, cur, rfl, _, hh, _⟩
 ·simp [Value.ownBlock]
 ·intro he
  have e1 : g' = g := by simpa [Value.ownBlock] using he
  subst e1
  unfold Whole at hg
  rw [hh] at hg
  injection hg with hg
  injection hg with _ ht
  exact hne ht
theorem own_ge {w : World} {base : Nat} {e : TypeId} {size n : Nat} {v : Value} {xs : List Value} (h : w.ownsRow base e size v n xs) : ∀ k, v.ownBlock = some k -> base <= k := by
 intro k hk
 rcases h.2 with ⟨rfl, _⟩ | ⟨g', cap, cur, rfl, hb, _⟩
 ·simp [Value.ownBlock] at hk
 ·have e1 : g' = k := by simpa [Value.ownBlock] using hk
  omega
theorem own_form {w : World} {base : Nat} {e : TypeId} {size n : Nat} {v : Value} {xs : List Value} (h : w.ownsRow base e size v n xs) : ∃ A cap, v = .slice A n cap := by
 rcases h.2 with ⟨rfl, rfl⟩ | ⟨g', cap, cur, rfl, _⟩
 ·exact ⟨_, _, rfl⟩
 ·exact ⟨_, _, rfl⟩
theorem row_of_own {α : Type} {enc : α -> List Value} {w : World} {base : Nat} {e : TypeId} {size n cap : Nat} {A : Option Addr} {l : List α} (hs : 0 < size) (he : ∀ x, (enc x).length = size) (h : w.ownsRow base e size (.slice A n cap) n (l.flatMap enc)) : Row enc size w w.heap.size A l := by
 intro hl
 have hlen : (l.flatMap enc).length = l.length * size := by
  clear h hl
  induction l with
  | nil => simp
  | cons x l ih => simp [List.flatMap_cons, ih, he, Nat.add_mul]; omega
 rcases h.2 with ⟨h1, rfl⟩ | ⟨g, cap', cur, h1, hb, hh, hn, _, hcur, htake⟩
 ·have := h.1
  rw [hlen] at this
  injection h1 with h2 h3 h4
  rcases l with _ | ⟨x, l⟩
  ·exact absurd rfl hl
  ·simp at this
   exact absurd this (Nat.ne_of_gt (Nat.mul_pos (Nat.succ_pos l.length) hs))
 ·injection h1 with h2 h3 h4
  refine ⟨g, 0, h2, (Array.getElem?_eq_some_iff.1 hh).1, fun k x hk j v hv => ?_⟩
  have hj : j < size := by rw [<- he x]; exact (List.getElem?_eq_some_iff.1 hv).1
  have hget : (l.flatMap enc)[k * size + j]? = some v := by
   clear h hlen htake hl
   induction l generalizing k with
   | nil => simp at hk
   | cons y l ih =>
    cases k with
    | zero =>
     simp at hk; subst hk
     simp only [List.flatMap_cons, Nat.zero_mul, Nat.zero_add]
     rw [List.getElem?_append_left (by rw [he]; exact hj)]; exact hv
    | succ k =>
     simp only [List.getElem?_cons_succ] at hk
     simp only [List.flatMap_cons]
     rw [List.getElem?_append_right (by rw [he]; simp [Nat.add_mul]; omega), he]
     rw [show (k + 1) * size + j - size = k * size + j by simp [Nat.add_mul]; omega]
     exact ih k hk
  rw [<- htake, List.getElem?_take] at hget
  split at hget
  ·simp only [Nat.zero_add]
   unfold World.cell?
   simp [hh]
   simpa using hget
  ·cases hget
theorem own_set {w : World} {base : Nat} {e : TypeId} {size n : Nat} {v : Value} {xs : List Value} {g i : Nat} (h : w.ownsRow base e size v n xs) (hg : v.ownBlock ≠ some g) (u : Value) : (w.setCell ⟨g, i, none⟩ u).ownsRow base e size v n xs :=
 h.kept (grown_set (p := ⟨g, i, none⟩) (grown_refl w (some g)) (.inl rfl) u) (.inr hg)
theorem own_below {w w' : World} {base : Nat} {e : TypeId} {size n : Nat} {v : Value} {xs : List Value} (h : w.ownsRow base e size v n xs) (hb : Below w.heap.size w w') : w'.ownsRow base e size v n xs :=
 h.kept (row := none) ⟨hb.os, hb.tape, hb.output, hb.size, fun i hi _ => hb.block i hi⟩ (by rcases Option.eq_none_or_eq_some v.ownBlock with h | ⟨k, h⟩ <;> simp [h])
theorem keep_cell {W W' : World} {p : Addr} {v : Value} (h : W.cell? p = some v) (hb : Below W.heap.size W W') : W'.cell? p = some v := (hb.cell (World.block_lt_of_cell? W _ h)).trans h
end
section
open Go.RowKit
def vNew (B : Nat) (t : TypeId) (cs : Array Value) (v : Value) (W : World) : Prop := ∃ nb, v = .pointer (some ⟨nb, 0, none⟩) /\ B <= nb /\ Whole W nb t cs
theorem vNew_st {B : Nat} {t : TypeId} {cs : Array Value} : ∀ v W W', vNew B t cs v W -> newer W W' -> vNew B t cs v W' := fun _ _ _ ⟨nb, h1, h2, h3⟩ hb => ⟨nb, h1, h2, h3.below hb h3.lt⟩
def vOne (B : Nat) (t : TypeId) (cs : Array Value) (v : Value) (W : World) : Prop := ∃ nb, v = .slice (some ⟨nb, 0, none⟩) 1 1 /\ B <= nb /\ Whole W nb t cs
theorem vOne_st {B : Nat} {t : TypeId} {cs : Array Value} : ∀ v W W', vOne B t cs v W -> newer W W' -> vOne B t cs v W' := fun _ _ _ ⟨nb, h1, h2, h3⟩ hb => ⟨nb, h1, h2, h3.below hb h3.lt⟩
theorem take_flat {α : Type} (f : α -> List Value) (l : List α) (k : Nat) (x : α) (h : l[k]? = some x) : (l.take (k + 1)).flatMap f = (l.take k).flatMap f ++ f x := by
 obtain ⟨hk, rfl⟩ := List.getElem?_eq_some_iff.1 h
 rw [List.take_succ_eq_append_getElem hk, List.flatMap_append]
 simp
theorem own_more {w : World} {base base' : Nat} {e : TypeId} {size n : Nat} {v : Value} {xs : List Value} (h : w.ownsRow base' e size v n xs) (hb : base <= base') : w.ownsRow base e size v n xs := by
 obtain ⟨h1, h2⟩ := h
 refine ⟨h1, ?_⟩
 rcases h2 with h2 | ⟨g, cap, cur, a, b, c⟩
 ·exact .inl h2
 ·exact .inr ⟨g, cap, cur, a, by omega, c⟩
theorem grown_drew {a w : World} {row : Option Nat} (h : a.grownBy w row) : a.grownBy w.drew row := ⟨h.os, h.tape, h.output, h.size, h.block⟩
end
section
open Go.RowKit Go.Shelf

theorem heap_if (w : World) (o : Obj) (k : Nat) : (w.alloc o).heap[k]? = if k = w.heap.size then some o else w.heap[k]? := by
 show (w.heap.push o)[k]? = _
 rw [Array.getElem?_push]
theorem grown_put {a w : World} {row : Option Nat} (h : a.grownBy w row) {l : Nat} (hl : a.heap.size <= l) (o : Obj) : a.grownBy (w.putObj l o) row :=
 ⟨h.os, h.tape, h.output, by simpa using h.size, fun i hi hne => (World.putObj_heap_other (by omega)).trans (h.block i hi hne)⟩
theorem Whole.put {w : World} {g : Nat} {t : TypeId} {cs : Array Value} (h : Whole w g t cs) {l : Nat} (hl : g ≠ l) (o : Obj) : Whole (w.putObj l o) g t cs := (World.putObj_heap_other hl).trans h
end
section
open Go.RowKit
section
variable {W W' : World} {base n : Nat} {v1 v2 : Value} {gb : Nat -> Nat} {k : Nat} {lo hi : Nat -> Nat -> Int} {sl sh : Nat -> Int}
theorem own_lt {w : World} {base : Nat} {e : TypeId} {size n : Nat} {v : Value} {xs : List Value} (h : w.ownsRow base e size v n xs) : ∀ k, v.ownBlock = some k -> k < w.heap.size := by
 intro k hk
 rcases h.2 with ⟨rfl, _⟩ | ⟨g', cap, cur, rfl, hb, hh, _⟩
 ·simp [Value.ownBlock] at hk
 ·have e1 : g' = k := by simpa [Value.ownBlock] using hk
  subst e1
  exact (Array.getElem?_eq_some_iff.1 hh).1
end
end
section
open Go.RowKit
theorem newer_refl (W : World) : newer W W := Below.refl _ _
theorem grown_of_newer {W W' : World} (h : newer W W') (row : Option Nat) : W.grownBy W' row := ⟨h.os, h.tape, h.output, h.size, fun i hi _ => h.block i hi⟩
def relAt (m : Nat) (R : World -> World -> Prop) (i : Nat) : World -> World -> Prop := match Nat.beq i m with
 | true => R
 | false => newer
def allBut (R : World -> World -> Prop) (m : Nat) : Nat -> List (Value -> World -> Prop) -> Prop
 | _, [] => True
 | i, p :: ps => (match Nat.beq i m with
   | true => ∀ v W W', p v W -> newer W W' -> p v W'
   | false => ∀ v W W', p v W -> R W W' -> p v W') /\ allBut R m (i + 1) ps
theorem allBut_get {R : World -> World -> Prop} {m : Nat} (hR : ∀ W W', newer W W' -> R W W') : ∀ (ps : List (Value -> World -> Prop)) (k : Nat), allBut R m k ps -> ∀ j v W W' i, j + k ≠ i -> pickD ps j v W -> relAt m R i W W' -> pickD ps j v W'
 | [], _, _, _, _, _, _, _, _, _, _ => trivial
 | p :: ps, k, hs, 0, v, W, W', i, hne, h, hr => by
  obtain ⟨h1, _⟩ := hs
  unfold relAt at hr
  cases hk : Nat.beq k m with
  | true =>
   rw [hk] at h1
   have hkm : k = m := Nat.eq_of_beq_eq_true hk
   have : Nat.beq i m = false := by
    cases hb : Nat.beq i m with
    | false => rfl
    | true => exact absurd (Nat.eq_of_beq_eq_true hb) (by omega)
   rw [this] at hr
   exact h1 v W W' h hr
  | false =>
   rw [hk] at h1
   cases hb : Nat.beq i m with
   | true => rw [hb] at hr; exact h1 v W W' h hr
   | false => rw [hb] at hr; exact h1 v W W' h (hR _ _ hr)
 | p :: ps, k, hs, j + 1, v, W, W', i, hne, h, hr => allBut_get hR ps (k + 1) hs.2 j v W W' i (by omega) h hr
theorem allBut_ok {R : World -> World -> Prop} {m n : Nat} (hR : ∀ W W', newer W W' -> R W W') (ps : List (Value -> World -> Prop)) (hs : allBut R m 0 ps) : ∀ i j v W W', i < n -> j ≠ i -> pickD ps j v W -> relAt m R i W W' -> pickD ps j v W' :=
 fun i j v W W' _ hne h hr => allBut_get hR ps 0 hs j v W W' i (by omega) h hr
theorem vOne_grown {B : Nat} {t : TypeId} {cs : Array Value} {row : Option Nat} (hr : ∀ q, row = some q -> q < B) : ∀ v W W', vOne B t cs v W -> W.grownBy W' row -> vOne B t cs v W' :=
 fun _ _ _ ⟨nb, h1, h2, h3⟩ hg => ⟨nb, h1, h2, h3.grown hg (by intro e; have := hr nb e.symm; omega)⟩
theorem setCell_same {w : World} {g i : Nat} {v : Value} (h : w.cell? ⟨g, i, none⟩ = some v) : w.setCell ⟨g, i, none⟩ v = w := by
 unfold World.cell? at h
 have hs : (w.setCell ⟨g, i, none⟩ v).heap = w.heap := by
  apply Array.ext_getElem?
  intro k
  by_cases hk : k = g
  ·subst hk
   simp only [World.setCell, Array.getElem?_modify]
   dsimp only at h
   cases ho : w.heap[k]? with
   | none => simp
   | some o =>
    rw [ho] at h
    cases o with
    | cells c e fr =>
     simp only [Option.isSome_none, Bool.false_eq_true, if_false] at h
     simp only [if_pos, Option.map_some, Option.isSome_none, Bool.false_eq_true, if_false]
     have hc : c.setIfInBounds i v = c := by
      apply Array.ext_getElem?
      intro q
      by_cases hq : i = q
      ·subst hq
       rw [Array.getElem?_setIfInBounds_self_of_lt (Array.getElem?_eq_some_iff.1 h).1, h]
      ·rw [Array.getElem?_setIfInBounds_ne hq]
     rw [hc]
    | _ => simp at h
  ·exact Below.heap_setCell w ⟨g, i, none⟩ v k hk
 show ({ w with heap := (w.setCell ⟨g, i, none⟩ v).heap } : World) = w
 rw [hs]
theorem wp_skips {P : Program} {o : Oper} {a : Act} {W W' : World} {K : Act -> World -> Prop} {Q : Exit -> Act -> World -> Prop} (h : (execOp a.eval o).run P W = .ok .skip W') (hk : K (a.put o.dst undef) W') : o.wp P a W K Q := by
 unfold Oper.wp
 rw [h]
 exact hk
theorem keep_frozen {W W' : World} {p : Addr} {v : Value} (h : W.frozen? p = false) (hc : W.cell? p = some v) (hb : Below W.heap.size W W') : W'.frozen? p = false := (hb.frozen (World.block_lt_of_cell? W _ hc)).trans h
theorem eval_slot (a : Act) (t : Nat) : a.eval (.tmp t) = slotOf a t := by simp [Act.eval, slotOf]
theorem grown_trans' {a b c : World} {row : Option Nat} (h : a.grownBy b row) (k : b.grownBy c row) : a.grownBy c row :=
 ⟨k.os.trans h.os, k.tape.trans h.tape, k.output.trans h.output, Nat.le_trans h.size k.size, fun i hi hne => (k.block i (Nat.lt_of_lt_of_le hi h.size) hne).trans (h.block i hi hne)⟩
theorem own_own_ne {w : World} {base base' : Nat} {e e' : TypeId} {size size' n n' : Nat} {v v' : Value} {xs xs' : List Value} (h : w.ownsRow base e size v n xs) (h' : w.ownsRow base' e' size' v' n' xs') (hne : e ≠ e') : ∀ q, v.ownBlock = some q -> v'.ownBlock ≠ some q := by
 intro q hq hq'
 rcases h.2 with ⟨rfl, _⟩ | ⟨g, cap, cur, rfl, _, hh, _⟩
 ·simp [Value.ownBlock] at hq
 ·rcases h'.2 with ⟨rfl, _⟩ | ⟨g', cap', cur', rfl, _, hh', _⟩
  ·simp [Value.ownBlock] at hq'
  ·have e1 : g = q := by simpa [Value.ownBlock] using hq
   have e2 : g' = q := by simpa [Value.ownBlock] using hq'
   subst e1
   subst e2
   rw [hh] at hh'
   injection hh' with hh'
   injection hh' with _ ht
   exact hne ht
theorem below_grown {B : Nat} {a w : World} {row : Option Nat} (h : a.grownBy w row) (hr : ∀ q, row = some q -> B <= q) (hB : B <= a.heap.size) : Below B a w :=
 ⟨h.os, h.tape, h.output, h.size, fun i hi => h.block i (by omega) (fun e => by have := hr i e.symm; omega)⟩
end
section
open Go.RowKit Go.Shelf
theorem Whole.ne {W : World} {g g' : Nat} {t t' : TypeId} {cs cs' : Array Value} (h : Whole W g t cs) (h' : Whole W g' t' cs') (hne : t ≠ t') : g ≠ g' := by
 rintro rfl
 unfold Whole at h h'
 rw [h] at h'
 injection h' with h'
 injection h' with _ ht
 exact hne ht

theorem grown_putL (W : World) (l : Nat) (o : Obj) : W.grownBy (W.putObj l o) (some l) := ⟨rfl, rfl, rfl, by simp, fun _ _ hk => World.putObj_heap_other (fun e => hk (by rw [e]))⟩
end
section
open Go.RowKit

end
section
open Go.RowKit
theorem row_alloc {α : Type} {enc : α -> List Value} {s : Nat} {w : World} {A : Option Addr} {l : List α} (h : Row enc s w w.heap.size A l) (o : Obj) : Row enc s (w.alloc o) (w.alloc o).heap.size A l :=
 (h.below ((Below.refl _ _).alloc (Nat.le_refl _) o)).more (by simp)
end
section
open Go.RowKit
theorem flat_get {α : Type} {enc : α -> List Value} {s : Nat} (hs : 0 < s) (he : ∀ x, (enc x).length = s) : ∀ (l : List α) (j : Nat) (u : Value), (l.flatMap enc)[j]? = some u -> ∃ x, l[j / s]? = some x /\ (enc x)[j % s]? = some u
 | [], j, u, h => by simp at h
 | y :: l, j, u, h => by
  simp only [List.flatMap_cons] at h
  rcases Nat.lt_or_ge j s with hj | hj
  ·rw [List.getElem?_append_left (by rw [he]; exact hj)] at h
   exact ⟨y, by rw [Nat.div_eq_of_lt hj]; rfl, by rw [Nat.mod_eq_of_lt hj]; exact h⟩
  ·rw [List.getElem?_append_right (by rw [he]; exact hj), he] at h
   obtain ⟨x, h1, h2⟩ := flat_get hs he l (j - s) u h
   refine ⟨x, ?_, ?_⟩
   ·rw [show j / s = (j - s) / s + 1 by rw [<- Nat.sub_add_cancel hj, Nat.add_div_right _ hs]; simp]
    simpa using h1
   ·rw [<- Nat.mod_eq_sub_mod hj] at h2
    exact h2
theorem row_news {α : Type} {enc : α -> List Value} {s B : Nat} (hs : 0 < s) (he : ∀ x, (enc x).length = s) {w : World} {b off : Nat} {l : List α} (h : Row enc s w B (some ⟨b, off, none⟩) l) : ∀ j u, (l.flatMap enc)[j]? = some u -> w.cell? ((⟨b, off, none⟩ : Addr).add j) = some u := by
 intro j u hu
 obtain ⟨x, h1, h2⟩ := flat_get hs he l j u hu
 obtain ⟨b', off', e, _, hc⟩ := h (ne_nil_of_get h1)
 injection e with e
 injection e with e1 e2
 subst e1
 subst e2
 rw [add_row]
 have := hc (j / s) x h1 (j % s) u h2
 rw [show off + j / s * s + j % s = off + j by have := Nat.div_add_mod j s; rw [Nat.mul_comm] at this; omega] at this
 exact this
theorem flat_len {α : Type} {enc : α -> List Value} {s : Nat} (he : ∀ x, (enc x).length = s) (l : List α) : (l.flatMap enc).length = l.length * s := by
 induction l with
 | nil => simp
 | cons y l ih => simp only [List.flatMap_cons, List.length_append, ih, he, List.length_cons]; rw [Nat.add_mul]; omega
end
section
open Go.RowKit
variable {P : Program}
end
section
open Go.RowKit
variable {P : Program}
def relG (l : List Oper) (n : Nat) : Bool :=
 decide (n < l.length) && Region.sinkB .any l.toArray n && Region.chainB .any l.toArray n &&
 ((List.range l.length).all fun i => match l[i]? with
  | some o => o.after.all (fun e => !Region.binds .any e || decide (e.on < i)) && (match o.guard with
   | none => true
   | some (j, _) => decide (j < i) && o.after.toList.any (fun e => Region.binds .any e && e.on == j) && (match l[j]? with
    | some oj => oj.dst.isSome
    | none => false))
  | none => true) &&
 ((List.range n).all fun i => (List.range n).all fun j => decide (i = j) || match l[i]?, l[j]? with
  | some o, some o' => o.dst.isNone || (o.dst != o'.dst)
  | _, _ => true) &&
 Region.seqB .any l.toArray (l.length - n) n (headDone n l.length)
end
section
open Go.RowKit
end

section
open Go.RowKit
theorem wp_append_new {P : Program} {w : World} {o : Oper} {a : Act} {K : Act -> World -> Prop} {Q : Exit -> Act -> World -> Prop} (s x : Operand) (t : TypeId)
  (ho : o.op = .call { callee := .builtin .append, args := #[s, x], argTypes := #[t, t] })
  (e : TypeId) (i : TypeInfo) (z : Value) (size bytes : Nat) (ht : P.underlying t = some (.slice e)) (hi : P.info? e = some i) (hz : i.zero = some z)
  (hsize : i.size = size) (hby : i.bytes = bytes) (hzs : z.cells.size = size) (hsz : 0 < size) (b : Addr) (hs : a.eval s = .slice (some b) 0 0)
  (ad : Addr) (m c : Nat) (news : List Value) (hx : a.eval x = .slice (some ad) m c) (hl : news.length = m * size) (hnews : ∀ j u, news[j]? = some u -> w.cell? (ad.add j) = some u)
  (hm : 0 < m) (h63 : m <= maxLen) (hbytes : m * bytes <= 140737488355328)
  (h : ∀ g cap w', w'.ownsRow w.heap.size e size (.slice (some ⟨g, 0, none⟩) m cap) m news -> Below w.heap.size w w' -> K (a.put o.dst (.slice (some ⟨g, 0, none⟩) m cap)) w') : o.wp P a w K Q := by
 obtain ⟨v', w', hr, h2, h3⟩ := run_append_arg_grows (P := P) w t o.type e i z size bytes ht hi hz hsize hby hzs hsz b 0 0 [] (by simp) (fun j u hj => by simp at hj) ad m c news hl hnews (by omega) (by omega) (by rw [Nat.zero_add]; exact hbytes)
 simp only [Nat.zero_add, List.nil_append] at h2
 obtain ⟨g, cap, rfl, _, _⟩ := h2.form hm
 unfold Oper.wp execOp
 simp only [ho, resolve, invoke, builtin, Sem.run_bind, Sem.run_pure, Result.andThen_ok, List.map_toArray, List.map_cons, List.map_nil, hs, hx, hr]
 exact h g cap w' h2 ⟨h3.os, h3.tape, h3.output, h3.size, fun k hk => h3.block k hk (by simp)⟩
theorem map_iAt (l : List Int) : (List.range l.length).map (iAt l) = l := by
 apply List.ext_getElem?
 intro i
 by_cases h : i < l.length
 ·simp [h, iAt]
 ·rw [List.getElem?_eq_none (by simp; omega), List.getElem?_eq_none (by omega)]
end
section
open Go.RowKit

end
section
open Go.RowKit

theorem own_ge_slice {w : World} {base : Nat} {e : TypeId} {size n c : Nat} {a : Addr} {xs : List Value} (h : w.ownsRow base e size (.slice (some a) n c) n xs) : base <= a.block := by
 rcases h.2 with ⟨h0, _⟩ | ⟨g, cap, cur, h0, hb, _⟩
 ·simp at h0
 ·injection h0 with h1
  injection h1 with h1
  rw [h1]
  exact hb
end
section
open Go.RowKit
end
section
open Go.RowKit
theorem flat_at {α : Type} {enc : α -> List Value} {s : Nat} (he : ∀ x, (enc x).length = s) : ∀ (l : List α) (k : Nat) (x : α), l[k]? = some x -> ∀ (j : Nat) (v : Value), (enc x)[j]? = some v -> (l.flatMap enc)[k * s + j]? = some v
 | [], k, x, hk, _, _, _ => by simp at hk
 | y :: l, 0, x, hk, j, v, hv => by
  simp at hk; subst hk
  have hj : j < s := by rw [<- he y]; exact (List.getElem?_eq_some_iff.1 hv).1
  simp only [List.flatMap_cons, Nat.zero_mul, Nat.zero_add]
  rw [List.getElem?_append_left (by rw [he]; exact hj)]; exact hv
 | y :: l, k + 1, x, hk, j, v, hv => by
  simp only [List.getElem?_cons_succ] at hk
  simp only [List.flatMap_cons]
  rw [List.getElem?_append_right (by rw [he]; simp [Nat.add_mul]; omega), he]
  rw [show (k + 1) * s + j - s = k * s + j by simp [Nat.add_mul]; omega]
  exact flat_at he l k x hk j v hv
theorem row_of_whole {α : Type} {enc : α -> List Value} {s : Nat} (he : ∀ x, (enc x).length = s) {W : World} {b : Nat} {t : TypeId} {cs : Array Value} {l : List α} (h : Whole W b t cs) (hcs : cs.toList = l.flatMap enc) : Row enc s W W.heap.size (some ⟨b, 0, none⟩) l := fun _ => by
 refine ⟨b, 0, rfl, h.lt, fun k x hk j v hv => ?_⟩
 have := flat_at he l k x hk j v hv
 rw [<- hcs] at this
 rw [Nat.zero_add]
 exact h.at _ (by simpa using this)
end
section
open Go.RowKit
end
section
open Go.RowKit
end
section
open Go.RowKit
end
section
open Go.ChangeShapes Go.WideShapes Go.ChangeAt Go.RowKit Go.Deep
theorem len2 {α : Type} {l : List α} (h : l.length = 2) : ∃ a b, l = [a, b] := by
 match l, h with
 | [a, b], _ => exact ⟨a, b, rfl⟩
theorem len3 {α : Type} {l : List α} (h : l.length = 3) : ∃ a b c, l = [a, b, c] := by
 match l, h with
 | [a, b, c], _ => exact ⟨a, b, c, rfl⟩
theorem len4 {α : Type} {l : List α} (h : l.length = 4) : ∃ a b c d, l = [a, b, c, d] := by
 match l, h with
 | [a, b, c, d], _ => exact ⟨a, b, c, d, rfl⟩
theorem len6 {α : Type} {l : List α} (h : l.length = 6) : ∃ a b c d e f, l = [a, b, c, d, e, f] := by
 match l, h with
 | [a, b, c, d, e, f], _ => exact ⟨a, b, c, d, e, f, rfl⟩
end
section
open Go.RowKit
end
section
open Go.RowKit

end
section
open Go.RowKit
end
section
open Go.RowKit
variable {P : Program}
def edgeB (l : List Oper) (j k : Nat) : Bool := match l[j]? with
 | some o => o.after.toList.any (fun e => Region.binds .any e && e.on == k)
 | none => false
theorem edge_of {l : List Oper} {j k : Nat} (h : edgeB l j k = true) : ∃ o, l[j]? = some o /\ ∃ e ∈ o.after, Region.binds .any e = true /\ e.on = k := by
 unfold edgeB at h
 cases hj : l[j]? with
 | none => rw [hj] at h; cases h
 | some o =>
  rw [hj] at h
  simp only [List.any_eq_true, Bool.and_eq_true, beq_iff_eq] at h
  obtain ⟨e, he, hb, hon⟩ := h
  exact ⟨o, rfl, e, Array.mem_toList_iff.1 he, hb, hon⟩
end
section
open Go.ChangeShapes Go.WideShapes Go.ChangeAt Go.RowKit Go.Deep
end
section
open Go.RowKit
def goodB (n : Nat) (p : Nat -> Bool) : Bool := (List.range n).all p
theorem goodB_true {n : Nat} {p : Nat -> Bool} (h : ∀ j, j < n -> p j = true) : goodB n p = true := by
 unfold goodB
 rw [List.all_eq_true]
 exact fun x hx => h x (List.mem_range.1 hx)
theorem goodB_false {n j : Nat} {p : Nat -> Bool} (hj : j < n) (h : p j = false) : goodB n p = false := by
 unfold goodB
 rw [List.all_eq_false]
 exact ⟨j, List.mem_range.2 hj, by simp [h]⟩
def goodTo (p : Nat -> Bool) (k : Nat) : Prop := ∀ j, j < k -> p j = true
theorem goodTo_zero (p : Nat -> Bool) : goodTo p 0 := fun _ h => by omega
theorem goodTo_succ {p : Nat -> Bool} {k : Nat} (h : goodTo p k) (hk : p k = true) : goodTo p (k + 1) := fun j hj => by
 rcases Nat.lt_or_ge j k with h1 | h1
 ·exact h j h1
 ·obtain rfl : j = k := by omega
  exact hk
end
section
open Go.RowKit
theorem genQ {P : Program} {c : Code} {Q : Exit -> Act -> World -> Prop} {a : Act} {w : World} (F : World -> Prop) (hF : F w) (h : ∀ w', F w' -> Code.wp P c Q a w') : Code.wp P c Q a w := h w hF
end
section
open Go.RowKit Go.Shelf

end
section
open Go.RowKit Go.Shelf
end
section
open Go.RowKit Go.Shelf
end
section
open Go.ChangeShapes Go.WideShapes Go.ChangeAt Go.RowKit Go.Deep
end
section
open Go.ChangeShapes Go.WideShapes Go.ChangeAt Go.RowKit Go.Deep
theorem sum_take {l : List Int} {k : Nat} {x : Int} (h : l[k]? = some x) : (l.take (k + 1)).sum = (l.take k).sum + x := by
 obtain ⟨hk, rfl⟩ := List.getElem?_eq_some_iff.1 h
 rw [List.take_succ_eq_append_getElem hk, List.sum_append]
 simp
theorem sum_bd {l : List Int} (h : ∀ x ∈ l, 0 <= x /\ x <= 1000000000) : ∀ k : Nat, 0 <= (l.take k).sum /\ (l.take k).sum <= k * 1000000000
 | 0 => by simp
 | k + 1 => by
  have ih := sum_bd h k
  cases hk : l[k]? with
  | none =>
   have : l.length <= k := by simpa using hk
   rw [List.take_of_length_le (by omega)]
   rw [List.take_of_length_le (by omega)] at ih
   omega
  | some x =>
   rw [sum_take hk]
   have := h x (List.mem_of_getElem? hk)
   omega
end
section
open Go.RowKit Go.Shelf

end
section
open Go.RowKit
end

section
open Go.RowKit


end
section
open Go.RowKit
end
section
open Go.RowKit
section
theorem newer_allocH (W : World) (o : Obj) : newer W (W.alloc o) := (Below.refl _ _).alloc (Nat.le_refl _) _
end
def mxI (a b : Int) : Int := if a < b then b else a
def mnI (a b : Int) : Int := if b < a then b else a
end
section
open Go.ChangeMaps (setBlock)
open Go.RowKit
section
variable {K V : Type}
def entL (ek : K -> Value) (ev : V -> Value) : List (K × V) -> Nat -> List MapEntry
 | [], _ => []
 | p :: l, i => { key := ek p.1, val := ev p.2, born := i } :: entL ek ev l (i + 1)
def ents (ek : K -> Value) (ev : V -> Value) (l : List (K × V)) : Array MapEntry := (entL ek ev l 0).toArray
theorem entL_get (ek : K -> Value) (ev : V -> Value) : ∀ (l : List (K × V)) (i j : Nat), (entL ek ev l i)[j]? = l[j]?.map fun p => { key := ek p.1, val := ev p.2, born := i + j }
 | [], _, _ => by simp [entL]
 | _ :: _, _, 0 => by simp [entL]
 | _ :: l, i, j + 1 => by
  simp only [entL, List.getElem?_cons_succ, entL_get ek ev l (i + 1) j]
  rw [show i + 1 + j = i + (j + 1) by omega]
theorem entL_append (ek : K -> Value) (ev : V -> Value) : ∀ (l m : List (K × V)) (i : Nat), entL ek ev (l ++ m) i = entL ek ev l i ++ entL ek ev m (i + l.length)
 | [], m, i => by simp [entL]
 | p :: l, m, i => by
  simp only [List.cons_append, entL, entL_append ek ev l m (i + 1), List.length_cons]
  rw [show i + 1 + l.length = i + (l.length + 1) by omega]
variable [DecidableEq K]
def atR (a : K) : List (K × V) -> Nat -> Option (Nat × V)
 | [], _ => none
 | p :: l, i => if a = p.1 then some (i, p.2) else atR a l (i + 1)
def putR (a : K) (v : V) (l : List (K × V)) : List (K × V) := match atR a l 0 with
 | some (i, _) => l.set i (a, v)
 | none => l ++ [(a, v)]
theorem atR_some {a : K} : ∀ {l : List (K × V)} {i j : Nat} {v : V}, atR a l i = some (j, v) -> i <= j /\ l[j - i]? = some (a, v)
 | p :: l, i, j, v, h => by
  simp only [atR] at h
  by_cases e : a = p.1
  ·rw [if_pos e] at h
   injection h with h
   injection h with h1 h2
   subst h1
   subst h2
   exact ⟨Nat.le_refl _, by simp [e]⟩
  ·rw [if_neg e] at h
   obtain ⟨h1, h2⟩ := atR_some h
   refine ⟨by omega, ?_⟩
   rw [show j - i = (j - (i + 1)) + 1 by omega]
   exact h2
theorem atR_none {a : K} : ∀ {l : List (K × V)} {i : Nat}, atR a l i = none -> ∀ p ∈ l, a ≠ p.1
 | q :: l, i, h, p, hp => by
  simp only [atR] at h
  by_cases e : a = q.1
  ·rw [if_pos e] at h; cases h
  ·rw [if_neg e] at h
   rcases List.mem_cons.1 hp with rfl | hp
   ·exact e
   ·exact atR_none h p hp
structure EqKey (P : Program) (kt : TypeId) (ek : K -> Value) : Prop where
 eq : ∀ (a b : K) (W : World), (Op.equal kt (ek a) (ek b)).run P W = .ok (decide (a = b)) W
 check : ∀ (c : Bool) (a : K) (W : World), (Instr.checkKey c 10000 kt (ek a)).run P W = .ok () W
 bits : ∀ a : K, Instr.sameBits 10000 (ek a) (ek a) = true
 desc : ∃ fs, P.underlying kt = some (.struct fs)
theorem asking_run {P : Program} {kt : TypeId} {ek : K -> Value} (E : EqKey P kt ek) (ev : V -> Value) (a : K) (W : World) : ∀ (l : List (K × V)) (i0 i : Nat), (Instr.findAsking kt (ek a) (entL ek ev l i0) i).run P W = .ok ((atR a l i).map fun p => (p.1, ev p.2)) W
 | [], _, _ => rfl
 | p :: l, i0, i => by
  simp only [entL, Instr.findAsking, Sem.run_bind, E.eq a p.1 W, Result.andThen, atR]
  by_cases e : a = p.1
  ·simp [e]
  ·simp only [e, decide_false, Bool.false_eq_true, if_false]
   exact asking_run E ev a W l (i0 + 1) (i + 1)
omit [DecidableEq K] in
theorem findNow_struct (fs : Array Field) (k : Value) (e : MapEntry) (es : List MapEntry) (i : Nat) : Instr.findNow (.struct fs) k (e :: es) i = none := by
 simp [Instr.findNow, Instr.sameNow]
theorem find_run {P : Program} {kt : TypeId} {ek : K -> Value} (E : EqKey P kt ek) (ev : V -> Value) (a : K) (W : World) (l : List (K × V)) : (Instr.findKey kt (ek a) (ents ek ev l).toList).run P W = .ok ((atR a l 0).map fun p => (p.1, ev p.2)) W := by
 obtain ⟨fs, hd⟩ := E.desc
 unfold Instr.findKey
 simp only [Sem.run_bind, run_underlying hd, Result.andThen, ents]
 cases l with
 | nil => rfl
 | cons p l =>
  have h := asking_run E ev a W (p :: l) 0 0
  simp only [entL] at h ⊢
  rw [findNow_struct]
  exact h
structure RMap (ek : K -> Value) (ev : V -> Value) (b : Nat) (l : List (K × V)) (W : World) : Prop where
 at_ : W.heap[b]? = some (.map (ents ek ev l) l.length)
omit [DecidableEq K] in
theorem RMap.lt {ek : K -> Value} {ev : V -> Value} {b : Nat} {l : List (K × V)} {W : World} (h : RMap ek ev b l W) : b < W.heap.size := (Array.getElem?_eq_some_iff.1 h.at_).1
omit [DecidableEq K] in
theorem RMap.same {ek : K -> Value} {ev : V -> Value} {b : Nat} {l : List (K × V)} {W W' : World} (h : RMap ek ev b l W) (hs : W'.heap[b]? = W.heap[b]?) : RMap ek ev b l W' := ⟨hs.trans h.at_⟩
omit [DecidableEq K] in
theorem RMap.below {ek : K -> Value} {ev : V -> Value} {b B : Nat} {l : List (K × V)} {W W' : World} (h : RMap ek ev b l W) (hb : Below B W W') (hB : b < B) : RMap ek ev b l W' := h.same (hb.block b hB)
omit [DecidableEq K] in
theorem RMap.next {ek : K -> Value} {ev : V -> Value} {b : Nat} {l : List (K × V)} {W W' : World} (h : RMap ek ev b l W) (hb : newer W W') : RMap ek ev b l W' := h.below hb h.lt
omit [DecidableEq K] in
theorem RMap.far {ek : K -> Value} {ev : V -> Value} {b : Nat} {l : List (K × V)} {W : World} (h : RMap ek ev b l W) {p : Addr} (hp : b ≠ p.block) (u : Value) : RMap ek ev b l (W.setCell p u) := h.same (Below.heap_setCell W p u b hp)
omit [DecidableEq K] in
theorem RMap.made (ek : K -> Value) (ev : V -> Value) (W : World) : RMap ek ev W.heap.size [] (W.alloc (.map #[] 0)) := ⟨by simp only [World.alloc, Array.getElem?_push_size]; rfl⟩
theorem lookup_run {P : Program} {kt vt mt : TypeId} {ek : K -> Value} {ev : V -> Value} (E : EqKey P kt ek) (ht : P.underlying mt = some (.map kt vt)) {z : Value} {W : World} (hz : (zeroValue vt).run P W = .ok z W) {b : Nat} {l : List (K × V)} (h : RMap ek ev b l W) (a : K) (ok : Bool) :
  (Instr.lookup mt (.map (some b)) (ek a) ok).run P W = .ok (if ok then .tuple #[((atR a l 0).map fun p => ev p.2).getD z, .bool (atR a l 0).isSome] else ((atR a l 0).map fun p => ev p.2).getD z) W := by
 unfold Instr.lookup
 simp only [Sem.run_bind, run_underlying ht, Result.andThen, MapKept.run_getObj_map h.at_, Sem.run_pure, E.check, find_run E ev a W l]
 cases hh : atR a l 0 with
 | none => simp only [Option.map_none, Sem.run_bind, hz, Result.andThen, Sem.run_pure]; cases ok <;> rfl
 | some p => simp only [Option.map_some]; cases ok <;> rfl
omit [DecidableEq K] in
theorem ents_push (ek : K -> Value) (ev : V -> Value) (l : List (K × V)) (a : K) (v : V) : (ents ek ev l).push { key := ek a, val := ev v, born := l.length } = ents ek ev (l ++ [(a, v)]) := by
 unfold ents
 rw [entL_append]
 simp [entL]
omit [DecidableEq K] in
theorem ents_modify (ek : K -> Value) (ev : V -> Value) (l : List (K × V)) (i : Nat) (a : K) (v v0 : V) (h : l[i]? = some (a, v0)) : (ents ek ev l).modify i (fun e => { e with key := ek a, val := ev v }) = ents ek ev (l.set i (a, v)) := by
 apply Array.ext'
 rw [Array.toList_modify]
 apply List.ext_getElem?
 intro j
 unfold ents
 rw [List.getElem?_modify, entL_get, entL_get, List.getElem?_set]
 by_cases e : i = j
 ·subst e
  have hi := (List.getElem?_eq_some_iff.1 h).1
  rw [h]
  simp [hi]
 ·simp [e]
theorem update_run {P : Program} {kt vt mt : TypeId} {ek : K -> Value} {ev : V -> Value} (E : EqKey P kt ek) (ht : P.underlying mt = some (.map kt vt)) {W : World} {b : Nat} {l : List (K × V)} (h : RMap ek ev b l W) (a : K) (v : V) :
  (Instr.mapUpdate mt (.map (some b)) (ek a) (ev v)).run P W = .ok () (setBlock W b (.map (ents ek ev (putR a v l)) (putR a v l).length)) := by
 unfold Instr.mapUpdate
 simp only [Sem.run_bind, run_underlying ht, Result.andThen, MapKept.run_getObj_map h.at_, E.check, find_run E ev a W l]
 unfold putR
 cases hh : atR a l 0 with
 | none =>
  simp only [Option.map_none, MapKept.run_setObj_map _ h.at_]
  rw [ents_push]
  simp [setBlock]
 | some p =>
  obtain ⟨i, v0⟩ := p
  obtain ⟨_, hi⟩ := atR_some hh
  simp only [Nat.sub_zero] at hi
  have hk : (((ents ek ev l)[i]?).map (·.key)).getD (ek a) = ek a := by
   unfold ents
   simp [entL_get, hi]
  simp only [Option.map_some, Sem.run_bind, hk, Instr.keyThatStays, E.bits a, if_true, Sem.run_pure, Result.andThen, MapKept.run_setObj_map _ h.at_]
  rw [ents_modify ek ev l i a v v0 hi]
  simp [setBlock]
end
theorem setBlock_get_ne {W : World} {b g : Nat} (o : Obj) (h : g ≠ b) : (setBlock W b o).heap[g]? = W.heap[g]? := by
 simp only [setBlock]
 rw [Array.getElem?_setIfInBounds_ne (Ne.symm h)]
section
variable {K V : Type}
theorem RMap.put {ek : K -> Value} {ev : V -> Value} {b : Nat} {l l' : List (K × V)} {W : World} (h : RMap ek ev b l W) : RMap ek ev b l' (setBlock W b (.map (ents ek ev l') l'.length)) :=
 ⟨by simp only [setBlock]; rw [Array.getElem?_setIfInBounds_self_of_lt h.lt]⟩
theorem Whole.setBlock {W : World} {g b : Nat} {t : TypeId} {cs : Array Value} (h : Whole W g t cs) (hne : g ≠ b) (o : Obj) : Whole (Go.ChangeMaps.setBlock W b o) g t cs := (setBlock_get_ne o hne).trans h
variable [DecidableEq K]
theorem wpList_lookup_r {P : Program} (w : World) {ops : Array Oper} {rest : List Oper} {o : Oper} {a : Act} {Q : Exit -> Act -> World -> Prop} (hg : o.guard = none) (m x : Operand) (t : TypeId) (c : Bool) (hop : o.op = Op.lookup t m x c)
  {kt vt : TypeId} {ek : K -> Value} {ev : V -> Value} (E : EqKey P kt ek) (ht : P.underlying t = some (.map kt vt)) {z : Value} (hz : (zeroValue vt).run P w = .ok z w) (b : Nat) (l : List (K × V)) (hm : a.eval m = .map (some b)) (h : RMap ek ev b l w) (k : K) (hx : a.eval x = ek k)
  (hK : wpList P ops Q rest (a.put o.dst (if c then .tuple #[((atR k l 0).map fun p => ev p.2).getD z, .bool (atR k l 0).isSome] else ((atR k l 0).map fun p => ev p.2).getD z)) w) :
  wpList P ops Q (o :: rest) a w := by
 refine wpList_plain hg fun K' hK' => ?_
 unfold Oper.wp
 simp only [execOp, hop, hm, hx, lookup_run E ht hz h k c, Sem.run_bind, Result.andThen]
 exact hK' _ _ hK
theorem wpList_update_r {P : Program} (w : World) {ops : Array Oper} {rest : List Oper} {o : Oper} {a : Act} {Q : Exit -> Act -> World -> Prop} (hg : o.guard = none) (m x v : Operand) (t : TypeId) (hop : o.op = Op.mapUpdate t m x v)
  {kt vt : TypeId} {ek : K -> Value} {ev : V -> Value} (E : EqKey P kt ek) (ht : P.underlying t = some (.map kt vt)) (b : Nat) (l : List (K × V)) (hm : a.eval m = .map (some b)) (h : RMap ek ev b l w) (k : K) (y : V) (hx : a.eval x = ek k) (hv : a.eval v = ev y)
  (hK : wpList P ops Q rest (a.put o.dst undef) (setBlock w b (.map (ents ek ev (putR k y l)) (putR k y l).length))) :
  wpList P ops Q (o :: rest) a w := by
 refine wpList_plain hg fun K' hK' => ?_
 unfold Oper.wp
 simp only [execOp, hop, hm, hx, hv, update_run E ht h k y, Sem.run_bind, Result.andThen]
 exact hK' _ _ hK
end

end
section
open Go.RowKit Go.Shelf
abbrev spotK (p : Int × Int) : Value := .agg #[vi p.1, vi p.2]
theorem spot_bits (a : Int × Int) : Instr.sameBits 10000 (spotK a) (spotK a) = true := by
 have h : ∀ n, Instr.sameBits (n + 1) (spotK a) (spotK a) = true := by
  intro n
  cases n <;> simp [Instr.sameBits]
 exact h 9999
end
section
open Go.RowKit Go.Shelf

end
section
open Go.RowKit Go.Shelf
end
section
open Go.RowKit Go.Shelf
end
section
open Go.RowKit Go.Shelf
end
section
open Go.RowKit
variable {P : Program}
def skAt (sks : List Bool) (i : Nat) : Bool := sks[i]?.getD false
theorem skAt_zero (sks : List Bool) : skAt sks 0 = sks.headD false := by cases sks <;> rfl
theorem skAt_succ (sks : List Bool) (i : Nat) : skAt sks (i + 1) = skAt sks.tail i := by cases sks <;> rfl
def stepsOkS (P : Program) (l : List Oper) (n : Nat) (Q : Exit -> Act -> World -> Prop) (a₀ : Act) (w : World) (G : World -> Prop) (Rl : World -> World -> Prop) (D : Nat -> Value -> World -> Prop) : List Bool -> Nat -> List Oper -> Prop
 | _, _, [] => True
 | sks, i, o :: os => (sks.headD false = true ∨ stepOk P l n Q a₀ w G Rl D i o) /\ stepsOkS P l n Q a₀ w G Rl D sks.tail (i + 1) os
theorem stepsS_get {l : List Oper} {n : Nat} {Q : Exit -> Act -> World -> Prop} {a₀ : Act} {w : World} {G : World -> Prop} {Rl : World -> World -> Prop} {D : Nat -> Value -> World -> Prop} : ∀ (os : List Oper) (sks : List Bool) (k : Nat), stepsOkS P l n Q a₀ w G Rl D sks k os -> ∀ i o, os[i]? = some o -> skAt sks i = true ∨ stepOk P l n Q a₀ w G Rl D (k + i) o
 | [], _, _, _, i, o, h => by simp at h
 | x :: os, sks, k, hs, 0, o, h => by
  simp at h; subst h
  rw [skAt_zero]
  exact hs.1
 | x :: os, sks, k, hs, i + 1, o, h => by
  have := stepsS_get os sks.tail (k + 1) hs.2 i o (by simpa using h)
  rw [skAt_succ, show k + (i + 1) = k + 1 + i by omega]
  exact this
end
section
open Go.RowKit
end

section
open Go.RowKit

end


section
open Go.RowKit
variable {P : Program}
theorem region_late_any {l : List Oper} {n : Nat} {Q : Exit -> Act -> World -> Prop} {a₀ : Act} {w : World} (hB : relB l n = true) (m : Nat) (hmn : m < n) (hmd : ∀ o, l[m]? = some o -> o.dst = none)
  (G : World -> Prop) (D : Bool -> Nat -> Value -> World -> Prop)
  (hDs : ∀ b j v W W', D b j v W -> newer W W' -> D b j v W')
  (hsz : ∀ i o d, i < n -> l[i]? = some o -> o.dst = some d -> d < a₀.tmps.size)
  (hG : G w)
  (hstep : ∀ i o, i < n -> i ≠ m -> l[i]? = some o -> ∀ b, ((∃ om, l[m]? = some om /\ ∃ e ∈ om.after, Region.binds .any e = true /\ e.on = i) -> b = false) -> ∀ a W, G W -> Outer l n a₀ a ->
   (∀ j oj d, j < n -> l[j]? = some oj -> oj.dst = some d -> (∃ e ∈ o.after, Region.binds .any e = true /\ e.on = j) -> D b j (slotOf a d) W) ->
   o.wp P a W (fun a' W' => ∃ v, a' = a.put o.dst v /\ D b i v W' /\ newer W W' /\ G W') Q)
  (hlate : ∀ o, l[m]? = some o -> ∀ a W, G W -> Outer l n a₀ a ->
   (∀ j oj d, j < n -> l[j]? = some oj -> oj.dst = some d -> (∃ e ∈ o.after, Region.binds .any e = true /\ e.on = j) -> D false j (slotOf a d) W) ->
   o.wp P a W (fun a' W' => a' = a /\ G W' /\ ∀ j oj d, j < n -> l[j]? = some oj -> oj.dst = some d -> D false j (slotOf a d) W -> D true j (slotOf a d) W') Q)
  (htail : ∀ a W, G W -> Outer l n a₀ a -> (∀ j oj d, j < n -> l[j]? = some oj -> oj.dst = some d -> D true j (slotOf a d) W) -> wpList P l.toArray Q (l.drop n) a W) :
  wpAny P .any l.toArray Q l.toArray.size (Array.replicate l.toArray.size false) a₀ w := by
 simp only [relB, Bool.and_eq_true, decide_eq_true_eq] at hB
 obtain ⟨⟨⟨⟨⟨hn, hs⟩, hc⟩, hback⟩, hdst⟩, hseq⟩ := hB
 have hback' : ∀ (i : Nat) (o : Oper), l[i]? = some o -> (∀ e ∈ o.after, Region.binds .any e = true -> e.on < i) /\ o.guard = none := by
  intro i o ho
  have := List.all_eq_true.1 hback i (List.mem_range.2 (List.getElem?_eq_some_iff.1 ho).1)
  simp only [ho, Bool.and_eq_true, Array.all_eq_true_iff_forall_mem] at this
  exact ⟨fun e he hb => by simpa [hb] using this.1 e he, by simpa using this.2⟩
 have hdst' : ∀ (i j : Nat) (o o' : Oper) (d : Tmp), i < n -> j < n -> i ≠ j -> l[i]? = some o -> l[j]? = some o' -> o.dst = some d -> o'.dst ≠ some d := by
  intro i j o o' d hi hj hij ho ho' hd hd'
  have := List.all_eq_true.1 (List.all_eq_true.1 hdst i (List.mem_range.2 hi)) j (List.mem_range.2 hj)
  simp [hij, ho, ho', hd, hd'] at this
 have key : ∀ (f : Nat) (listed : Array Bool) (a : Act) (W : World), HeadInv .any l.toArray n listed -> ((List.range n).filter fun i => !listed.getD i false).length = f ->
   G W -> Outer l n a₀ a -> (∀ (j : Nat) (oj : Oper) (d : Tmp), j < n -> l[j]? = some oj -> listed.getD j false = true -> oj.dst = some d -> D (listed.getD m false) j (slotOf a d) W) ->
   wpAny P .any l.toArray Q (f + (l.length - n)) listed a W := by
  intro f
  induction f with
  | zero =>
   intro listed a W inv hcnt hGW hO hD
   have hall : ∀ i, i < n -> listed.getD i false = true := by
    intro i hi
    have := List.eq_nil_of_length_eq_zero hcnt
    have h2 := List.filter_eq_nil_iff.1 this i (List.mem_range.2 hi)
    simpa using h2
   have hcanon : listed = headDone n l.length := by
    apply Array.ext
    ·rw [inv.size]; simp [headDone]
    ·intro i h1 h2
     have hi : i < l.length := by simpa [headDone] using h2
     simp only [headDone, Array.getElem_ofFn]
     by_cases hin : i < n
     ·have := hall i hin
      simp [h1] at this
      simp [this, hin]
     ·have := inv.tail i (by omega) (by simpa using hi)
      simp [h1] at this
      simp [this, hin]
   rw [Nat.zero_add]
   have := wpAny_of_seq (md := .any) (Q' := Q) (P := P) (ops := l.toArray) (l.drop n) n listed a W (fun j => by simp [List.getElem?_drop]) (by rw [List.length_drop, hcanon]; exact hseq) (htail a W hGW hO (fun j oj d hj ho hd => by have := hD j oj d hj ho (hall j hj) hd; rw [hall m hmn] at this; exact this))
   rwa [List.length_drop] at this
  | succ f ih =>
   intro listed a W inv hcnt hGW hO hD
   -- some operation of the head has not come up
   have hex : ∃ i, i < n /\ listed.getD i false = false /\ ∀ j, j < i -> listed.getD j false = true := by
    have hne : ((List.range n).filter fun i => !listed.getD i false) ≠ [] := by intro h; rw [h] at hcnt; cases hcnt
    have : ∃ i, i < n /\ listed.getD i false = false := by
     obtain ⟨x, hx⟩ := List.exists_mem_of_ne_nil _ hne
     have hx' := List.mem_filter.1 hx
     exact ⟨x, List.mem_range.1 hx'.1, by simpa using hx'.2⟩
    obtain ⟨i, hi, hl⟩ := this
    have : ∀ k i, i <= k -> i < n -> listed.getD i false = false -> ∃ i, i < n /\ listed.getD i false = false /\ ∀ j, j < i -> listed.getD j false = true := by
     intro k
     induction k with
     | zero => intro i hik hi hl; exact ⟨i, hi, hl, fun j hj => by omega⟩
     | succ k ihk =>
      intro i hik hi hl
      by_cases h : ∃ j, j < i /\ listed.getD j false = false
      ·obtain ⟨j, hj, hjl⟩ := h
       exact ihk j (by omega) (by omega) hjl
      ·refine ⟨i, hi, hl, fun j hj => ?_⟩
       cases hh : listed.getD j false with
       | true => rfl
       | false => exact absurd ⟨j, hj, hh⟩ h
    exact this i i (Nat.le_refl _) hi hl
   obtain ⟨i₀, hi₀, hun₀, hbelow⟩ := hex
   have hi₀s : i₀ < listed.size := by rw [inv.size]; simp; omega
   have hl₀ : listed.getD i₀ true = false := getD_in hi₀s hun₀
   have hready₀ : i₀ ∈ Region.ready .any l.toArray listed := by
    have ho : l[i₀]? = some l[i₀] := List.getElem?_eq_getElem (by omega)
    refine mem_ready.2 ⟨hl₀, l[i₀], by simp, fun e he hb => hbelow _ ((hback' i₀ _ ho).1 e he hb)⟩
   rw [show f + 1 + (l.length - n) = f + (l.length - n) + 1 by omega]
   refine ⟨fun h => (by rw [h] at hready₀; cases hready₀), fun i hi => ?_⟩
   have hin : i < n := by
    rcases Nat.lt_or_ge i n with h | h
    ·exact h
    ·exact absurd hi (tail_waits hs hc (by simpa using hn) inv _ i₀ rfl hi₀ hl₀ i h)
   obtain ⟨hiun, o, ho, hall⟩ := mem_ready.1 hi
   have ho' : l[i]? = some o := by simpa using ho
   unfold wpOp
   simp only [ho]
   have hw : Region.wanted o (yielded l.toArray a.tmps) = true := by simp [Region.wanted, (hback' i o ho').2]
   rw [if_pos hw]
   have hiun' : listed.getD i false = false := getD_both hiun
   have his : i < listed.size := by rw [inv.size]; simp; omega
   have hcount : ((List.range n).filter fun j => !(listed.setIfInBounds i true).getD j false).length = f := by
    have e1 : ((List.range n).filter fun j => !(listed.setIfInBounds i true).getD j false) = ((List.range n).filter fun j => !listed.getD j false).filter (fun j => decide (j ≠ i)) := by
     rw [List.filter_filter]
     apply List.filter_congr
     intro j _
     by_cases hji : j = i
     ·subst hji; simp [his]
     ·rw [getD_set_ne false (Ne.symm hji)]; simp [hji]
    rw [e1]
    have hnd : ((List.range n).filter fun j => !listed.getD j false).Nodup := List.nodup_range.filter _
    have hmem : i ∈ ((List.range n).filter fun j => !listed.getD j false) := List.mem_filter.2 ⟨List.mem_range.2 hin, by simp [hiun']⟩
    have := filter_ne_length i _ hnd hmem
    omega
   by_cases him : i = m
   ·subst him
    rw [hiun'] at hD
    have hdn := hmd o ho'
    have hst := hlate o ho' a W hGW hO (fun j oj d hj hoj hd ⟨e, he, hb, hon⟩ => hD j oj d hj hoj (by rw [<- hon]; exact hall e he hb) hd)
    refine .inl (Oper.wp_mono ?_ hst)
    rintro a' W' ⟨rfl, hGv, hkeep⟩
    refine ih _ _ _ (inv.set hi hin) hcount hGv hO ?_
    intro j oj d hj hoj hlj hd
    have hmt : (listed.setIfInBounds i true).getD i false = true := by simp [his]
    rw [hmt]
    by_cases hji : j = i
    ·subst hji
     rw [hoj] at ho'
     injection ho' with ho'
     subst ho'
     rw [hdn] at hd
     cases hd
    ·rw [getD_set_ne false (Ne.symm hji)] at hlj
     exact hkeep j oj d hj hoj hd (hD j oj d hj hoj hlj hd)
   ·have hst := hstep i o hin him ho' (listed.getD m false) (fun hp => by
     cases hm : listed.getD m false with
     | false => rfl
     | true =>
      obtain ⟨om, hom, hin2⟩ := hp
      have := inv.closed m om (by simpa using hom) hm
      obtain ⟨e, he, hb, hon⟩ := hin2
      have h2 := this e he hb
      rw [hon, hiun'] at h2
      cases h2) a W hGW hO (fun j oj d hj hoj hd ⟨e, he, hb, hon⟩ => hD j oj d hj hoj (by rw [<- hon]; exact hall e he hb) hd)
    refine .inl (Oper.wp_mono ?_ hst)
    rintro a' W' ⟨v, rfl, hDv, hRv, hGv⟩
    have hOut : Outer l n a₀ (a.put o.dst v) := by
     refine ⟨?_, ?_, fun t ht => ?_⟩
     ·cases hd : o.dst <;> simp [Act.put, hO.defers]
     ·cases hd : o.dst <;> simp [Act.put, hO.size]
     ·cases hd : o.dst with
      | none => simpa [Act.put] using hO.same t ht
      | some d =>
       have hne : d ≠ t := fun h => ht i o hin ho' (by rw [hd, h])
       simp only [Act.put]
       rw [Array.getElem?_setIfInBounds_ne hne]
       exact hO.same t ht
    refine ih _ _ _ (inv.set hi hin) hcount hGv hOut ?_
    intro j oj d hj hoj hlj hd
    rw [getD_set_ne false him]
    by_cases hji : j = i
    ·subst hji
     have : oj = o := Option.some.inj (hoj.symm.trans ho')
     subst this
     have hds : d < a.tmps.size := by rw [hO.size]; exact hsz j oj d hj hoj hd
     rw [hd, slot_put_same hds]
     exact hDv
    ·rw [getD_set_ne false (Ne.symm hji)] at hlj
     have hold := hDs _ j _ W W' (hD j oj d hj hoj hlj hd) hRv
     cases hdo : o.dst with
     | none => simpa [Act.put] using hold
     | some d' =>
      have hne : d ≠ d' := fun h => hdst' j i oj o d hj hin hji hoj ho' hd (by rw [hdo, h])
      rw [slot_put_other hne]
      exact hold
 have inv0 : HeadInv .any l.toArray n (Array.replicate l.toArray.size false) :=
  ⟨by simp, fun j oj _ hl => (by rw [getD_replicate_false] at hl; cases hl), fun t _ ht => getD_in (by simpa using ht) (getD_replicate_false _ _)⟩
 have := key n _ a₀ w inv0 (by
  have : ((List.range n).filter fun i => !(Array.replicate l.toArray.size false).getD i false) = List.range n := List.filter_eq_self.2 (fun i _ => by rw [getD_replicate_false]; rfl)
  rw [this, List.length_range]) hG ⟨rfl, rfl, fun _ _ => rfl⟩ (fun j oj d _ _ hl => by rw [getD_replicate_false] at hl; cases hl)
 rw [show n + (l.length - n) = l.toArray.size by simp; omega] at this
 exact this
def predB (l : List Oper) (m i : Nat) : Bool := match l[m]? with
 | some o => o.after.toList.any fun e => Region.binds .any e && decide (e.on = i)
 | none => false
def stepL (P : Program) (l : List Oper) (n m : Nat) (Q : Exit -> Act -> World -> Prop) (a₀ : Act) (G : World -> Prop) (D : Bool -> Nat -> Value -> World -> Prop) (i : Nat) (o : Oper) : Prop :=
 match Nat.beq i m with
 | true => ∀ a W, G W -> Outer l n a₀ a -> preds l (D false) a W o.after.toList -> o.wp P a W (fun a' W' => a' = a /\ G W' /\ ∀ j oj d, j < n -> l[j]? = some oj -> oj.dst = some d -> D false j (slotOf a d) W -> D true j (slotOf a d) W') Q
 | false => match predB l m i with
  | true => ∀ a W, G W -> Outer l n a₀ a -> preds l (D false) a W o.after.toList -> o.wp P a W (fun a' W' => ∃ v, a' = a.put o.dst v /\ D false i v W' /\ newer W W' /\ G W') Q
  | false => ∀ b a W, G W -> Outer l n a₀ a -> preds l (D b) a W o.after.toList -> o.wp P a W (fun a' W' => ∃ v, a' = a.put o.dst v /\ D b i v W' /\ newer W W' /\ G W') Q
def stepsL (P : Program) (l : List Oper) (n m : Nat) (Q : Exit -> Act -> World -> Prop) (a₀ : Act) (G : World -> Prop) (D : Bool -> Nat -> Value -> World -> Prop) : Nat -> List Oper -> Prop
 | _, [] => True
 | i, o :: os => stepL P l n m Q a₀ G D i o /\ stepsL P l n m Q a₀ G D (i + 1) os
theorem stepsL_get {l : List Oper} {n m : Nat} {Q : Exit -> Act -> World -> Prop} {a₀ : Act} {G : World -> Prop} {D : Bool -> Nat -> Value -> World -> Prop} : ∀ (os : List Oper) (k : Nat), stepsL P l n m Q a₀ G D k os -> ∀ i o, os[i]? = some o -> stepL P l n m Q a₀ G D (k + i) o
 | [], _, _, i, o, h => by simp at h
 | x :: os, k, hs, 0, o, h => by simp at h; subst h; exact hs.1
 | x :: os, k, hs, i + 1, o, h => by
  have := stepsL_get os (k + 1) hs.2 i o (by simpa using h)
  rw [show k + (i + 1) = k + 1 + i by omega]
  exact this
theorem region_late {l : List Oper} (n m : Nat) {Q : Exit -> Act -> World -> Prop} {a₀ : Act} {w : World} (hB : relB l n = true) (hz : szOk a₀.tmps.size (l.take n) = true) (hmn : m < n) (hmd' : (match l[m]? with | some o => o.dst.isNone | none => true) = true)
  (G : World -> Prop) (D : Bool -> Nat -> Value -> World -> Prop) (hDs : ∀ b j v W W', D b j v W -> newer W W' -> D b j v W')
  (hG : G w) (hstep : stepsL P l n m Q a₀ G D 0 (l.take n))
  (htail : ∀ W, G W -> tailsOk (D true) W (fun a => wpList P l.toArray Q (l.drop n) a W) 0 (l.take n) a₀) :
  wpAny P .any l.toArray Q l.toArray.size (Array.replicate l.toArray.size false) a₀ w := by
 have htake : ∀ (i : Nat) (o : Oper), i < n -> l[i]? = some o -> (l.take n)[i]? = some o := fun i o hi ho => by rw [List.getElem?_take, if_pos hi]; exact ho
 have hback : ∀ (i : Nat) (o : Oper), i < n -> l[i]? = some o -> ∀ e ∈ o.after, Region.binds .any e = true -> e.on < n := by
  have hB' := hB
  simp only [relB, Bool.and_eq_true, decide_eq_true_eq] at hB'
  obtain ⟨⟨⟨⟨⟨_, _⟩, _⟩, hback⟩, _⟩, _⟩ := hB'
  intro i o hi ho e he hbd
  have := List.all_eq_true.1 hback i (List.mem_range.2 (List.getElem?_eq_some_iff.1 ho).1)
  simp only [ho, Bool.and_eq_true, Array.all_eq_true_iff_forall_mem] at this
  have h2 : e.on < i := by simpa [hbd] using this.1 e he
  omega
 have hmd : ∀ o, l[m]? = some o -> o.dst = none := fun o ho => by
  rw [ho] at hmd'
  simpa using hmd'
 refine region_late_any hB m hmn hmd G D hDs (fun i o d hi ho hd => sz_of _ hz i o d (htake i o hi ho) hd) hG ?_ ?_ ?_
 ·intro i o hi him ho b hb a W hGW hO hp
  have h := stepsL_get _ _ hstep i o (htake i o hi ho)
  rw [Nat.zero_add] at h
  unfold stepL at h
  have hm : Nat.beq i m = false := by
   cases hq : Nat.beq i m with
   | false => rfl
   | true => exact absurd (Nat.eq_of_beq_eq_true hq) him
  rw [hm] at h
  cases hpb : predB l m i with
  | true =>
   rw [hpb] at h
   obtain rfl : b = false := hb (by
    unfold predB at hpb
    cases hom : l[m]? with
    | none => rw [hom] at hpb; cases hpb
    | some om =>
     rw [hom] at hpb
     obtain ⟨e, he, h2⟩ := List.any_eq_true.1 hpb
     rw [Bool.and_eq_true, decide_eq_true_eq] at h2
     exact ⟨om, rfl, e, by simpa using he, h2.1, h2.2⟩)
   exact h a W hGW hO (preds_of o (hback i o hi ho) hp)
  | false =>
   rw [hpb] at h
   exact h b a W hGW hO (preds_of o (hback i o hi ho) hp)
 ·intro o ho a W hGW hO hp
  have h := stepsL_get _ _ hstep m o (htake m o hmn ho)
  rw [Nat.zero_add] at h
  unfold stepL at h
  have hm : Nat.beq m m = true := Nat.beq_refl m
  rw [hm] at h
  exact h a W hGW hO (preds_of o (hback m o hmn ho) hp)
 ·intro a W hGW hO hd
  have hh : heads (D true) a W 0 (l.take n) := heads_of _ _ fun j oj d hj hdd => by
   rw [List.getElem?_take] at hj
   split at hj
   ·rename_i hjn
    rw [Nat.zero_add]
    exact hd j oj d hjn hj hdd
   ·cases hj
  have := tails_filled _ _ _ hh (htail W hGW)
  rwa [filled_eq hO] at this
def pickB (p q : List (Value -> World -> Prop)) (b : Bool) : Nat -> Value -> World -> Prop := match b with
 | true => pickD q
 | false => pickD p
theorem pickB_stable {p q : List (Value -> World -> Prop)} (hp : allStable newer p) (hq : allStable newer q) : ∀ b i v W W', pickB p q b i v W -> newer W W' -> pickB p q b i v W'
 | true => pickD_stable q hq
 | false => pickD_stable p hp
end
section
open Go.RowKit
theorem own_room {w : World} {base : Nat} {e : TypeId} {size n cap : Nat} {a : Option Addr} {xs : List Value} (h : w.ownsRow base e size (.slice a n cap) n xs) : n <= cap /\ cap <= maxLen := by
 rcases h.2 with ⟨e1, e2⟩ | ⟨g', cap', cur, e1, _, _, h1, h2, _⟩
 ·injection e1 with _ e3 e4
  subst e3
  subst e4
  exact ⟨Nat.le_refl _, by unfold maxLen; omega⟩
 ·injection e1 with _ _ e4
  subst e4
  exact ⟨h1, h2⟩
theorem wp_stores {P : Program} {o : Oper} {a : Act} {W W' : World} {K : Act -> World -> Prop} {Q : Exit -> Act -> World -> Prop} (h : (execOp a.eval o).run P W = .ok .skip W') (hk : K (a.put o.dst undef) W') : o.wp P a W K Q := by
 unfold Oper.wp
 rw [h]
 exact hk
end
section
open Go.RowKit
theorem wp_storesE {P : Program} {o : Oper} {a : Act} {W W' : World} {K : Act -> World -> Prop} {Q : Exit -> Act -> World -> Prop} (h : (execOp a.eval o).run P W = .ok .skip W') (hk : K (a.put o.dst undef) W') : o.wp P a W K Q := by
 unfold Oper.wp
 rw [h]
 exact hk
end
end

end Go.Proofs.Ytcdhhfgpdokkoaa
