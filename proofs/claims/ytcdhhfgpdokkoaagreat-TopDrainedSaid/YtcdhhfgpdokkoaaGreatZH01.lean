/- What the last text of this chain needs: G, GA. -/
import Derived.WalkKit
import Derived.WalkSpells
import Derived.WalkLawsBesides
import Derived.Lib.Hide
import Derived.Deep.QuietTactic
import Derived.BigQuiet
import Derived.Deep.RegionHeld3
import Derived.BigRegion
import Derived.Deep.DeepCutAuto
import Derived.StillTailTactics
import Derived.RangeFuncNested
import Derived.RangeFuncCalls
import Derived.RangeFuncLeaves
import Derived.OrdersHeld
import Derived.OrdersIn
import Derived.RangeFuncBound
import Derived.Shelf.Abstract
import Derived.Shelf.RegionOpen
import Derived.OwnWalkIn
import Derived.TacticsInMore
import Derived.LoopNIn
import Derived.LoopIn
import Derived.StillTail
import Derived.Laws.CopyOwn
import Derived.Outline
import Derived.Laws.EntriesVeiled
import Derived.Deep.AppendLies
import Derived.Laws.MakeOwn
import Derived.Laws.OwnMore
import Derived.ArgAppend
import Derived.ProofKit
import Derived.OpenShut
import Derived.ShutString
import Derived.ChangeOld
import Derived.Below
import Derived.Deep.Slices
import Derived.Laws.Cover3
import Derived.Deep.CutBlock
import Derived.Maps.Own
import Derived.Maps.OwnOps
import Derived.Maps.RangeRun
import Derived.Maps.RangeWalk
import Derived.Laws.Cells
import Derived.Laws.Tables
import Derived.Laws.Rows
import Derived.DeepKeys3
import Derived.Deep.DeepAppendRoom
import Derived.Great.BuildSlice
import Derived.WalkMore
import Derived.Test.YtcdhhfgpdokkoaaGreatProg
import Derived.Test.YtcdhhfgpdokkoaaGreatChecked
import Derived.Test.YtcdhhfgpdokkoaaGreatRows
namespace Go.Proofs.YtcdhhfgpdokkoaaGreat
section
section
open Go.RowKit
abbrev vi (n : Int) : Value := .int .i64 n
abbrev intL (n : Int) : List Value := [vi n]
def inB (n lo hi : Int) : Bool := decide (lo <= n) && decide (n <= hi)
def upB (lo hi most : Int) : Bool := decide (0 <= lo) && decide (lo <= hi) && decide (hi <= most)
def Row {α : Type} (enc : α -> List Value) (s : Nat) (w : World) (B : Nat) (A : Option Addr) (l : List α) : Prop :=
 l ≠ [] -> ∃ b off, A = some ⟨b, off, none⟩ /\ b < B /\ ∀ (k : Nat) (x : α), l[k]? = some x -> ∀ (j : Nat) (v : Value), (enc x)[j]? = some v -> w.cell? ⟨b, off + k * s + j, none⟩ = some v
section
variable {α : Type} {enc : α -> List Value} {s B B' : Nat} {w w' : World} {A : Option Addr} {l : List α}
theorem Row.keep (h : Row enc s w B A l) (hk : ∀ p : Addr, p.block < B -> w'.cell? p = w.cell? p) : Row enc s w' B A l := fun hl => by
 obtain ⟨b, off, e, hb, hc⟩ := h hl
 exact ⟨b, off, e, hb, fun k x hx j v hv => (hk _ hb).trans (hc k x hx j v hv)⟩
theorem Row.below (h : Row enc s w B A l) (hb : Below B w w') : Row enc s w' B A l := h.keep fun _ hp => hb.cell hp
theorem Row.more (h : Row enc s w B A l) (hB : B <= B') : Row enc s w B' A l := fun hl => by
 obtain ⟨b, off, e, hb, hc⟩ := h hl
 exact ⟨b, off, e, by omega, hc⟩
theorem Row.nil (A : Option Addr) : Row enc s w B A [] := fun h => absurd rfl h
theorem ne_nil_of_get {k : Nat} {x : α} (h : l[k]? = some x) : l ≠ [] := by rintro rfl; simp at h
theorem get_of_lt {k : Nat} (h : k < l.length) : ∃ x, l[k]? = some x := ⟨l[k], List.getElem?_eq_getElem h⟩
end
theorem row1 {w : World} {B : Nat} {A : Option Addr} {l : List Int} (h : Row intL 1 w B A l) {k : Nat} {c : Int} (hk : l[k]? = some c) :
  ∃ b off, A = some ⟨b, off, none⟩ /\ b < B /\ w.cell? ⟨b, off + k, none⟩ = some (.int .i64 c) := by
 obtain ⟨b, off, e, hb, hc⟩ := h (ne_nil_of_get hk)
 exact ⟨b, off, e, hb, by simpa using hc k c hk 0 _ rfl⟩
theorem below_step {B : Nat} {a b c : World} (h : Below B a b) (k : Below b.heap.size b c) (hB : B <= b.heap.size) : Below B a c := h.trans (k.mono hB)
theorem below_next {a b c : World} (h : Below a.heap.size a b) (k : Below b.heap.size b c) : Below a.heap.size a c := h.trans (k.mono h.size)
theorem ret_int {k : IntKind} {a b : Int} (h : a = b) : Ending.returned (.int k a) = .returned (.int k b) := by rw [h]
theorem ret_bool {a b : Bool} (h : a = b) : Ending.returned (.bool a) = .returned (.bool b) := by rw [h]
theorem cell_alloc {w : World} {p : Addr} {v : Value} (h : w.cell? p = some v) (o : Obj) : (w.alloc o).cell? p = some v :=
 (World.cell?_alloc_lt _ _ _ (World.block_lt_of_cell? w _ h)).trans h
end
section
open Go.RowKit
def idx {α : Type} (p : α -> Bool) (l : List α) : Int :=
 match l.findIdx? p with
 | some i => (i : Int)
 | none => -1
theorem idx_here {α : Type} (p : α -> Bool) (l : List α) (k : Nat) (c : α) (hk : l[k]? = some c) (hc : p c = true) (hb : ∀ j x, j < k -> l[j]? = some x -> p x = false) : idx p l = (k : Int) := by
 have hlt : k < l.length := (List.getElem?_eq_some_iff.1 hk).1
 have : l.findIdx? p = some k := by
  rw [List.findIdx?_eq_some_iff_getElem]
  refine ⟨hlt, ?_, fun j hj => ?_⟩
  ·rw [(List.getElem?_eq_some_iff.1 hk).2]; exact hc
  ·rw [hb j _ hj (List.getElem?_eq_getElem (by omega))]; simp
 unfold idx
 rw [this]
theorem idx_none {α : Type} (p : α -> Bool) (l : List α) (hb : ∀ j x, j < l.length -> l[j]? = some x -> p x = false) : idx p l = -1 := by
 have : l.findIdx? p = none := by
  rw [List.findIdx?_eq_none_iff]
  intro x hx
  obtain ⟨j, hj, rfl⟩ := List.mem_iff_getElem.1 hx
  exact hb j _ hj (List.getElem?_eq_getElem hj)
 unfold idx
 rw [this]
theorem idx_all {α : Type} (p : α -> Bool) (l : List α) : (!decide (0 <= idx (fun c => !p c) l)) = l.all p := by
 unfold idx
 cases h : l.findIdx? (fun c => !p c) with
 | none =>
  rw [List.findIdx?_eq_none_iff] at h
  have : l.all p = true := List.all_eq_true.2 fun x hx => by simpa using h x hx
  rw [this]; rfl
 | some i =>
  have h2 : l.all p = false := by
   rw [List.findIdx?_eq_some_iff_getElem] at h
   obtain ⟨hi, hp, _⟩ := h
   rw [List.all_eq_false]
   exact ⟨l[i], List.getElem_mem hi, by simpa using hp⟩
  rw [h2]
  simp
def early {α : Type} (p : α -> Bool) (l : List α) (k : Nat) : Prop := ∀ j x, j < k -> l[j]? = some x -> p x = false
theorem early_zero {α : Type} (p : α -> Bool) (l : List α) : early p l 0 := fun _ _ h => by omega
theorem early_succ {α : Type} {p : α -> Bool} {l : List α} {k : Nat} {c : α} (h : early p l k) (hk : l[k]? = some c) (hc : p c = false) : early p l (k + 1) := fun j x hj hx => by
 rcases Nat.lt_or_ge j k with h1 | h1
 ·exact h j x h1 hx
 ·have : j = k := by omega
  subst this
  rw [hk] at hx; cases hx; exact hc
end
section
open Go.RowKit
def errB (b : Bool) : Int := if b = true then 0 else 1
theorem bcell {W w1 : World} (hb : Below W.heap.size W w1) : (∀ b o, b < W.heap.size -> w1.cell? ⟨b, o, none⟩ = W.cell? ⟨b, o, none⟩) /\ (∀ b o, b < W.heap.size -> w1.frozen? ⟨b, o, none⟩ = W.frozen? ⟨b, o, none⟩) :=
 ⟨fun b o h => hb.cell (p := ⟨b, o, none⟩) h, fun b o h => hb.frozen (p := ⟨b, o, none⟩) h⟩
end
section
open Go.RowKit
def Whole (w : World) (g : Nat) (t : TypeId) (cs : Array Value) : Prop := w.heap[g]? = some (.cells cs t (0, 0))
section
variable {w w' : World} {g : Nat} {t : TypeId} {cs : Array Value}
theorem Whole.lt (h : Whole w g t cs) : g < w.heap.size := (Array.getElem?_eq_some_iff.1 h).1
theorem Whole.at (h : Whole w g t cs) (i : Nat) {v : Value} (hv : cs[i]? = some v) : w.cell? ⟨g, i, none⟩ = some v := by
 unfold Whole at h
 simp [World.cell?, h, hv]
theorem Whole.free (h : Whole w g t cs) (i : Nat) : w.frozen? ⟨g, i, none⟩ = false := by
 unfold Whole at h
 simp [World.frozen?, h]
theorem Whole.made (w : World) (t : TypeId) (cs : Array Value) : Whole (w.alloc (.cells cs t)) w.heap.size t cs := by
 show (w.heap.push _)[w.heap.size]? = _
 simp
theorem Whole.same (h : Whole w g t cs) (hs : w'.heap[g]? = w.heap[g]?) : Whole w' g t cs := hs.trans h
theorem Whole.alloc (h : Whole w g t cs) (o : Obj) : Whole (w.alloc o) g t cs := h.same (Below.heap_alloc w o g h.lt)
theorem Whole.set (h : Whole w g t cs) (i : Nat) (u : Value) : Whole (w.setCell ⟨g, i, none⟩ u) g t (cs.setIfInBounds i u) := by
 unfold Whole at h ⊢
 simp [World.setCell, Array.getElem?_modify, h]
theorem Whole.far (h : Whole w g t cs) {p : Addr} (hp : g ≠ p.block) (u : Value) : Whole (w.setCell p u) g t cs := h.same (Below.heap_setCell w p u g hp)
theorem Whole.below {B : Nat} (h : Whole w g t cs) (hb : Below B w w') (hg : g < B) : Whole w' g t cs := h.same (hb.block g hg)
theorem Whole.grown {row : Option Nat} (h : Whole w g t cs) (hb : w.grownBy w' row) (hg : some g ≠ row) : Whole w' g t cs := h.same (hb.block g h.lt hg)
end
theorem grown_refl (w : World) (row : Option Nat) : w.grownBy w row := ⟨rfl, rfl, rfl, Nat.le_refl _, fun _ _ _ => rfl⟩
theorem grown_alloc {a w : World} {row : Option Nat} (h : a.grownBy w row) (o : Obj) : a.grownBy (w.alloc o) row :=
 ⟨h.os, h.tape, h.output, Nat.le_trans h.size (by simp), fun i hi hne => (Below.heap_alloc w o i (Nat.lt_of_lt_of_le hi h.size)).trans (h.block i hi hne)⟩
theorem grown_set {a w : World} {g : Nat} (h : a.grownBy w (some g)) {p : Addr} (hp : p.block = g ∨ a.heap.size <= p.block) (u : Value) : a.grownBy (w.setCell p u) (some g) :=
 ⟨h.os, h.tape, h.output, by simpa [World.setCell] using h.size, fun i hi hne => (Below.heap_setCell w p u i (by
  rintro rfl
  rcases hp with hp | hp
  ·exact hne (by rw [hp])
  ·omega)).trans (h.block i hi hne)⟩
theorem grown_drewN {a w : World} {row : Option Nat} (h : a.grownBy w row) (n : Nat) : a.grownBy (w.drewN n) row := ⟨h.os, h.tape, h.output, h.size, h.block⟩
theorem grown_below {a w w' : World} {row : Option Nat} (h : a.grownBy w row) (hb : Below w.heap.size w w') : a.grownBy w' row :=
 ⟨hb.os.trans h.os, hb.tape.trans h.tape, hb.output.trans h.output, Nat.le_trans h.size hb.size, fun i hi hne => (hb.block i (Nat.lt_of_lt_of_le hi h.size)).trans (h.block i hi hne)⟩
theorem grown_trans {a b c : World} {g : Nat} (h : a.grownBy b (some g)) (k : b.grownBy c (some g)) : a.grownBy c (some g) :=
 ⟨k.os.trans h.os, k.tape.trans h.tape, k.output.trans h.output, Nat.le_trans h.size k.size, fun i hi hne => (k.block i (Nat.lt_of_lt_of_le hi h.size) hne).trans (h.block i hi hne)⟩
theorem below_of_grown {B : Nat} {a w : World} {g : Nat} (h : a.grownBy w (some g)) (hg : B <= g) (hB : B <= a.heap.size) : Below B a w :=
 ⟨h.os, h.tape, h.output, h.size, fun k hk => h.block k (by omega) (fun e => by injection e; omega)⟩
def upd (f : Nat -> Int) (k : Nat) (x : Int) : Nat -> Int := fun i => if i = k then x else f i
theorem lt8 {k : Nat} (h : k < 8) : k = 0 ∨ k = 1 ∨ k = 2 ∨ k = 3 ∨ k = 4 ∨ k = 5 ∨ k = 6 ∨ k = 7 := by omega
end
section
open Go.RowKit
def nowCs (f : Nat -> Int) : Array Value := #[vi (f 0), vi (f 1), vi (f 2), vi (f 3), vi (f 4), vi (f 5), vi (f 6), vi (f 7)]
theorem nowCs_at (f : Nat -> Int) {k : Nat} (h : k < 8) : (nowCs f)[k]? = some (vi (f k)) := by
 rcases lt8 h with rfl | rfl | rfl | rfl | rfl | rfl | rfl | rfl <;> rfl
theorem nowCs_set (f : Nat -> Int) {k : Nat} (h : k < 8) (x : Int) : (nowCs f).setIfInBounds k (vi x) = nowCs (upd f k x) := by
 rcases lt8 h with rfl | rfl | rfl | rfl | rfl | rfl | rfl | rfl <;> rfl
theorem gen_world {P : Program} {c : Code} {Q : Exit -> Act -> World -> Prop} {a : Act} {w : World} (F : World -> Prop) (hF : F w) (h : ∀ w', F w' -> Code.wp P c Q a w') : Code.wp P c Q a w := h w hF
end
section
open Go.RowKit
variable {P : Program}
def busyOf (r : Loop) : Loop := { r with state := .busy }
def doneOf (r : Loop) (c : Code) : Loop := { r with state := .done, pending := some c }
def overOf (r : Loop) : Loop := { r with state := .exhausted }
def roundEnd (l : Nat) (r : Loop) (R : Ending -> World -> Prop) : Exit -> Act -> World -> Prop
 | .normal, _, W => W.heap[l]? = some (.loop (busyOf r)) /\ R (.returned (.bool true)) (W.putObj l (.loop r))
 | .ret, _, W => W.heap[l]? = some (.loop (busyOf r)) /\ R (.returned (.bool false)) (W.putObj l (.loop (doneOf r .ret)))
 | .exit id, _, W => W.heap[l]? = some (.loop (busyOf r)) /\ R (.returned (.bool false)) (W.putObj l (.loop (doneOf r (.exit id))))
 | _, _, _ => False
theorem yield_round {m l : Nat} {r : Loop} {args : Array Value} {W : World} {R : Ending -> World -> Prop} (hl : W.heap[l]? = some (.loop r)) (hr : r.state = .ready) (hp : r.pending = none) (hps : args.size = r.params.size)
  (h : r.assign.wpIn (Fence.wide.inRound l) m P (Exit.then (fun a₁ W₁ => W₁.heap[l]? = some (.loop r) /\ r.body.wpIn (Fence.wide.inRound l) m P (roundEnd l r R) a₁ (W₁.putObj l (.loop (busyOf r)))) (fun _ _ _ => False))
   { tmps := (r.params.zip args).foldl (fun tmps (t, a) => tmps.setIfInBounds t a) r.tmps, defers := [] } W) :
  YieldAt Fence.wide m P l args W R := by
 refine ⟨r.fn, _, r.assign, r.body, run_yield (P := P) hl hps, roundIn_of_wpIn trivial (wpIn_mono h ?_)⟩
 intro e a₁ W₁ hq
 cases e with
 | normal =>
  obtain ⟨hl1, hb⟩ := hq
  refine ⟨_, run_beginRound hl1 hr, wpIn_mono hb ?_⟩
  intro e2 a2 W2 hq2
  cases e2 with
  | normal =>
   obtain ⟨h2, hR⟩ := hq2
   refine ⟨_, _, run_endRound (P := P) none h2, ?_⟩
   have e : ({ r with state := LoopState.ready, pending := none } : Loop) = r := by cases r; simp_all
   simpa [busyOf, e] using hR
  | ret =>
   obtain ⟨h2, hR⟩ := hq2
   exact ⟨_, _, run_endRound (P := P) (some .ret) h2, by simpa [busyOf, doneOf] using hR⟩
  | exit id =>
   obtain ⟨h2, hR⟩ := hq2
   exact ⟨_, _, run_endRound (P := P) (some (.exit id)) h2, by simpa [busyOf, doneOf] using hR⟩
  | goto t => exact hq2.elim
  | panic c => exact hq2.elim
  | outgrown => exact hq2.elim
 | ret => exact hq.elim
 | exit id => exact hq.elim
 | goto t => exact hq.elim
 | panic c => exact hq.elim
 | outgrown => exact hq.elim
def rangeEnd (n : Nat) (P : Program) (D : Nat) (r : Loop) (Q : Exit -> Act -> World -> Prop) (a : Act) (e : Ending) (W : World) : Prop :=
 (∃ v, e = .returned v) /\
  ((W.heap[D + 1]? = some (.loop r) /\ Q .normal { a with defers := { target := .collected D, args := #[] } :: a.defers } (W.putObj (D + 1) (.loop (overOf r)))) ∨
   (∃ c, W.heap[D + 1]? = some (.loop (doneOf r c)) /\ c.wpIn Fence.wide n P Q { a with defers := { target := .collected D, args := #[] } :: a.defers } (W.putObj (D + 1) (.loop (overOf (doneOf r c))))))
theorem range_law {n : Nat} {g : Operand} {ps : Array Tmp} {assign body : Code} {Q : Exit -> Act -> World -> Prop} {a : Act} {w : World} {gf : Nat} {lb : Array Value}
  (hg : a.eval g = .func (.func gf) #[] lb) (eg : ∀ args w, (callFunc gf args).run P w = .ok (.enter gf args) w)
  (h : ∀ r : Loop, r.state = .ready -> r.pending = none -> r.tmps = a.tmps -> r.params = ps -> r.assign = assign -> r.body = body ->
   Calls P gf (#[.func (.yield (w.heap.size + 1)) #[] #[]] ++ lb) ((w.alloc (.deferred (some []))).alloc (.loop r)) (rangeEnd n P w.heap.size r Q a)) :
  (Code.rangeFunc g ps assign body).wpIn Fence.wide n P Q a w := by
 refine wpIn_rangeFunc ?_
 intro fn hfn
 obtain ⟨W1, hW1⟩ : ∃ W1, W1 = (w.alloc (.deferred (some []))).alloc (.loop { state := .ready, pending := none, fn, tmps := a.tmps, params := ps, assign, body, defers := w.heap.size }) := ⟨_, rfl⟩
 refine ⟨w.heap.size + 1, [{ target := .collected w.heap.size, args := #[] }], W1, { target := .fn (.func gf) lb, args := #[.func (.yield (w.heap.size + 1)) #[] #[]] }, W1, gf,
  #[.func (.yield (w.heap.size + 1)) #[] #[]] ++ lb, W1, hW1 ▸ run_enterLoop_outer _ _ _ _ _, ?_, ?_, ?_, fun h => by simp [Fence.wide] at h, ?_⟩
 ·simp only [resolve, hg]
  simp [go_sem]
 ·intro f' _; trivial
 ·simp [invoke, go_sem, eg]
 ·rw [hW1]
  refine callsIn_wide.2 ((h _ rfl rfl rfl rfl rfl rfl).mono ?_)
  rintro e W ⟨⟨v, rfl⟩, ⟨hl, hq⟩ | ⟨c, hl, hq⟩⟩
  ·exact ⟨none, _, run_endLoop (P := P) hl (by simp), hq⟩
  ·exact ⟨some c, _, run_endLoop (P := P) hl (by simp [doneOf]), hq⟩
def Oper.noDefer (o : Oper) : Bool := match o.op with
 | .defer _ => false
 | _ => true
theorem semAt_noDefer {o : Oper} (h : Oper.noDefer o = true) (x : Option Nat) (ρ : Operand -> Value) : o.semAt x ρ = execOp ρ o := by
 unfold Oper.noDefer at h
 cases x with
 | none => rfl
 | some l =>
  unfold Oper.semAt
  cases ho : o.op <;> simp_all
def onlyN (Q : Act -> World -> Prop) : Exit -> Act -> World -> Prop
 | .normal, a, w => Q a w
 | _, _, _ => False
theorem onlyN_not (Q : Act -> World -> Prop) : ¬ LetsOut (onlyN Q) := fun ⟨_, _, h⟩ => h
theorem wpIn_of_wp {o : Oper} {l n : Nat} {a : Act} {w : World} {Q' : Act -> World -> Prop} {Q : Exit -> Act -> World -> Prop} {K : Act -> World -> Prop} (hd : Oper.noDefer o = true) (h : o.wp P a w K (onlyN Q')) :
  o.wpIn (Fence.wide.inRound l) n P a w K Q := by
 refine ⟨fun _ _ => trivial, ?_⟩
 rw [semAt_noDefer hd]
 unfold Oper.wp at h
 generalize (execOp a.eval o).run P w = r at *
 cases r with
 | ok x w' =>
  cases x <;> simp only [Oper.upon, Oper.uponIn] at h ⊢ <;>
   first
    | exact h
    | exact h.elim
    | exact ⟨fun hh => (by simp [Fence.inRound, Fence.wide] at hh), CallsIn.inRound l (callsIn_wide.2 (h.mono (fun e w'' he => by cases e <;> first | exact he | exact he.elim | exact (onlyN_not _ he).elim)))⟩
    | exact ⟨fun hh => (by simp [Fence.inRound, Fence.wide] at hh), fun c cs _ => let ⟨v, w3, hr, hs⟩ := h c cs; ⟨v, w3, hr, stepsIn_wide.2 hs⟩⟩
 | halt x w' =>
  cases x <;> simp only [Oper.upon, Oper.uponIn] at h ⊢ <;> exact h.elim
theorem wpAnyIn_of_any {l n : Nat} {md : Region.Mode} {ops : Array Oper} {Q' : Act -> World -> Prop} {Q : Exit -> Act -> World -> Prop} (hQ : ∀ a w, Q' a w -> Q .normal a w) (hd : ops.all Oper.noDefer = true) :
  ∀ (fuel : Nat) (listed : Array Bool) (a : Act) (w : World), wpAny P md ops (onlyN Q') fuel listed a w -> wpAnyIn (Fence.wide.inRound l) n P md ops Q fuel listed a w
 | 0, _, a, w, h => ⟨h.1, hQ _ _ h.2⟩
 | fuel + 1, listed, a, w, h => by
  refine ⟨fun hr => hQ _ _ (h.1 hr), fun i hi => ?_⟩
  have h2 := h.2 i hi
  unfold wpOp at h2
  unfold wpOpIn
  cases ho : ops[i]? with
  | none => simp only [ho] at h2 ⊢; exact wpAnyIn_of_any hQ hd fuel _ _ _ h2
  | some o =>
   simp only [ho] at h2 ⊢
   have hod : Oper.noDefer o = true := by
    rw [Array.all_eq_true_iff_forall_mem] at hd
    exact hd o (Array.mem_of_getElem? ho)
   split
   ·rename_i hw
    rw [if_pos hw] at h2
    rcases h2 with h2 | ⟨_, h2⟩
    ·exact Oper.wpIn_mono (fun a w hk => wpAnyIn_of_any hQ hd fuel _ _ _ hk) (wpIn_of_wp hod h2)
    ·exact (onlyN_not _ h2).elim
   ·rename_i hw
    rw [if_neg hw] at h2
    exact ⟨fun _ _ => trivial, wpAnyIn_of_any hQ hd fuel _ _ _ h2⟩
end
section
def iAt (l : List Int) (k : Nat) : Int := l[k]?.getD 0
theorem iAt_of {l : List Int} {k : Nat} {d : Int} (h : l[k]? = some d) : iAt l k = d := by simp [iAt, h]
def soaksOf (soak down : Int) : Int := down * soak / 1000
theorem soaks_bd {soak down : Int} (k0 : 0 <= soak) (k1 : soak <= 1000) (d0 : 0 <= down) : 0 <= down * soak /\ down * soak <= down * 1000 /\ 0 <= soaksOf soak down /\ soaksOf soak down <= down := by
 have h1 : 0 <= down * soak := Int.mul_nonneg d0 k0
 have h2 : down * soak <= down * 1000 := Int.mul_le_mul_of_nonneg_left k1 d0
 unfold soaksOf
 omega
end
section
open Go.RowKit
variable {P : Program}
def headDone (n size : Nat) : Array Bool := Array.ofFn (n := size) fun i => decide (i.val < n)
def relB (l : List Oper) (n : Nat) : Bool :=
 decide (n < l.length) && Region.sinkB .any l.toArray n && Region.chainB .any l.toArray n &&
 ((List.range l.length).all fun i => match l[i]? with
  | some o => o.after.all (fun e => !Region.binds .any e || decide (e.on < i)) && o.guard.isNone
  | none => true) &&
 ((List.range n).all fun i => (List.range n).all fun j => decide (i = j) || match l[i]?, l[j]? with
  | some o, some o' => o.dst.isNone || (o.dst != o'.dst)
  | _, _ => true) &&
 Region.seqB .any l.toArray (l.length - n) n (headDone n l.length)
def slotOf (a : Act) (t : Nat) : Value := a.tmps[t]?.getD undef
structure Outer (l : List Oper) (n : Nat) (a₀ a : Act) : Prop where
 defers : a.defers = a₀.defers
 size : a.tmps.size = a₀.tmps.size
 same : ∀ t, (∀ i o, i < n -> l[i]? = some o -> o.dst ≠ some t) -> a.tmps[t]? = a₀.tmps[t]?
theorem slot_put_same {a : Act} {d : Nat} {v : Value} (h : d < a.tmps.size) : slotOf (a.put (some d) v) d = v := by
 simp [slotOf, Act.put, h]
theorem slot_put_other {a : Act} {d t : Nat} {v : Value} (h : t ≠ d) : slotOf (a.put (some d) v) t = slotOf a t := by
 simp [slotOf, Act.put, Array.getElem?_setIfInBounds_ne (Ne.symm h)]
theorem filter_ne_length (i : Nat) : ∀ l : List Nat, l.Nodup -> i ∈ l -> (l.filter (fun j => decide (j ≠ i))).length + 1 = l.length
 | [], _, h => by cases h
 | x :: l, hn, h => by
  rw [List.nodup_cons] at hn
  by_cases hx : x = i
  ·subst hx
   have : l.filter (fun j => decide (j ≠ x)) = l := List.filter_eq_self.2 (fun j hj => by
    have : j ≠ x := fun e => hn.1 (e ▸ hj)
    simp [this])
   simp only [ne_eq, not_true_eq_false, decide_false, Bool.false_eq_true, not_false_eq_true, List.filter_cons_of_neg, List.length_cons]
   have e2 : (l.filter (fun j => decide (¬ j = x))) = l := this
   rw [e2]
  ·have hm : i ∈ l := by
    rcases List.mem_cons.1 h with h | h
    ·exact absurd h.symm hx
    ·exact h
   have := filter_ne_length i l hn.2 hm
   rw [List.filter_cons_of_pos (by simp [hx])]
   simp only [List.length_cons]
   omega
theorem region_rel_any {l : List Oper} {n : Nat} {Q : Exit -> Act -> World -> Prop} {a₀ : Act} {w : World} (hB : relB l n = true)
  (G : Array Bool -> World -> Prop) (Rl : Nat -> World -> World -> Prop) (D : Nat -> Value -> World -> Prop)
  (hDs : ∀ i j v W W', i < n -> j ≠ i -> D j v W -> Rl i W W' -> D j v W')
  (hsz : ∀ i o d, i < n -> l[i]? = some o -> o.dst = some d -> d < a₀.tmps.size)
  (hG : G (Array.replicate l.toArray.size false) w)
  (hstep : ∀ i o, i < n -> l[i]? = some o -> ∀ (listed : Array Bool) a W, listed.size = l.length -> listed.getD i true = false -> G listed W -> Outer l n a₀ a ->
   (∀ j oj d, j < n -> l[j]? = some oj -> oj.dst = some d -> (∃ e ∈ o.after, Region.binds .any e = true /\ e.on = j) -> D j (slotOf a d) W) ->
   o.wp P a W (fun a' W' => ∃ v, a' = a.put o.dst v /\ D i v W' /\ Rl i W W' /\ G (listed.setIfInBounds i true) W') Q)
  (htail : ∀ (listed : Array Bool) a W, G listed W -> Outer l n a₀ a -> (∀ j oj d, j < n -> l[j]? = some oj -> oj.dst = some d -> D j (slotOf a d) W) -> wpList P l.toArray Q (l.drop n) a W) :
  wpAny P .any l.toArray Q l.toArray.size (Array.replicate l.toArray.size false) a₀ w := by
 simp only [relB, Bool.and_eq_true, decide_eq_true_eq] at hB
 obtain ⟨⟨⟨⟨⟨hn, hs⟩, hc⟩, hback⟩, hdst⟩, hseq⟩ := hB
 have hback' : ∀ (i : Nat) (o : Oper), l[i]? = some o -> (∀ e ∈ o.after, Region.binds .any e = true -> e.on < i) /\ o.guard = none := by
  intro i o ho
  have := List.all_eq_true.1 hback i (List.mem_range.2 (List.getElem?_eq_some_iff.1 ho).1)
  simp only [ho, Bool.and_eq_true, Array.all_eq_true_iff_forall_mem] at this
  exact ⟨fun e he hb => by simpa [hb] using this.1 e he, by simpa using this.2⟩
 have hdst' : ∀ (i j : Nat) (o o' : Oper) (d : Tmp), i < n -> j < n -> i ≠ j -> l[i]? = some o -> l[j]? = some o' -> o.dst = some d -> o'.dst ≠ some d := by
  intro i j o o' d hi hj hij ho ho' hd hd'
  have := List.all_eq_true.1 (List.all_eq_true.1 hdst i (List.mem_range.2 hi)) j (List.mem_range.2 hj)
  simp [hij, ho, ho', hd, hd'] at this
 have key : ∀ (f : Nat) (listed : Array Bool) (a : Act) (W : World), HeadInv .any l.toArray n listed -> ((List.range n).filter fun i => !listed.getD i false).length = f ->
   G listed W -> Outer l n a₀ a -> (∀ (j : Nat) (oj : Oper) (d : Tmp), j < n -> l[j]? = some oj -> listed.getD j false = true -> oj.dst = some d -> D j (slotOf a d) W) ->
   wpAny P .any l.toArray Q (f + (l.length - n)) listed a W := by
  intro f
  induction f with
  | zero =>
   intro listed a W inv hcnt hGW hO hD
   have hall : ∀ i, i < n -> listed.getD i false = true := by
    intro i hi
    have := List.eq_nil_of_length_eq_zero hcnt
    have h2 := List.filter_eq_nil_iff.1 this i (List.mem_range.2 hi)
    simpa using h2
   have hcanon : listed = headDone n l.length := by
    apply Array.ext
    ·rw [inv.size]; simp [headDone]
    ·intro i h1 h2
     have hi : i < l.length := by simpa [headDone] using h2
     simp only [headDone, Array.getElem_ofFn]
     by_cases hin : i < n
     ·have := hall i hin
      simp [h1] at this
      simp [this, hin]
     ·have := inv.tail i (by omega) (by simpa using hi)
      simp [h1] at this
      simp [this, hin]
   rw [Nat.zero_add]
   have := wpAny_of_seq (md := .any) (Q' := Q) (P := P) (ops := l.toArray) (l.drop n) n listed a W (fun j => by simp [List.getElem?_drop]) (by rw [List.length_drop, hcanon]; exact hseq) (htail listed a W hGW hO (fun j oj d hj ho hd => hD j oj d hj ho (hall j hj) hd))
   rwa [List.length_drop] at this
  | succ f ih =>
   intro listed a W inv hcnt hGW hO hD
   -- some operation of the head has not come up
   have hex : ∃ i, i < n /\ listed.getD i false = false /\ ∀ j, j < i -> listed.getD j false = true := by
    have hne : ((List.range n).filter fun i => !listed.getD i false) ≠ [] := by intro h; rw [h] at hcnt; cases hcnt
    have : ∃ i, i < n /\ listed.getD i false = false := by
     obtain ⟨x, hx⟩ := List.exists_mem_of_ne_nil _ hne
     have hx' := List.mem_filter.1 hx
     exact ⟨x, List.mem_range.1 hx'.1, by simpa using hx'.2⟩
    obtain ⟨i, hi, hl⟩ := this
    have : ∀ k i, i <= k -> i < n -> listed.getD i false = false -> ∃ i, i < n /\ listed.getD i false = false /\ ∀ j, j < i -> listed.getD j false = true := by
     intro k
     induction k with
     | zero => intro i hik hi hl; exact ⟨i, hi, hl, fun j hj => by omega⟩
     | succ k ihk =>
      intro i hik hi hl
      by_cases h : ∃ j, j < i /\ listed.getD j false = false
      ·obtain ⟨j, hj, hjl⟩ := h
       exact ihk j (by omega) (by omega) hjl
      ·refine ⟨i, hi, hl, fun j hj => ?_⟩
       cases hh : listed.getD j false with
       | true => rfl
       | false => exact absurd ⟨j, hj, hh⟩ h
    exact this i i (Nat.le_refl _) hi hl
   obtain ⟨i₀, hi₀, hun₀, hbelow⟩ := hex
   have hi₀s : i₀ < listed.size := by rw [inv.size]; simp; omega
   have hl₀ : listed.getD i₀ true = false := getD_in hi₀s hun₀
   have hready₀ : i₀ ∈ Region.ready .any l.toArray listed := by
    have ho : l[i₀]? = some l[i₀] := List.getElem?_eq_getElem (by omega)
    refine mem_ready.2 ⟨hl₀, l[i₀], by simp, fun e he hb => hbelow _ ((hback' i₀ _ ho).1 e he hb)⟩
   rw [show f + 1 + (l.length - n) = f + (l.length - n) + 1 by omega]
   refine ⟨fun h => (by rw [h] at hready₀; cases hready₀), fun i hi => ?_⟩
   have hin : i < n := by
    rcases Nat.lt_or_ge i n with h | h
    ·exact h
    ·exact absurd hi (tail_waits hs hc (by simpa using hn) inv _ i₀ rfl hi₀ hl₀ i h)
   obtain ⟨hiun, o, ho, hall⟩ := mem_ready.1 hi
   have ho' : l[i]? = some o := by simpa using ho
   have hst := hstep i o hin ho' listed a W (by rw [inv.size]; simp) hiun hGW hO (fun j oj d hj hoj hd ⟨e, he, hb, hon⟩ => hD j oj d hj hoj (by rw [<- hon]; exact hall e he hb) hd)
   unfold wpOp
   simp only [ho]
   have hw : Region.wanted o (yielded l.toArray a.tmps) = true := by simp [Region.wanted, (hback' i o ho').2]
   rw [if_pos hw]
   refine .inl (Oper.wp_mono ?_ hst)
   rintro a' W' ⟨v, rfl, hDv, hRv, hGv⟩
   have hOut : Outer l n a₀ (a.put o.dst v) := by
    refine ⟨?_, ?_, fun t ht => ?_⟩
    ·cases hd : o.dst <;> simp [Act.put, hO.defers]
    ·cases hd : o.dst <;> simp [Act.put, hO.size]
    ·cases hd : o.dst with
     | none => simpa [Act.put] using hO.same t ht
     | some d =>
      have hne : d ≠ t := fun h => ht i o hin ho' (by rw [hd, h])
      simp only [Act.put]
      rw [Array.getElem?_setIfInBounds_ne hne]
      exact hO.same t ht
   refine ih _ _ _ (inv.set hi hin) ?_ hGv hOut ?_
   ·have hiun' : listed.getD i false = false := getD_both hiun
    have his : i < listed.size := by rw [inv.size]; simp; omega
    have e1 : ((List.range n).filter fun j => !(listed.setIfInBounds i true).getD j false) = ((List.range n).filter fun j => !listed.getD j false).filter (fun j => decide (j ≠ i)) := by
     rw [List.filter_filter]
     apply List.filter_congr
     intro j _
     by_cases hji : j = i
     ·subst hji; simp [his]
     ·rw [getD_set_ne false (Ne.symm hji)]; simp [hji]
    rw [e1]
    have hnd : ((List.range n).filter fun j => !listed.getD j false).Nodup := List.nodup_range.filter _
    have hmem : i ∈ ((List.range n).filter fun j => !listed.getD j false) := List.mem_filter.2 ⟨List.mem_range.2 hin, by simp [hiun']⟩
    have := filter_ne_length i _ hnd hmem
    omega
   ·intro j oj d hj hoj hlj hd
    by_cases hji : j = i
    ·subst hji
     have : oj = o := Option.some.inj (hoj.symm.trans ho')
     subst this
     have hds : d < a.tmps.size := by rw [hO.size]; exact hsz j oj d hj hoj hd
     rw [hd, slot_put_same hds]
     exact hDv
    ·rw [getD_set_ne false (Ne.symm hji)] at hlj
     have hold := hDs i j _ W W' hin hji (hD j oj d hj hoj hlj hd) hRv
     cases hdo : o.dst with
     | none => simpa [Act.put] using hold
     | some d' =>
      have hne : d ≠ d' := fun h => hdst' j i oj o d hj hin hji hoj ho' hd (by rw [hdo, h])
      rw [slot_put_other hne]
      exact hold
 have inv0 : HeadInv .any l.toArray n (Array.replicate l.toArray.size false) :=
  ⟨by simp, fun j oj _ hl => (by rw [getD_replicate_false] at hl; cases hl), fun t _ ht => getD_in (by simpa using ht) (getD_replicate_false _ _)⟩
 have := key n _ a₀ w inv0 (by
  have : ((List.range n).filter fun i => !(Array.replicate l.toArray.size false).getD i false) = List.range n := List.filter_eq_self.2 (fun i _ => by rw [getD_replicate_false]; rfl)
  rw [this, List.length_range]) hG ⟨rfl, rfl, fun _ _ => rfl⟩ (fun j oj d _ _ hl => by rw [getD_replicate_false] at hl; cases hl)
 rw [show n + (l.length - n) = l.toArray.size by simp; omega] at this
 exact this
def preds (l : List Oper) (D : Nat -> Value -> World -> Prop) (a : Act) (W : World) : List Edge -> Prop
 | [] => True
 | e :: es => (match Region.binds .any e, l[e.on]? with
   | true, some o => (match o.dst with
    | some d => D e.on (slotOf a d) W
    | none => True)
   | _, _ => True) /\ preds l D a W es
def stepOk (P : Program) (l : List Oper) (n : Nat) (Q : Exit -> Act -> World -> Prop) (a₀ : Act) (w : World) (G : World -> Prop) (Rl : World -> World -> Prop) (D : Nat -> Value -> World -> Prop) (i : Nat) (o : Oper) : Prop :=
 ∀ a W, G W -> Rl w W -> Outer l n a₀ a -> preds l D a W o.after.toList -> o.wp P a W (fun a' W' => ∃ v, a' = a.put o.dst v /\ D i v W' /\ Rl W W' /\ G W') Q
def stepsOk (P : Program) (l : List Oper) (n : Nat) (Q : Exit -> Act -> World -> Prop) (a₀ : Act) (w : World) (G : World -> Prop) (Rl : World -> World -> Prop) (D : Nat -> Value -> World -> Prop) : Nat -> List Oper -> Prop
 | _, [] => True
 | i, o :: os => stepOk P l n Q a₀ w G Rl D i o /\ stepsOk P l n Q a₀ w G Rl D (i + 1) os
def heads (D : Nat -> Value -> World -> Prop) (a : Act) (W : World) : Nat -> List Oper -> Prop
 | _, [] => True
 | i, o :: os => (match o.dst with
   | some d => D i (slotOf a d) W
   | none => True) /\ heads D a W (i + 1) os
def szOk (s : Nat) : List Oper -> Bool
 | [] => true
 | o :: os => (match o.dst with
   | some d => decide (d < s)
   | none => true) && szOk s os
theorem preds_of {l : List Oper} {D : Nat -> Value -> World -> Prop} {a : Act} {W : World} {n : Nat} (o : Oper) (hb : ∀ e ∈ o.after, Region.binds .any e = true -> e.on < n)
  (h : ∀ (j : Nat) (oj : Oper) (d : Tmp), j < n -> l[j]? = some oj -> oj.dst = some d -> (∃ e ∈ o.after, Region.binds .any e = true /\ e.on = j) -> D j (slotOf a d) W) : preds l D a W o.after.toList := by
 have : ∀ es : List Edge, (∀ e ∈ es, e ∈ o.after) -> preds l D a W es := by
  intro es
  induction es with
  | nil => intro _; trivial
  | cons e es ih =>
   intro hes
   refine ⟨?_, ih fun e' he' => hes e' (List.mem_cons_of_mem _ he')⟩
   split
   ·rename_i o' hbind ho'
    split
    ·rename_i d hd
     exact h e.on o' d (hb e (hes e (by simp)) hbind) ho' hd ⟨e, hes e (by simp), hbind, rfl⟩
    ·trivial
   ·trivial
 exact this _ fun e he => by simpa using he
theorem steps_get {l : List Oper} {n : Nat} {Q : Exit -> Act -> World -> Prop} {a₀ : Act} {w : World} {G : World -> Prop} {Rl : World -> World -> Prop} {D : Nat -> Value -> World -> Prop} : ∀ (os : List Oper) (k : Nat), stepsOk P l n Q a₀ w G Rl D k os -> ∀ i o, os[i]? = some o -> stepOk P l n Q a₀ w G Rl D (k + i) o
 | [], _, _, i, o, h => by simp at h
 | x :: os, k, hs, 0, o, h => by simp at h; subst h; exact hs.1
 | x :: os, k, hs, i + 1, o, h => by
  have := steps_get os (k + 1) hs.2 i o (by simpa using h)
  rw [show k + (i + 1) = k + 1 + i by omega]
  exact this
theorem heads_of {D : Nat -> Value -> World -> Prop} {a : Act} {W : World} : ∀ (os : List Oper) (k : Nat), (∀ (j : Nat) (oj : Oper) (d : Tmp), os[j]? = some oj -> oj.dst = some d -> D (k + j) (slotOf a d) W) -> heads D a W k os
 | [], _, _ => trivial
 | o :: os, k, h => by
  refine ⟨?_, heads_of os (k + 1) fun j oj d hj hd => ?_⟩
  ·split
   ·rename_i d hd
    exact h 0 o d rfl hd
   ·trivial
  ·have := h (j + 1) oj d (by simpa using hj) hd
   rw [show k + 1 + j = k + (j + 1) by omega]
   exact this
theorem sz_of {s : Nat} : ∀ (os : List Oper), szOk s os = true -> ∀ (i : Nat) (o : Oper) (d : Tmp), os[i]? = some o -> o.dst = some d -> d < s
 | [], _, i, o, d, h, _ => by simp at h
 | x :: os, hs, 0, o, d, h, hd => by
  simp at h; subst h
  simp only [szOk, hd, Bool.and_eq_true, decide_eq_true_eq] at hs
  exact hs.1
 | x :: os, hs, i + 1, o, d, h, hd => by
  simp only [szOk, Bool.and_eq_true] at hs
  exact sz_of os hs.2 i o d (by simpa using h) hd
theorem region_words {l : List Oper} {n : Nat} {Q : Exit -> Act -> World -> Prop} {a₀ : Act} {w : World} (hB : relB l n = true) (hz : szOk a₀.tmps.size (l.take n) = true)
  (G : World -> Prop) (Rl : World -> World -> Prop) (D : Nat -> Value -> World -> Prop)
  (hRt : ∀ {A B C : World}, Rl A B -> Rl B C -> Rl A C) (hDs : ∀ i v W W', D i v W -> Rl W W' -> D i v W')
  (hG : G w) (hR0 : Rl w w) (hstep : stepsOk P l n Q a₀ w G Rl D 0 (l.take n))
  (htail : ∀ a W, G W -> Rl w W -> Outer l n a₀ a -> heads D a W 0 (l.take n) -> wpList P l.toArray Q (l.drop n) a W) :
  wpAny P .any l.toArray Q l.toArray.size (Array.replicate l.toArray.size false) a₀ w := by
 have htake : ∀ (i : Nat) (o : Oper), i < n -> l[i]? = some o -> (l.take n)[i]? = some o := fun i o hi ho => by rw [List.getElem?_take, if_pos hi]; exact ho
 have hback : ∀ (i : Nat) (o : Oper), i < n -> l[i]? = some o -> ∀ e ∈ o.after, Region.binds .any e = true -> e.on < n := by
  have hB' := hB
  simp only [relB, Bool.and_eq_true, decide_eq_true_eq] at hB'
  obtain ⟨⟨⟨⟨⟨_, _⟩, _⟩, hback⟩, _⟩, _⟩ := hB'
  intro i o hi ho e he hbd
  have := List.all_eq_true.1 hback i (List.mem_range.2 (List.getElem?_eq_some_iff.1 ho).1)
  simp only [ho, Bool.and_eq_true, Array.all_eq_true_iff_forall_mem] at this
  have h2 : e.on < i := by simpa [hbd] using this.1 e he
  omega
 refine region_rel_any hB (fun _ W => G W /\ Rl w W) (fun _ => Rl) D (fun _ j v W W' _ _ => hDs j v W W') (fun i o d hi ho hd => sz_of _ hz i o d (htake i o hi ho) hd) ⟨hG, hR0⟩ ?_ ?_
 ·rintro i o hi ho _ a W _ _ ⟨hGW, hRW⟩ hO hp
  have := steps_get _ _ hstep i o (htake i o hi ho)
  rw [Nat.zero_add] at this
  refine Oper.wp_mono ?_ (this a W hGW hRW hO (preds_of o (hback i o hi ho) hp))
  rintro a' W' ⟨v, h1, h2, h3, h4⟩
  exact ⟨v, h1, h2, h3, h4, hRt hRW h3⟩
 ·rintro _ a W ⟨hGW, hRW⟩ hO hd
  refine htail a W hGW hRW hO (heads_of _ _ fun j oj d hj hdd => ?_)
  rw [List.getElem?_take] at hj
  split at hj
  ·rename_i hjn
   rw [Nat.zero_add]
   exact hd j oj d hjn hj hdd
  ·cases hj
def tailsOk (D : Nat -> Value -> World -> Prop) (W : World) (K : Act -> Prop) : Nat -> List Oper -> Act -> Prop
 | _, [], a => K a
 | i, o :: os, a => match o.dst with
  | some d => ∀ v, D i v W -> tailsOk D W K (i + 1) os (a.put (some d) v)
  | none => tailsOk D W K (i + 1) os a
def filled (a : Act) : List Oper -> Act -> Act
 | [], b => b
 | o :: os, b => match o.dst with
  | some d => filled a os (b.put (some d) (slotOf a d))
  | none => filled a os b
theorem tails_filled {D : Nat -> Value -> World -> Prop} {W : World} {K : Act -> Prop} {a : Act} : ∀ (os : List Oper) (k : Nat) (b : Act), heads D a W k os -> tailsOk D W K k os b -> K (filled a os b)
 | [], _, _, _, h => h
 | o :: os, k, b, hh, h => by
  obtain ⟨h1, h2⟩ := hh
  unfold tailsOk at h
  unfold filled
  cases hd : o.dst with
  | none => simp only [hd] at h ⊢; exact tails_filled os (k + 1) b h2 h
  | some d =>
   simp only [hd] at h h1 ⊢
   exact tails_filled os (k + 1) _ h2 (h _ h1)
theorem filled_defers {a : Act} : ∀ (os : List Oper) (b : Act), (filled a os b).defers = b.defers
 | [], _ => rfl
 | o :: os, b => by
  unfold filled
  cases hd : o.dst with
  | none => exact filled_defers os b
  | some d => exact (filled_defers os _).trans rfl
theorem filled_get {a : Act} : ∀ (os : List Oper) (b : Act) (t : Nat), a.tmps.size = b.tmps.size -> ((∃ o ∈ os, o.dst = some t) ∨ b.tmps[t]? = a.tmps[t]?) -> (filled a os b).tmps[t]? = a.tmps[t]?
 | [], b, t, _, h => by
  rcases h with ⟨o, ho, _⟩ | h
  ·cases ho
  ·exact h
 | o :: os, b, t, hs, h => by
  unfold filled
  cases hd : o.dst with
  | none =>
   refine filled_get os b t hs ?_
   rcases h with ⟨o', ho', hd'⟩ | h
   ·rcases List.mem_cons.1 ho' with rfl | ho'
    ·rw [hd] at hd'; cases hd'
    ·exact .inl ⟨o', ho', hd'⟩
   ·exact .inr h
  | some d =>
   refine filled_get os _ t (by simp [Act.put, hs]) ?_
   by_cases htd : t = d
   ·subst htd
    refine .inr ?_
    simp only [Act.put]
    rcases Nat.lt_or_ge t b.tmps.size with hlt | hge
    ·rw [Array.getElem?_setIfInBounds_self_of_lt hlt]
     have hlt' : t < a.tmps.size := by omega
     simp [slotOf, hlt']
    ·have h1 : (b.tmps.setIfInBounds t (slotOf a t)).size <= t := by simpa using hge
     rw [Array.getElem?_eq_none h1, Array.getElem?_eq_none (by omega)]
   ·rcases h with ⟨o', ho', hd'⟩ | h
    ·rcases List.mem_cons.1 ho' with rfl | ho'
     ·rw [hd] at hd'; cases hd'; exact absurd rfl htd
     ·exact .inl ⟨o', ho', hd'⟩
    ·refine .inr ?_
     simp only [Act.put]
     rw [Array.getElem?_setIfInBounds_ne (Ne.symm htd)]
     exact h
theorem filled_eq {l : List Oper} {n : Nat} {a₀ a : Act} (hO : Outer l n a₀ a) : filled a (l.take n) a₀ = a := by
 have h1 : (filled a (l.take n) a₀).tmps = a.tmps := by
  apply Array.ext_getElem?
  intro t
  refine filled_get _ _ t hO.size ?_
  by_cases h : ∃ o ∈ l.take n, o.dst = some t
  ·exact .inl h
  ·refine .inr (hO.same t fun i o hi ho hd => h ⟨o, List.mem_of_getElem? (i := i) (by rw [List.getElem?_take, if_pos hi]; exact ho), hd⟩).symm
 have h2 := (filled_defers (a := a) (l.take n) a₀).trans hO.defers.symm
 generalize filled a (l.take n) a₀ = x at *
 cases x; cases a; simp_all
theorem region_told {l : List Oper} (n : Nat) {Q : Exit -> Act -> World -> Prop} {a₀ : Act} {w : World} (hB : relB l n = true) (hz : szOk a₀.tmps.size (l.take n) = true)
  (G : World -> Prop) (Rl : World -> World -> Prop) (D : Nat -> Value -> World -> Prop)
  (hRt : ∀ {A B C : World}, Rl A B -> Rl B C -> Rl A C) (hDs : ∀ i v W W', D i v W -> Rl W W' -> D i v W')
  (hG : G w) (hR0 : Rl w w) (hstep : stepsOk P l n Q a₀ w G Rl D 0 (l.take n))
  (htail : ∀ W, G W -> Rl w W -> tailsOk D W (fun a => wpList P l.toArray Q (l.drop n) a W) 0 (l.take n) a₀) :
  wpAny P .any l.toArray Q l.toArray.size (Array.replicate l.toArray.size false) a₀ w :=
 region_words hB hz G Rl D hRt hDs hG hR0 hstep fun a W hGW hRW hO hh => by
  have := tails_filled _ _ _ hh (htail W hGW hRW)
  rwa [filled_eq hO] at this
def stepOk' (P : Program) (l : List Oper) (n : Nat) (Q : Exit -> Act -> World -> Prop) (a₀ : Act) (m : Nat) (G G1 : World -> Prop) (Rl : Nat -> World -> World -> Prop) (D : Nat -> Value -> World -> Prop) (i : Nat) (o : Oper) : Prop :=
 ∀ a W, G W -> (i = m -> G1 W) -> Outer l n a₀ a -> preds l D a W o.after.toList -> o.wp P a W (fun a' W' => ∃ v, a' = a.put o.dst v /\ D i v W' /\ Rl i W W' /\ G W' /\ (i ≠ m -> G1 W -> G1 W')) Q
def stepsOk' (P : Program) (l : List Oper) (n : Nat) (Q : Exit -> Act -> World -> Prop) (a₀ : Act) (m : Nat) (G G1 : World -> Prop) (Rl : Nat -> World -> World -> Prop) (D : Nat -> Value -> World -> Prop) : Nat -> List Oper -> Prop
 | _, [] => True
 | i, o :: os => stepOk' P l n Q a₀ m G G1 Rl D i o /\ stepsOk' P l n Q a₀ m G G1 Rl D (i + 1) os
theorem steps_get' {l : List Oper} {n : Nat} {Q : Exit -> Act -> World -> Prop} {a₀ : Act} {m : Nat} {G G1 : World -> Prop} {Rl : Nat -> World -> World -> Prop} {D : Nat -> Value -> World -> Prop} : ∀ (os : List Oper) (k : Nat), stepsOk' P l n Q a₀ m G G1 Rl D k os -> ∀ i o, os[i]? = some o -> stepOk' P l n Q a₀ m G G1 Rl D (k + i) o
 | [], _, _, i, o, h => by simp at h
 | x :: os, k, hs, 0, o, h => by simp at h; subst h; exact hs.1
 | x :: os, k, hs, i + 1, o, h => by
  have := steps_get' os (k + 1) hs.2 i o (by simpa using h)
  rw [show k + (i + 1) = k + 1 + i by omega]
  exact this
theorem region_tale {l : List Oper} (n : Nat) {Q : Exit -> Act -> World -> Prop} {a₀ : Act} {w : World} (hB : relB l n = true) (hz : szOk a₀.tmps.size (l.take n) = true)
  (m : Nat) (G G1 : World -> Prop) (Rl : Nat -> World -> World -> Prop) (D : Nat -> Value -> World -> Prop)
  (hDs : ∀ i j v W W', i < n -> j ≠ i -> D j v W -> Rl i W W' -> D j v W')
  (hmn : m < n) (hG : G w) (hG1 : G1 w) (hstep : stepsOk' P l n Q a₀ m G G1 Rl D 0 (l.take n))
  (htail : ∀ W, G W -> tailsOk D W (fun a => wpList P l.toArray Q (l.drop n) a W) 0 (l.take n) a₀) :
  wpAny P .any l.toArray Q l.toArray.size (Array.replicate l.toArray.size false) a₀ w := by
 have htake : ∀ (i : Nat) (o : Oper), i < n -> l[i]? = some o -> (l.take n)[i]? = some o := fun i o hi ho => by rw [List.getElem?_take, if_pos hi]; exact ho
 have hback : ∀ (i : Nat) (o : Oper), i < n -> l[i]? = some o -> ∀ e ∈ o.after, Region.binds .any e = true -> e.on < n := by
  have hB' := hB
  simp only [relB, Bool.and_eq_true, decide_eq_true_eq] at hB'
  obtain ⟨⟨⟨⟨⟨_, _⟩, _⟩, hback⟩, _⟩, _⟩ := hB'
  intro i o hi ho e he hbd
  have := List.all_eq_true.1 hback i (List.mem_range.2 (List.getElem?_eq_some_iff.1 ho).1)
  simp only [ho, Bool.and_eq_true, Array.all_eq_true_iff_forall_mem] at this
  have h2 : e.on < i := by simpa [hbd] using this.1 e he
  omega
 have hn : n < l.length := by
  have hB' := hB
  simp only [relB, Bool.and_eq_true, decide_eq_true_eq] at hB'
  exact hB'.1.1.1.1.1
 refine region_rel_any hB (fun listed W => G W /\ (listed.getD m true = false -> G1 W)) Rl D hDs (fun i o d hi ho hd => sz_of _ hz i o d (htake i o hi ho) hd) ⟨hG, fun _ => hG1⟩ ?_ ?_
 ·rintro i o hi ho listed a W hsz hun ⟨hGW, hG1W⟩ hO hp
  have := steps_get' _ _ hstep i o (htake i o hi ho)
  rw [Nat.zero_add] at this
  refine Oper.wp_mono ?_ (this a W hGW (fun e => hG1W (e ▸ hun)) hO (preds_of o (hback i o hi ho) hp))
  rintro a' W' ⟨v, h1, h2, h3, h4, h5⟩
  refine ⟨v, h1, h2, h3, h4, fun hm => ?_⟩
  by_cases him : i = m
  ·subst him
   rw [show (listed.setIfInBounds i true).getD i true = true by simp [hsz, show i < l.length by omega]] at hm
   cases hm
  ·rw [getD_set_ne true him] at hm
   exact h5 him (hG1W hm)
 ·rintro _ a W ⟨hGW, _⟩ hO hd
  have := tails_filled _ _ _ (heads_of (D := D) (a := a) (W := W) (l.take n) 0 fun j oj d hj hdd => by
   rw [List.getElem?_take] at hj
   split at hj
   ·rename_i hjn
    rw [Nat.zero_add]
    exact hd j oj d hjn hj hdd
   ·cases hj) (htail W hGW)
  rwa [filled_eq hO] at this
theorem wpIn_of_wp0 {o : Oper} {n : Nat} {a : Act} {w : World} {Q' : Act -> World -> Prop} {Q : Exit -> Act -> World -> Prop} {K : Act -> World -> Prop} (h : o.wp P a w K (onlyN Q')) :
  o.wpIn Fence.wide n P a w K Q := by
 refine ⟨fun _ _ => trivial, ?_⟩
 show o.uponIn Fence.wide n P a K Q ((execOp a.eval o).run P w)
 unfold Oper.wp at h
 generalize (execOp a.eval o).run P w = r at *
 cases r with
 | ok x w' =>
  cases x <;> simp only [Oper.upon, Oper.uponIn] at h ⊢ <;>
   first
    | exact h
    | exact h.elim
    | exact ⟨fun hh => (by simp [Fence.wide] at hh), callsIn_wide.2 (h.mono (fun e w'' he => by cases e <;> first | exact he | exact he.elim | exact (onlyN_not _ he).elim))⟩
    | exact ⟨fun hh => (by simp [Fence.wide] at hh), fun c cs _ => let ⟨v, w3, hr, hs⟩ := h c cs; ⟨v, w3, hr, stepsIn_wide.2 hs⟩⟩
 | halt x w' =>
  cases x <;> simp only [Oper.upon, Oper.uponIn] at h ⊢ <;> exact h.elim
theorem wpAnyIn_of_any0 {n : Nat} {md : Region.Mode} {ops : Array Oper} {Q' : Act -> World -> Prop} {Q : Exit -> Act -> World -> Prop} (hQ : ∀ a w, Q' a w -> Q .normal a w) :
  ∀ (fuel : Nat) (listed : Array Bool) (a : Act) (w : World), wpAny P md ops (onlyN Q') fuel listed a w -> wpAnyIn Fence.wide n P md ops Q fuel listed a w
 | 0, _, a, w, h => ⟨h.1, hQ _ _ h.2⟩
 | fuel + 1, listed, a, w, h => by
  refine ⟨fun hr => hQ _ _ (h.1 hr), fun i hi => ?_⟩
  have h2 := h.2 i hi
  unfold wpOp at h2
  unfold wpOpIn
  cases ho : ops[i]? with
  | none => simp only [ho] at h2 ⊢; exact wpAnyIn_of_any0 hQ fuel _ _ _ h2
  | some o =>
   simp only [ho] at h2 ⊢
   split
   ·rename_i hw
    rw [if_pos hw] at h2
    rcases h2 with h2 | ⟨_, h2⟩
    ·exact Oper.wpIn_mono (fun a w hk => wpAnyIn_of_any0 hQ fuel _ _ _ hk) (wpIn_of_wp0 h2)
    ·exact (onlyN_not _ h2).elim
   ·rename_i hw
    rw [if_neg hw] at h2
    exact ⟨fun _ _ => trivial, wpAnyIn_of_any0 hQ fuel _ _ _ h2⟩
theorem outer_words {n id : Nat} {l : List Oper} {Q' : Act -> World -> Prop} {Q : Exit -> Act -> World -> Prop} {a₀ : Act} {w : World} (hm : P.follows .mixedOrders = true) (hQ : ∀ a w, Q' a w -> Q .normal a w)
  (h : wpAny P .any l.toArray (onlyN Q') l.toArray.size (Array.replicate l.toArray.size false) a₀ w.drew) : (Code.region id l.toArray true).wpIn Fence.wide n P Q a₀ w :=
 wpIn_region_any hm (wpAnyIn_of_any0 hQ _ _ _ _ h)
theorem onlyN_intro {Q : Act -> World -> Prop} {a : Act} {w : World} (h : Q a w) : onlyN Q .normal a w := h
theorem wp_words {id : Nat} {l : List Oper} {Q : Exit -> Act -> World -> Prop} {a₀ : Act} {w : World} (hm : P.follows .mixedOrders = true)
  (h : wpAny P .any l.toArray Q l.toArray.size (Array.replicate l.toArray.size false) a₀ w.drew) : (Code.region id l.toArray true).wp P Q a₀ w := wp_region_any hm h
theorem round_words {r n id : Nat} {l : List Oper} {Q' : Act -> World -> Prop} {Q : Exit -> Act -> World -> Prop} {a₀ : Act} {w : World} (hm : P.follows .mixedOrders = true) (hd : l.toArray.all Oper.noDefer = true) (hQ : ∀ a w, Q' a w -> Q .normal a w)
  (h : wpAny P .any l.toArray (onlyN Q') l.toArray.size (Array.replicate l.toArray.size false) a₀ w.drew) : (Code.region id l.toArray true).wpIn (Fence.wide.inRound r) n P Q a₀ w :=
 wpIn_region_any hm (wpAnyIn_of_any hQ hd _ _ _ _ h)
theorem wp_yields {o : Oper} {a : Act} {W : World} {K : Act -> World -> Prop} {Q : Exit -> Act -> World -> Prop} {v : Value} (h : (execOp a.eval o).run P W = .ok (.value v) W) (hk : K (a.put o.dst v) W) : o.wp P a W K Q := by
 unfold Oper.wp
 rw [h]
 exact hk
theorem wp_makes {o : Oper} {a : Act} {W W' : World} {K : Act -> World -> Prop} {Q : Exit -> Act -> World -> Prop} {v : Value} (h : (execOp a.eval o).run P W = .ok (.value v) W') (hk : K (a.put o.dst v) W') : o.wp P a W K Q := by
 unfold Oper.wp
 rw [h]
 exact hk
theorem wp_enters {o : Oper} {a : Act} {W : World} {K : Act -> World -> Prop} {Q : Exit -> Act -> World -> Prop} {f : FuncId} {args : Array Value} (h : (execOp a.eval o).run P W = .ok (.enter f args) W)
  (hc : Calls P f args W fun e W' => ∃ v, e = .returned v /\ K (a.put o.dst v) W') : o.wp P a W K Q := by
 unfold Oper.wp
 rw [h]
 refine hc.mono ?_
 rintro e W' ⟨v, rfl, hk⟩
 exact hk
theorem Outer.slot {l : List Oper} {n : Nat} {a₀ a : Act} (h : Outer l n a₀ a) (t : Nat) (ht : ((l.take n).all fun o => o.dst != some t) = true) : slotOf a t = slotOf a₀ t := by
 unfold slotOf
 rw [h.same t fun i o hi ho hd => ?_]
 have := List.all_eq_true.1 ht o (List.mem_of_getElem? (i := i) (by rw [List.getElem?_take, if_pos hi]; exact ho))
 simp [hd] at this
def pickD : List (Value -> World -> Prop) -> Nat -> Value -> World -> Prop
 | [], _, _, _ => True
 | p :: _, 0, v, W => p v W
 | _ :: ps, i + 1, v, W => pickD ps i v W
def allStable (R : World -> World -> Prop) : List (Value -> World -> Prop) -> Prop
 | [] => True
 | p :: ps => (∀ v W W', p v W -> R W W' -> p v W') /\ allStable R ps
theorem pickD_stable {R : World -> World -> Prop} : ∀ (ps : List (Value -> World -> Prop)), allStable R ps -> ∀ i v W W', pickD ps i v W -> R W W' -> pickD ps i v W'
 | [], _, _, _, _, _, _, _ => trivial
 | _ :: _, hs, 0, v, W, W', h, hr => hs.1 v W W' h hr
 | _ :: ps, hs, i + 1, v, W, W', h, hr => pickD_stable ps hs.2 i v W W' h hr
abbrev vIs (x : Value) (v : Value) (_ : World) : Prop := v = x
theorem vIs_st {R : World -> World -> Prop} {x : Value} : ∀ v W W', vIs x v W -> R W W' -> vIs x v W' := fun _ _ _ h _ => h
abbrev newer (W W' : World) : Prop := Below W.heap.size W W'
theorem newer_trans {A B C : World} (h : newer A B) (k : newer B C) : newer A C := h.trans (k.mono h.size)
end
section
open Go.RowKit
abbrev truthV (snow soak : Int) (L : Option Addr) (nl lp : Nat) (R : Option Addr) (nr rp : Nat) : Value := .agg #[vi snow, vi soak, .slice L nl lp, .slice R nr rp]
theorem add_row (b off j : Nat) : (⟨b, off, none⟩ : Addr).add j = ⟨b, off + j, none⟩ := by
 unfold Addr.add
 split <;> simp_all
theorem own_ne {w : World} {base : Nat} {e : TypeId} {size n : Nat} {v : Value} {xs : List Value} {g : Nat} {t : TypeId} {cs : Array Value} (h : w.ownsRow base e size v n xs) (hg : Whole w g t cs) (hne : e ≠ t) : v.ownBlock ≠ some g := by
 rcases h.2 with ⟨rfl, _⟩ | ⟨g', cap, cur, rfl, _, hh, _⟩
 ·simp [Value.ownBlock]
 ·intro he
  have e1 : g' = g := by simpa [Value.ownBlock] using he
  subst e1
  unfold Whole at hg
  rw [hh] at hg
  injection hg with hg
  injection hg with _ ht
  exact hne ht
theorem own_ge {w : World} {base : Nat} {e : TypeId} {size n : Nat} {v : Value} {xs : List Value} (h : w.ownsRow base e size v n xs) : ∀ k, v.ownBlock = some k -> base <= k := by
 intro k hk
 rcases h.2 with ⟨rfl, _⟩ | ⟨g', cap, cur, rfl, hb, _⟩
 ·simp [Value.ownBlock] at hk
 ·have e1 : g' = k := by simpa [Value.ownBlock] using hk
  omega
theorem own_form {w : World} {base : Nat} {e : TypeId} {size n : Nat} {v : Value} {xs : List Value} (h : w.ownsRow base e size v n xs) : ∃ A cap, v = .slice A n cap := by
 rcases h.2 with ⟨rfl, rfl⟩ | ⟨g', cap, cur, rfl, _⟩
 ·exact ⟨_, _, rfl⟩
 ·exact ⟨_, _, rfl⟩
theorem row_of_own {α : Type} {enc : α -> List Value} {w : World} {base : Nat} {e : TypeId} {size n cap : Nat} {A : Option Addr} {l : List α} (hs : 0 < size) (he : ∀ x, (enc x).length = size) (h : w.ownsRow base e size (.slice A n cap) n (l.flatMap enc)) : Row enc size w w.heap.size A l := by
 intro hl
 have hlen : (l.flatMap enc).length = l.length * size := by
  clear h hl
  induction l with
  | nil => simp
  | cons x l ih => simp [List.flatMap_cons, ih, he, Nat.add_mul]; omega
 rcases h.2 with ⟨h1, rfl⟩ | ⟨g, cap', cur, h1, hb, hh, hn, _, hcur, htake⟩
 ·have := h.1
  rw [hlen] at this
  injection h1 with h2 h3 h4
  rcases l with _ | ⟨x, l⟩
  ·exact absurd rfl hl
  ·simp at this
   exact absurd this (Nat.ne_of_gt (Nat.mul_pos (Nat.succ_pos l.length) hs))
 ·injection h1 with h2 h3 h4
  refine ⟨g, 0, h2, (Array.getElem?_eq_some_iff.1 hh).1, fun k x hk j v hv => ?_⟩
  have hj : j < size := by rw [<- he x]; exact (List.getElem?_eq_some_iff.1 hv).1
  have hget : (l.flatMap enc)[k * size + j]? = some v := by
   clear h hlen htake hl
   induction l generalizing k with
   | nil => simp at hk
   | cons y l ih =>
    cases k with
    | zero =>
     simp at hk; subst hk
     simp only [List.flatMap_cons, Nat.zero_mul, Nat.zero_add]
     rw [List.getElem?_append_left (by rw [he]; exact hj)]; exact hv
    | succ k =>
     simp only [List.getElem?_cons_succ] at hk
     simp only [List.flatMap_cons]
     rw [List.getElem?_append_right (by rw [he]; simp [Nat.add_mul]; omega), he]
     rw [show (k + 1) * size + j - size = k * size + j by simp [Nat.add_mul]; omega]
     exact ih k hk
  rw [<- htake, List.getElem?_take] at hget
  split at hget
  ·simp only [Nat.zero_add]
   unfold World.cell?
   simp [hh]
   simpa using hget
  ·cases hget
theorem own_set {w : World} {base : Nat} {e : TypeId} {size n : Nat} {v : Value} {xs : List Value} {g i : Nat} (h : w.ownsRow base e size v n xs) (hg : v.ownBlock ≠ some g) (u : Value) : (w.setCell ⟨g, i, none⟩ u).ownsRow base e size v n xs :=
 h.kept (grown_set (p := ⟨g, i, none⟩) (grown_refl w (some g)) (.inl rfl) u) (.inr hg)
theorem own_below {w w' : World} {base : Nat} {e : TypeId} {size n : Nat} {v : Value} {xs : List Value} (h : w.ownsRow base e size v n xs) (hb : Below w.heap.size w w') : w'.ownsRow base e size v n xs :=
 h.kept (row := none) ⟨hb.os, hb.tape, hb.output, hb.size, fun i hi _ => hb.block i hi⟩ (by rcases Option.eq_none_or_eq_some v.ownBlock with h | ⟨k, h⟩ <;> simp [h])
theorem keep_cell {W W' : World} {p : Addr} {v : Value} (h : W.cell? p = some v) (hb : Below W.heap.size W W') : W'.cell? p = some v := (hb.cell (World.block_lt_of_cell? W _ h)).trans h
end
section
open Go.RowKit
def vNew (B : Nat) (t : TypeId) (cs : Array Value) (v : Value) (W : World) : Prop := ∃ nb, v = .pointer (some ⟨nb, 0, none⟩) /\ B <= nb /\ Whole W nb t cs
theorem vNew_st {B : Nat} {t : TypeId} {cs : Array Value} : ∀ v W W', vNew B t cs v W -> newer W W' -> vNew B t cs v W' := fun _ _ _ ⟨nb, h1, h2, h3⟩ hb => ⟨nb, h1, h2, h3.below hb h3.lt⟩
def vOne (B : Nat) (t : TypeId) (cs : Array Value) (v : Value) (W : World) : Prop := ∃ nb, v = .slice (some ⟨nb, 0, none⟩) 1 1 /\ B <= nb /\ Whole W nb t cs
theorem vOne_st {B : Nat} {t : TypeId} {cs : Array Value} : ∀ v W W', vOne B t cs v W -> newer W W' -> vOne B t cs v W' := fun _ _ _ ⟨nb, h1, h2, h3⟩ hb => ⟨nb, h1, h2, h3.below hb h3.lt⟩
theorem take_flat {α : Type} (f : α -> List Value) (l : List α) (k : Nat) (x : α) (h : l[k]? = some x) : (l.take (k + 1)).flatMap f = (l.take k).flatMap f ++ f x := by
 obtain ⟨hk, rfl⟩ := List.getElem?_eq_some_iff.1 h
 rw [List.take_succ_eq_append_getElem hk, List.flatMap_append]
 simp
theorem grown_row {a w w1 : World} {row : Option Nat} {v : Value} (h : a.grownBy w row) (hg : w.grownBy w1 v.ownBlock) (hv : ∀ k, v.ownBlock = some k -> a.heap.size <= k) : a.grownBy w1 row :=
 ⟨hg.os.trans h.os, hg.tape.trans h.tape, hg.output.trans h.output, Nat.le_trans h.size hg.size, fun i hi hne => (hg.block i (Nat.lt_of_lt_of_le hi h.size) (fun e => by have := hv i e.symm; omega)).trans (h.block i hi hne)⟩
theorem own_more {w : World} {base base' : Nat} {e : TypeId} {size n : Nat} {v : Value} {xs : List Value} (h : w.ownsRow base' e size v n xs) (hb : base <= base') : w.ownsRow base e size v n xs := by
 obtain ⟨h1, h2⟩ := h
 refine ⟨h1, ?_⟩
 rcases h2 with h2 | ⟨g, cap, cur, a, b, c⟩
 ·exact .inl h2
 ·exact .inr ⟨g, cap, cur, a, by omega, c⟩
theorem grown_drew {a w : World} {row : Option Nat} (h : a.grownBy w row) : a.grownBy w.drew row := ⟨h.os, h.tape, h.output, h.size, h.block⟩
end
section
open Go.RowKit Go.Shelf
section
variable {P : Program} {b : Frame} {a : Act} {k : List Item} {cs : List Frame} {w : World} {Q : Exit -> Act -> World -> Prop} {F : Fence} {n : Nat}
theorem stepR_scope {c : Code} : step P (lone (b.atR a (.code (.scope c) :: k)) cs w) = .next (lone (b.atR a (.code c :: .inScope c :: k)) cs w) :=
 step_lone_go (by simp [stepG, stepG.exec, Frame.atR])
theorem stepR_inScope {c : Code} : step P (lone (b.atR a (.inScope c :: k)) cs w) = .next (lone (b.atR a k) cs w) :=
 step_lone_go (by simp [stepG, stepG.exec, Frame.atR])
theorem wpIn_scope_straight {c : Code} (h : c.wpIn F n P (Exit.noGoto Q) a w) : (Code.scope c).wpIn F n P Q a w := by
 intro b k cs hro hb hr
 have h0 : (lone (b.atR a (.code (.scope c) :: k)) cs w).fenced P F := fenced_calm hb hr rfl
 obtain ⟨e, a₁, w₁, hq, harr⟩ := h b (.inScope c :: k) cs hro hb hr
 cases e with
 | normal => exact ⟨.normal, a₁, w₁, hq, .head h0 stepR_scope (StepsIn.trans harr (.one (fenced_calm hb hr rfl) stepR_inScope))⟩
 | exit id =>
  have hx : exitTo id (.inScope c :: k) = exitTo id k := by simp [exitTo]
  exact ⟨.exit id, a₁, w₁, hq, fun k' hk => .head h0 stepR_scope (harr.1 k' (by rw [hx]; exact hk)), fun hr' hk => let ⟨k₁, h1, h2⟩ := harr.2 hr' (by rw [hx]; exact hk); ⟨k₁, h1, .head h0 stepR_scope h2⟩⟩
 | goto l => exact hq.elim
 | ret => exact ⟨_, a₁, w₁, hq, .of_steps (.one h0 stepR_scope) harr⟩
 | panic ch => exact ⟨_, a₁, w₁, hq, .of_steps (.one h0 stepR_scope) harr⟩
 | outgrown => exact ⟨_, a₁, w₁, hq, .of_steps (.one h0 stepR_scope) harr⟩
end
def firstD (n : Nat) (p : Nat -> Bool) : Int := idx p (List.range n)
theorem heap_if (w : World) (o : Obj) (k : Nat) : (w.alloc o).heap[k]? = if k = w.heap.size then some o else w.heap[k]? := by
 show (w.heap.push o)[k]? = _
 rw [Array.getElem?_push]
theorem grown_put {a w : World} {row : Option Nat} (h : a.grownBy w row) {l : Nat} (hl : a.heap.size <= l) (o : Obj) : a.grownBy (w.putObj l o) row :=
 ⟨h.os, h.tape, h.output, by simpa using h.size, fun i hi hne => (World.putObj_heap_other (by omega)).trans (h.block i hi hne)⟩
theorem Whole.put {w : World} {g : Nat} {t : TypeId} {cs : Array Value} (h : Whole w g t cs) {l : Nat} (hl : g ≠ l) (o : Obj) : Whole (w.putObj l o) g t cs := (World.putObj_heap_other hl).trans h
end
section
open Go.RowKit
section
variable {W W' : World} {base n : Nat} {v1 v2 : Value} {gb : Nat -> Nat} {k : Nat} {lo hi : Nat -> Nat -> Int} {sl sh : Nat -> Int}
theorem own_lt {w : World} {base : Nat} {e : TypeId} {size n : Nat} {v : Value} {xs : List Value} (h : w.ownsRow base e size v n xs) : ∀ k, v.ownBlock = some k -> k < w.heap.size := by
 intro k hk
 rcases h.2 with ⟨rfl, _⟩ | ⟨g', cap, cur, rfl, hb, hh, _⟩
 ·simp [Value.ownBlock] at hk
 ·have e1 : g' = k := by simpa [Value.ownBlock] using hk
  subst e1
  exact (Array.getElem?_eq_some_iff.1 hh).1
end
end
section
open Go.RowKit
theorem newer_refl (W : World) : newer W W := Below.refl _ _
theorem grown_of_newer {W W' : World} (h : newer W W') (row : Option Nat) : W.grownBy W' row := ⟨h.os, h.tape, h.output, h.size, fun i hi _ => h.block i hi⟩
def relAt (m : Nat) (R : World -> World -> Prop) (i : Nat) : World -> World -> Prop := match Nat.beq i m with
 | true => R
 | false => newer
def allBut (R : World -> World -> Prop) (m : Nat) : Nat -> List (Value -> World -> Prop) -> Prop
 | _, [] => True
 | i, p :: ps => (match Nat.beq i m with
   | true => ∀ v W W', p v W -> newer W W' -> p v W'
   | false => ∀ v W W', p v W -> R W W' -> p v W') /\ allBut R m (i + 1) ps
theorem allBut_get {R : World -> World -> Prop} {m : Nat} (hR : ∀ W W', newer W W' -> R W W') : ∀ (ps : List (Value -> World -> Prop)) (k : Nat), allBut R m k ps -> ∀ j v W W' i, j + k ≠ i -> pickD ps j v W -> relAt m R i W W' -> pickD ps j v W'
 | [], _, _, _, _, _, _, _, _, _, _ => trivial
 | p :: ps, k, hs, 0, v, W, W', i, hne, h, hr => by
  obtain ⟨h1, _⟩ := hs
  unfold relAt at hr
  cases hk : Nat.beq k m with
  | true =>
   rw [hk] at h1
   have hkm : k = m := Nat.eq_of_beq_eq_true hk
   have : Nat.beq i m = false := by
    cases hb : Nat.beq i m with
    | false => rfl
    | true => exact absurd (Nat.eq_of_beq_eq_true hb) (by omega)
   rw [this] at hr
   exact h1 v W W' h hr
  | false =>
   rw [hk] at h1
   cases hb : Nat.beq i m with
   | true => rw [hb] at hr; exact h1 v W W' h hr
   | false => rw [hb] at hr; exact h1 v W W' h (hR _ _ hr)
 | p :: ps, k, hs, j + 1, v, W, W', i, hne, h, hr => allBut_get hR ps (k + 1) hs.2 j v W W' i (by omega) h hr
theorem allBut_ok {R : World -> World -> Prop} {m n : Nat} (hR : ∀ W W', newer W W' -> R W W') (ps : List (Value -> World -> Prop)) (hs : allBut R m 0 ps) : ∀ i j v W W', i < n -> j ≠ i -> pickD ps j v W -> relAt m R i W W' -> pickD ps j v W' :=
 fun i j v W W' _ hne h hr => allBut_get hR ps 0 hs j v W W' i (by omega) h hr
theorem vOne_grown {B : Nat} {t : TypeId} {cs : Array Value} {row : Option Nat} (hr : ∀ q, row = some q -> q < B) : ∀ v W W', vOne B t cs v W -> W.grownBy W' row -> vOne B t cs v W' :=
 fun _ _ _ ⟨nb, h1, h2, h3⟩ hg => ⟨nb, h1, h2, h3.grown hg (by intro e; have := hr nb e.symm; omega)⟩
theorem setCell_same {w : World} {g i : Nat} {v : Value} (h : w.cell? ⟨g, i, none⟩ = some v) : w.setCell ⟨g, i, none⟩ v = w := by
 unfold World.cell? at h
 have hs : (w.setCell ⟨g, i, none⟩ v).heap = w.heap := by
  apply Array.ext_getElem?
  intro k
  by_cases hk : k = g
  ·subst hk
   simp only [World.setCell, Array.getElem?_modify]
   dsimp only at h
   cases ho : w.heap[k]? with
   | none => simp
   | some o =>
    rw [ho] at h
    cases o with
    | cells c e fr =>
     simp only [Option.isSome_none, Bool.false_eq_true, if_false] at h
     simp only [if_pos, Option.map_some, Option.isSome_none, Bool.false_eq_true, if_false]
     have hc : c.setIfInBounds i v = c := by
      apply Array.ext_getElem?
      intro q
      by_cases hq : i = q
      ·subst hq
       rw [Array.getElem?_setIfInBounds_self_of_lt (Array.getElem?_eq_some_iff.1 h).1, h]
      ·rw [Array.getElem?_setIfInBounds_ne hq]
     rw [hc]
    | _ => simp at h
  ·exact Below.heap_setCell w ⟨g, i, none⟩ v k hk
 show ({ w with heap := (w.setCell ⟨g, i, none⟩ v).heap } : World) = w
 rw [hs]
theorem wp_skips {P : Program} {o : Oper} {a : Act} {W W' : World} {K : Act -> World -> Prop} {Q : Exit -> Act -> World -> Prop} (h : (execOp a.eval o).run P W = .ok .skip W') (hk : K (a.put o.dst undef) W') : o.wp P a W K Q := by
 unfold Oper.wp
 rw [h]
 exact hk
theorem keep_frozen {W W' : World} {p : Addr} {v : Value} (h : W.frozen? p = false) (hc : W.cell? p = some v) (hb : Below W.heap.size W W') : W'.frozen? p = false := (hb.frozen (World.block_lt_of_cell? W _ hc)).trans h
theorem eval_slot (a : Act) (t : Nat) : a.eval (.tmp t) = slotOf a t := by simp [Act.eval, slotOf]
theorem keep_low {w7 W : World} {row : Option Nat} {base : Nat} {p : Addr} {v : Value} (h : w7.cell? p = some v) (hG : w7.grownBy W row) (hnv : ∀ q, row = some q -> base <= q) (hp : p.block < base) : W.cell? p = some v :=
 (World.cell?_of_block (hG.block p.block (World.block_lt_of_cell? w7 _ h) (fun e => by have := hnv _ e.symm; omega))).trans h
theorem grown_trans' {a b c : World} {row : Option Nat} (h : a.grownBy b row) (k : b.grownBy c row) : a.grownBy c row :=
 ⟨k.os.trans h.os, k.tape.trans h.tape, k.output.trans h.output, Nat.le_trans h.size k.size, fun i hi hne => (k.block i (Nat.lt_of_lt_of_le hi h.size) hne).trans (h.block i hi hne)⟩
theorem own_own_ne {w : World} {base base' : Nat} {e e' : TypeId} {size size' n n' : Nat} {v v' : Value} {xs xs' : List Value} (h : w.ownsRow base e size v n xs) (h' : w.ownsRow base' e' size' v' n' xs') (hne : e ≠ e') : ∀ q, v.ownBlock = some q -> v'.ownBlock ≠ some q := by
 intro q hq hq'
 rcases h.2 with ⟨rfl, _⟩ | ⟨g, cap, cur, rfl, _, hh, _⟩
 ·simp [Value.ownBlock] at hq
 ·rcases h'.2 with ⟨rfl, _⟩ | ⟨g', cap', cur', rfl, _, hh', _⟩
  ·simp [Value.ownBlock] at hq'
  ·have e1 : g = q := by simpa [Value.ownBlock] using hq
   have e2 : g' = q := by simpa [Value.ownBlock] using hq'
   subst e1
   subst e2
   rw [hh] at hh'
   injection hh' with hh'
   injection hh' with _ ht
   exact hne ht
theorem below_grown {B : Nat} {a w : World} {row : Option Nat} (h : a.grownBy w row) (hr : ∀ q, row = some q -> B <= q) (hB : B <= a.heap.size) : Below B a w :=
 ⟨h.os, h.tape, h.output, h.size, fun i hi => h.block i (by omega) (fun e => by have := hr i e.symm; omega)⟩
end
section
open Go.RowKit Go.Shelf
structure Kept (X : Nat -> Prop) (w W : World) : Prop where
 os : W.os = w.os
 tape : W.tape = w.tape
 output : W.output = w.output
 size : w.heap.size <= W.heap.size
 block : ∀ i, i < w.heap.size -> ¬ X i -> W.heap[i]? = w.heap[i]?
theorem Row.var {α : Type} {enc : α -> List Value} {s B : Nat} {W : World} {A : Option Addr} {l : List α} (h : Row enc s W B A l) (he : ∀ x, ∃ n, (enc x)[0]? = some (vi n)) {nb : Nat} {t : TypeId} {x : Value} (hu : ∀ n, x ≠ vi n) (hW : Whole W nb t #[x]) (u : Value) : Row enc s (W.setCell ⟨nb, 0, none⟩ u) B A l := by
 intro hl
 obtain ⟨b, off, e, hb, hc⟩ := h hl
 have hne : b ≠ nb := by
  rintro rfl
  obtain ⟨y, ys, rfl⟩ := List.exists_cons_of_ne_nil hl
  obtain ⟨n, hn⟩ := he y
  have h1 := hc 0 y rfl 0 _ hn
  unfold Whole at hW
  simp only [World.cell?, hW] at h1
  rcases Nat.eq_zero_or_pos off with rfl | hp
  ·simp at h1
   exact hu n h1
  ·have h2 : (#[x] : Array Value)[off + 0 * s + 0]? = none := Array.getElem?_eq_none (by simp; omega)
   simp only [Option.isSome_none, Bool.false_eq_true, if_false] at h1
   rw [h2] at h1
   cases h1
 exact ⟨b, off, e, hb, fun k x hk j v hv => (World.cell?_of_block (Below.heap_setCell W ⟨nb, 0, none⟩ u b hne)).trans (hc k x hk j v hv)⟩
theorem Whole.ne {W : World} {g g' : Nat} {t t' : TypeId} {cs cs' : Array Value} (h : Whole W g t cs) (h' : Whole W g' t' cs') (hne : t ≠ t') : g ≠ g' := by
 rintro rfl
 unfold Whole at h h'
 rw [h] at h'
 injection h' with h'
 injection h' with _ ht
 exact hne ht
theorem mapAt {α : Type} (f : α -> Int) (l : List α) (k : Nat) (x : α) (h : l[k]? = some x) : iAt (l.map f) k = f x := by simp [iAt, h]
section
variable {X : Nat -> Prop} {w W W' : World}
theorem Kept.refl (X : Nat -> Prop) (w : World) : Kept X w w := ⟨rfl, rfl, rfl, Nat.le_refl _, fun _ _ _ => rfl⟩
theorem Kept.newer (h : Kept X w W) (hb : newer W W') : Kept X w W' := ⟨hb.os.trans h.os, hb.tape.trans h.tape, hb.output.trans h.output, Nat.le_trans h.size hb.size, fun i hi hx => (hb.block i (Nat.lt_of_lt_of_le hi h.size)).trans (h.block i hi hx)⟩
theorem Kept.grown (h : Kept X w W) {x : Nat} (hg : W.grownBy W' (some x)) (hx : X x ∨ w.heap.size <= x) : Kept X w W' :=
 ⟨hg.os.trans h.os, hg.tape.trans h.tape, hg.output.trans h.output, Nat.le_trans h.size hg.size, fun i hi hn => (hg.block i (Nat.lt_of_lt_of_le hi h.size) (by
  intro e
  injection e with e
  subst e
  rcases hx with hx | hx
  ·exact hn hx
  ·omega)).trans (h.block i hi hn)⟩
theorem Kept.whole (h : Kept X w W) {g : Nat} {t : TypeId} {cs : Array Value} (hw : Whole w g t cs) (hx : ¬ X g) : Whole W g t cs := (h.block g hw.lt hx).trans hw
theorem Kept.below (h : Kept X w W) {B : Nat} (hB : B <= w.heap.size) (hx : ∀ i, i < B -> ¬ X i) : Below B w W := ⟨h.os, h.tape, h.output, h.size, fun i hi => h.block i (by omega) (hx i hi)⟩
end
theorem grown_putL (W : World) (l : Nat) (o : Obj) : W.grownBy (W.putObj l o) (some l) := ⟨rfl, rfl, rfl, by simp, fun _ _ hk => World.putObj_heap_other (fun e => hk (by rw [e]))⟩
end
section
open Go.RowKit

end
section
open Go.RowKit
theorem row_alloc {α : Type} {enc : α -> List Value} {s : Nat} {w : World} {A : Option Addr} {l : List α} (h : Row enc s w w.heap.size A l) (o : Obj) : Row enc s (w.alloc o) (w.alloc o).heap.size A l :=
 (h.below ((Below.refl _ _).alloc (Nat.le_refl _) o)).more (by simp)
structure Halved (p : Int -> Bool) (a b low high : Int) : Prop where
 le1 : a <= low
 le2 : low <= high + 1
 le3 : high <= b
 lower : low = a ∨ p (low - 1) = false
 upper : high = b ∨ p (high + 1) = true
def lowestOut (p : Int -> Bool) (a b : Int) (I : World -> Prop) (e : Ending) (w' : World) : Prop := ∃ n, e = .returned (.int .i64 n) /\ Halved p a b n (n - 1) /\ I w'
end
section
open Go.RowKit
theorem flat_get {α : Type} {enc : α -> List Value} {s : Nat} (hs : 0 < s) (he : ∀ x, (enc x).length = s) : ∀ (l : List α) (j : Nat) (u : Value), (l.flatMap enc)[j]? = some u -> ∃ x, l[j / s]? = some x /\ (enc x)[j % s]? = some u
 | [], j, u, h => by simp at h
 | y :: l, j, u, h => by
  simp only [List.flatMap_cons] at h
  rcases Nat.lt_or_ge j s with hj | hj
  ·rw [List.getElem?_append_left (by rw [he]; exact hj)] at h
   exact ⟨y, by rw [Nat.div_eq_of_lt hj]; rfl, by rw [Nat.mod_eq_of_lt hj]; exact h⟩
  ·rw [List.getElem?_append_right (by rw [he]; exact hj), he] at h
   obtain ⟨x, h1, h2⟩ := flat_get hs he l (j - s) u h
   refine ⟨x, ?_, ?_⟩
   ·rw [show j / s = (j - s) / s + 1 by rw [<- Nat.sub_add_cancel hj, Nat.add_div_right _ hs]; simp]
    simpa using h1
   ·rw [<- Nat.mod_eq_sub_mod hj] at h2
    exact h2
theorem row_news {α : Type} {enc : α -> List Value} {s B : Nat} (hs : 0 < s) (he : ∀ x, (enc x).length = s) {w : World} {b off : Nat} {l : List α} (h : Row enc s w B (some ⟨b, off, none⟩) l) : ∀ j u, (l.flatMap enc)[j]? = some u -> w.cell? ((⟨b, off, none⟩ : Addr).add j) = some u := by
 intro j u hu
 obtain ⟨x, h1, h2⟩ := flat_get hs he l j u hu
 obtain ⟨b', off', e, _, hc⟩ := h (ne_nil_of_get h1)
 injection e with e
 injection e with e1 e2
 subst e1
 subst e2
 rw [add_row]
 have := hc (j / s) x h1 (j % s) u h2
 rw [show off + j / s * s + j % s = off + j by have := Nat.div_add_mod j s; rw [Nat.mul_comm] at this; omega] at this
 exact this
theorem flat_len {α : Type} {enc : α -> List Value} {s : Nat} (he : ∀ x, (enc x).length = s) (l : List α) : (l.flatMap enc).length = l.length * s := by
 induction l with
 | nil => simp
 | cons y l ih => simp only [List.flatMap_cons, List.length_append, ih, he, List.length_cons]; rw [Nat.add_mul]; omega
end
section
open Go.RowKit
variable {P : Program}
end
section
open Go.RowKit
variable {P : Program}
def relG (l : List Oper) (n : Nat) : Bool :=
 decide (n < l.length) && Region.sinkB .any l.toArray n && Region.chainB .any l.toArray n &&
 ((List.range l.length).all fun i => match l[i]? with
  | some o => o.after.all (fun e => !Region.binds .any e || decide (e.on < i)) && (match o.guard with
   | none => true
   | some (j, _) => decide (j < i) && o.after.toList.any (fun e => Region.binds .any e && e.on == j) && (match l[j]? with
    | some oj => oj.dst.isSome
    | none => false))
  | none => true) &&
 ((List.range n).all fun i => (List.range n).all fun j => decide (i = j) || match l[i]?, l[j]? with
  | some o, some o' => o.dst.isNone || (o.dst != o'.dst)
  | _, _ => true) &&
 Region.seqB .any l.toArray (l.length - n) n (headDone n l.length)
end
section
open Go.RowKit
end
section
theorem soaks_mono {k k' d d' : Int} (hk0 : 0 <= k') (hk : k' <= k) (hd0 : 0 <= d') (hd : d' <= d) : soaksOf k' d' <= soaksOf k d := by
 unfold soaksOf
 have a : d' * k' <= d * k' := Int.mul_le_mul_of_nonneg_right hd hk0
 have b : d * k' <= d * k := Int.mul_le_mul_of_nonneg_left hk (by omega)
 omega
end
section
open Go.RowKit
theorem wp_append_new {P : Program} {w : World} {o : Oper} {a : Act} {K : Act -> World -> Prop} {Q : Exit -> Act -> World -> Prop} (s x : Operand) (t : TypeId)
  (ho : o.op = .call { callee := .builtin .append, args := #[s, x], argTypes := #[t, t] })
  (e : TypeId) (i : TypeInfo) (z : Value) (size bytes : Nat) (ht : P.underlying t = some (.slice e)) (hi : P.info? e = some i) (hz : i.zero = some z)
  (hsize : i.size = size) (hby : i.bytes = bytes) (hzs : z.cells.size = size) (hsz : 0 < size) (b : Addr) (hs : a.eval s = .slice (some b) 0 0)
  (ad : Addr) (m c : Nat) (news : List Value) (hx : a.eval x = .slice (some ad) m c) (hl : news.length = m * size) (hnews : ∀ j u, news[j]? = some u -> w.cell? (ad.add j) = some u)
  (hm : 0 < m) (h63 : m <= maxLen) (hbytes : m * bytes <= 140737488355328)
  (h : ∀ g cap w', w'.ownsRow w.heap.size e size (.slice (some ⟨g, 0, none⟩) m cap) m news -> Below w.heap.size w w' -> K (a.put o.dst (.slice (some ⟨g, 0, none⟩) m cap)) w') : o.wp P a w K Q := by
 obtain ⟨v', w', hr, h2, h3⟩ := run_append_arg_grows (P := P) w t o.type e i z size bytes ht hi hz hsize hby hzs hsz b 0 0 [] (by simp) (fun j u hj => by simp at hj) ad m c news hl hnews (by omega) (by omega) (by rw [Nat.zero_add]; exact hbytes)
 simp only [Nat.zero_add, List.nil_append] at h2
 obtain ⟨g, cap, rfl, _, _⟩ := h2.form hm
 unfold Oper.wp execOp
 simp only [ho, resolve, invoke, builtin, Sem.run_bind, Sem.run_pure, Result.andThen_ok, List.map_toArray, List.map_cons, List.map_nil, hs, hx, hr]
 exact h g cap w' h2 ⟨h3.os, h3.tape, h3.output, h3.size, fun k hk => h3.block k hk (by simp)⟩
end
section
open Go.RowKit
theorem newer_drewN (W : World) (n : Nat) : newer W (W.drewN n) := ⟨rfl, rfl, rfl, Nat.le_refl _, fun _ _ => rfl⟩

def apart2 (v v' : Value) : Prop := ∀ b b', v.ownBlock = some b -> v'.ownBlock = some b' -> b ≠ b'
end
section
open Go.RowKit

theorem apart_row {v v' : Value} (h : ∀ q, v.ownBlock = some q -> v'.ownBlock ≠ some q) : v.ownBlock = none ∨ v.ownBlock ≠ v'.ownBlock := by
 rcases Option.eq_none_or_eq_some v.ownBlock with e | ⟨q, e⟩
 ·exact .inl e
 ·exact .inr (fun e2 => h q e (e2.symm.trans e))
theorem own_ge_slice {w : World} {base : Nat} {e : TypeId} {size n c : Nat} {a : Addr} {xs : List Value} (h : w.ownsRow base e size (.slice (some a) n c) n xs) : base <= a.block := by
 rcases h.2 with ⟨h0, _⟩ | ⟨g, cap, cur, h0, hb, _⟩
 ·simp at h0
 ·injection h0 with h1
  injection h1 with h1
  rw [h1]
  exact hb
end
section
open Go.RowKit
end
section
open Go.RowKit
theorem flat_at {α : Type} {enc : α -> List Value} {s : Nat} (he : ∀ x, (enc x).length = s) : ∀ (l : List α) (k : Nat) (x : α), l[k]? = some x -> ∀ (j : Nat) (v : Value), (enc x)[j]? = some v -> (l.flatMap enc)[k * s + j]? = some v
 | [], k, x, hk, _, _, _ => by simp at hk
 | y :: l, 0, x, hk, j, v, hv => by
  simp at hk; subst hk
  have hj : j < s := by rw [<- he y]; exact (List.getElem?_eq_some_iff.1 hv).1
  simp only [List.flatMap_cons, Nat.zero_mul, Nat.zero_add]
  rw [List.getElem?_append_left (by rw [he]; exact hj)]; exact hv
 | y :: l, k + 1, x, hk, j, v, hv => by
  simp only [List.getElem?_cons_succ] at hk
  simp only [List.flatMap_cons]
  rw [List.getElem?_append_right (by rw [he]; simp [Nat.add_mul]; omega), he]
  rw [show (k + 1) * s + j - s = k * s + j by simp [Nat.add_mul]; omega]
  exact flat_at he l k x hk j v hv
theorem row_of_whole {α : Type} {enc : α -> List Value} {s : Nat} (he : ∀ x, (enc x).length = s) {W : World} {b : Nat} {t : TypeId} {cs : Array Value} {l : List α} (h : Whole W b t cs) (hcs : cs.toList = l.flatMap enc) : Row enc s W W.heap.size (some ⟨b, 0, none⟩) l := fun _ => by
 refine ⟨b, 0, rfl, h.lt, fun k x hk j v hv => ?_⟩
 have := flat_at he l k x hk j v hv
 rw [<- hcs] at this
 rw [Nat.zero_add]
 exact h.at _ (by simpa using this)
end
section
open Go.RowKit
theorem firstD_none {n : Nat} {p : Nat -> Bool} : (firstD n p == -1) = true ↔ ∀ k, k < n -> p k = false := by
 unfold firstD idx
 cases h : (List.range n).findIdx? p with
 | none =>
  rw [List.findIdx?_eq_none_iff] at h
  simp only [beq_self_eq_true, true_iff]
  exact fun k hk => by simpa using h k (List.mem_range.2 hk)
 | some i =>
  rw [List.findIdx?_eq_some_iff_getElem] at h
  obtain ⟨hi, hp, _⟩ := h
  simp only [List.getElem_range] at hp
  constructor
  ·intro e
   simp at e
  ·intro hh
   rw [hh i (by simpa using hi)] at hp
   cases hp
theorem halved_ok {p : Int -> Bool} (hm : ∀ a b, 0 <= a -> a <= b -> b <= 100000 -> p a = true -> p b = true) {n : Int} (h : Halved p 0 100000 n (n - 1)) :
  0 <= n /\ n <= 100001 /\ (n <= 100000 ↔ p 100000 = true) /\ (n <= 100000 -> p n = true) /\ (n = 0 ∨ p (n - 1) = false) := by
 have l1 := h.le1
 have l3 := h.le3
 have hu : n <= 100000 -> p n = true := fun hn => by
  rcases h.upper with e | e
  ·omega
  ·rw [show n - 1 + 1 = n by omega] at e; exact e
 refine ⟨l1, by omega, ⟨fun hn => hm n 100000 l1 hn (Int.le_refl _) (hu hn), fun hp => ?_⟩, hu, h.lower⟩
 rcases Int.lt_or_le 100000 n with hlt | hle
 ·have e : n = 100001 := by omega
  subst e
  rcases h.lower with e | e
  ·omega
  ·rw [show (100001 : Int) - 1 = 100000 by omega, hp] at e; cases e
 ·exact hle
end
section
open Go.RowKit
end
section
open Go.RowKit
def vBox (B : Nat) (t : TypeId) (cs : Array Value) (v : Value) (W : World) : Prop := ∃ nb, v = .pointer (some ⟨nb, 0, none⟩) /\ B <= nb /\ Whole W nb t cs
theorem vBox_st {B : Nat} {t : TypeId} {cs : Array Value} : ∀ v W W', vBox B t cs v W -> newer W W' -> vBox B t cs v W' := fun _ _ _ ⟨nb, h1, h2, h3⟩ hb => ⟨nb, h1, h2, h3.below hb h3.lt⟩
end
section
open Go.ChangeShapes Go.WideShapes Go.ChangeAt Go.RowKit Go.Deep
theorem len2 {α : Type} {l : List α} (h : l.length = 2) : ∃ a b, l = [a, b] := by
 match l, h with
 | [a, b], _ => exact ⟨a, b, rfl⟩
theorem len3 {α : Type} {l : List α} (h : l.length = 3) : ∃ a b c, l = [a, b, c] := by
 match l, h with
 | [a, b, c], _ => exact ⟨a, b, c, rfl⟩
theorem len4 {α : Type} {l : List α} (h : l.length = 4) : ∃ a b c d, l = [a, b, c, d] := by
 match l, h with
 | [a, b, c, d], _ => exact ⟨a, b, c, d, rfl⟩
theorem len6 {α : Type} {l : List α} (h : l.length = 6) : ∃ a b c d e f, l = [a, b, c, d, e, f] := by
 match l, h with
 | [a, b, c, d, e, f], _ => exact ⟨a, b, c, d, e, f, rfl⟩
theorem len7 {α : Type} {l : List α} (h : l.length = 7) : ∃ a b c d e f g, l = [a, b, c, d, e, f, g] := by
 match l, h with
 | [a, b, c, d, e, f, g], _ => exact ⟨a, b, c, d, e, f, g, rfl⟩
end
section
open Go.RowKit
end
section
open Go.RowKit

end
section
open Go.RowKit
end
section
open Go.RowKit
variable {P : Program}
def edgeB (l : List Oper) (j k : Nat) : Bool := match l[j]? with
 | some o => o.after.toList.any (fun e => Region.binds .any e && e.on == k)
 | none => false
theorem edge_of {l : List Oper} {j k : Nat} (h : edgeB l j k = true) : ∃ o, l[j]? = some o /\ ∃ e ∈ o.after, Region.binds .any e = true /\ e.on = k := by
 unfold edgeB at h
 cases hj : l[j]? with
 | none => rw [hj] at h; cases h
 | some o =>
  rw [hj] at h
  simp only [List.any_eq_true, Bool.and_eq_true, beq_iff_eq] at h
  obtain ⟨e, he, hb, hon⟩ := h
  exact ⟨o, rfl, e, Array.mem_toList_iff.1 he, hb, hon⟩
end
section
open Go.ChangeShapes Go.WideShapes Go.ChangeAt Go.RowKit Go.Deep
end
section
open Go.RowKit
def goodB (n : Nat) (p : Nat -> Bool) : Bool := (List.range n).all p
theorem goodB_true {n : Nat} {p : Nat -> Bool} (h : ∀ j, j < n -> p j = true) : goodB n p = true := by
 unfold goodB
 rw [List.all_eq_true]
 exact fun x hx => h x (List.mem_range.1 hx)
theorem goodB_false {n j : Nat} {p : Nat -> Bool} (hj : j < n) (h : p j = false) : goodB n p = false := by
 unfold goodB
 rw [List.all_eq_false]
 exact ⟨j, List.mem_range.2 hj, by simp [h]⟩
def goodTo (p : Nat -> Bool) (k : Nat) : Prop := ∀ j, j < k -> p j = true
theorem goodTo_zero (p : Nat -> Bool) : goodTo p 0 := fun _ h => by omega
theorem goodTo_succ {p : Nat -> Bool} {k : Nat} (h : goodTo p k) (hk : p k = true) : goodTo p (k + 1) := fun j hj => by
 rcases Nat.lt_or_ge j k with h1 | h1
 ·exact h j h1
 ·obtain rfl : j = k := by omega
  exact hk
theorem genIn2 {P : Program} {c : Code} {Q : Exit -> Act -> World -> Prop} {a : Act} {w : World} (F : World -> Prop) (hF : F w) (h : ∀ w', F w' -> Code.wp P c Q a w') : Code.wp P c Q a w := h w hF
end
section
open Go.RowKit
def copied (w : World) (l : List Int) (e : Ending) (w' : World) : Prop := ∃ A c, e = .returned (.slice A l.length c) /\ Row intL 1 w' w'.heap.size A l /\ Below w.heap.size w w' /\ ∀ a, A = some a -> w.heap.size <= a.block
theorem genQ {P : Program} {c : Code} {Q : Exit -> Act -> World -> Prop} {a : Act} {w : World} (F : World -> Prop) (hF : F w) (h : ∀ w', F w' -> Code.wp P c Q a w') : Code.wp P c Q a w := h w hF
def vCp (H : Nat) (l : List Int) (v : Value) (W : World) : Prop := ∃ A c, v = .slice A l.length c /\ Row intL 1 W W.heap.size A l /\ ∀ a, A = some a -> H <= a.block
theorem vCp_st {H : Nat} {l : List Int} : ∀ v W W', vCp H l v W -> newer W W' -> vCp H l v W' := fun _ _ _ ⟨A, c, h1, h2, h3⟩ hb => ⟨A, c, h1, (h2.below hb).more hb.size, h3⟩
theorem row_set {α : Type} {enc : α -> List Value} {s : Nat} {X : World} {A : Option Addr} {l : List α} (h : Row enc s X X.heap.size A l) (p : Addr) (u : Value) (hne : ∀ a, A = some a -> a.block ≠ p.block) : Row enc s (X.setCell p u) (X.setCell p u).heap.size A l := fun hl => by
 obtain ⟨b, off, e, hb, hc⟩ := h hl
 have hp : b ≠ p.block := hne _ e
 exact ⟨b, off, e, by simpa [World.setCell] using hb, fun k x hx j v hv => (World.cell?_of_block (Below.heap_setCell X p u b hp)).trans (hc k x hx j v hv)⟩
def vTrH (H : Nat) (snow soak : Int) (lv rn : List Int) (v : Value) (W : World) : Prop := ∃ L lp R rp, v = truthV snow soak L lv.length lp R rn.length rp /\ (Row intL 1 W W.heap.size L lv /\ ∀ a, L = some a -> H <= a.block) /\ (Row intL 1 W W.heap.size R rn /\ ∀ a, R = some a -> H <= a.block)
theorem vTrH_st {H : Nat} {snow soak : Int} {lv rn : List Int} : ∀ v W W', vTrH H snow soak lv rn v W -> newer W W' -> vTrH H snow soak lv rn v W' := fun _ _ _ ⟨L, lp, R, rp, h1, ⟨h2, h4⟩, h3, h5⟩ hb => ⟨L, lp, R, rp, h1, ⟨(h2.below hb).more hb.size, h4⟩, (h3.below hb).more hb.size, h5⟩
def vTr (snow soak : Int) (lv rn : List Int) (v : Value) (W : World) : Prop := ∃ L lp R rp, v = truthV snow soak L lv.length lp R rn.length rp /\ Row intL 1 W W.heap.size L lv /\ Row intL 1 W W.heap.size R rn
theorem vTr_st {snow soak : Int} {lv rn : List Int} : ∀ v W W', vTr snow soak lv rn v W -> newer W W' -> vTr snow soak lv rn v W' := fun _ _ _ ⟨L, lp, R, rp, h1, h2, h3⟩ hb => ⟨L, lp, R, rp, h1, (h2.below hb).more hb.size, (h3.below hb).more hb.size⟩
def truthOut (w : World) (snow soak : Int) (lv rn : List Int) (e : Ending) (w' : World) : Prop := (∃ v, e = .returned v /\ vTr snow soak lv rn v w') /\ Below w.heap.size w w'
end
section
open Go.RowKit Go.Shelf
theorem Row.grownNe {α : Type} {enc : α -> List Value} {s B B' : Nat} {W W' : World} {A : Option Addr} {l : List α} (h : Row enc s W B A l) {row : Option Nat} (hg : W.grownBy W' row) (hB : B <= W.heap.size) (hB' : B <= B') (hx : ∀ a, A = some a -> row ≠ some a.block) : Row enc s W' B' A l := by
 intro hl
 obtain ⟨b, off, e, hb, hc⟩ := h hl
 exact ⟨b, off, e, by omega, fun k x hk j v hv => (World.cell?_of_block (hg.block b (by omega) (fun e' => hx _ e (by rw [<- e'])))).trans (hc k x hk j v hv)⟩

theorem goodB_at {n : Nat} {p : Nat -> Bool} (h : goodB n p = true) : ∀ j, j < n -> p j = true := fun j hj => List.all_eq_true.1 h j (List.mem_range.2 hj)
end
section
open Go.RowKit Go.Shelf
abbrev truC (snow soak : Int) (L : Option Addr) (ln lp : Nat) (R : Option Addr) (rl rp : Nat) : Array Value := #[vi snow, vi soak, .slice L ln lp, .slice R rl rp]
end
section
open Go.RowKit Go.Shelf
def vRowR (H n : Nat) (f : Nat -> Int) (v : Value) (W : World) : Prop := ∃ A c, v = .slice A n c /\ Row intL 1 W W.heap.size A ((List.range n).map f) /\ ∀ a, A = some a -> H <= a.block /\ a.block < W.heap.size
theorem vRowR_grown {H n : Nat} {f : Nat -> Int} {row : Option Nat} (hr : ∀ q, row = some q -> q < H) : ∀ v W W', vRowR H n f v W -> W.grownBy W' row -> vRowR H n f v W' :=
 fun _ _ _ ⟨A, c, h1, h2, h3⟩ hg => ⟨A, c, h1, h2.grownNe hg (Nat.le_refl _) hg.size (fun a e e' => by have := hr _ e'; have := (h3 a e).1; omega), fun a e => ⟨(h3 a e).1, Nat.lt_of_lt_of_le (h3 a e).2 hg.size⟩⟩
theorem row_some {α : Type} {enc : α -> List Value} {s B : Nat} {W : World} {A : Option Addr} {l : List α} (h : Row enc s W B A l) (hl : l ≠ []) : ∀ a, A = some a -> a.block < B := by
 obtain ⟨b, off, e, hb, _⟩ := h hl
 intro a ea
 rw [e] at ea
 cases ea
 exact hb
theorem range_ne {n : Nat} {f : Nat -> Int} (h : 1 <= n) : (List.range n).map f ≠ [] := by
 intro e
 have := congrArg List.length e
 simp at this
 omega
end
section
open Go.ChangeShapes Go.WideShapes Go.ChangeAt Go.RowKit Go.Deep
def vT2 (N : Nat) (sl : Nat -> Int) (v : Value) (W : World) : Prop := ∃ Q cq base, v = .slice Q N cq /\ W.ownsRow base 3 1 (.slice Q N cq) N ((List.range N).map fun j => vi (sl j))
theorem vT2_st {N : Nat} {sl : Nat -> Int} : ∀ v W W', vT2 N sl v W -> newer W W' -> vT2 N sl v W' := fun _ _ _ ⟨Q, cq, base, h1, h2⟩ hb => ⟨Q, cq, base, h1, own_below h2 hb⟩
end
section
open Go.ChangeShapes Go.WideShapes Go.ChangeAt Go.RowKit Go.Deep
def pickN (lo hi x : Int) : Int := lo + x % (hi - lo + 1)
theorem pickN_in {lo hi x : Int} (h : lo <= hi) : lo <= pickN lo hi x /\ pickN lo hi x <= hi := by
 unfold pickN
 have h1 := Int.emod_nonneg x (show hi - lo + 1 ≠ 0 by omega)
 have h2 := Int.emod_lt_of_pos x (show 0 < hi - lo + 1 by omega)
 omega
end
section
open Go.RowKit Go.Shelf
def wArr (n : Nat) (f : Nat -> Int) : Array Value := Array.ofFn (n := n) fun q => Value.int .u16 (f q.val)
theorem wArr_get {n : Nat} (f : Nat -> Int) {k : Nat} (h : k < n) : (wArr n f)[k]? = some (.int .u16 (f k)) := by
 unfold wArr
 rw [Array.getElem?_ofFn, dif_pos h]
theorem wArr_set {n : Nat} (f f' : Nat -> Int) {k : Nat} (x : Int) (he : ∀ i, i < n -> f' i = if i = k then x else f i) : (wArr n f).setIfInBounds k (.int .u16 x) = wArr n f' := by
 apply Array.ext
 ·simp [wArr]
 ·intro q h1 h2
  have hq : q < n := by simpa [wArr] using h2
  rw [Array.getElem_setIfInBounds (by simpa [wArr] using hq)]
  simp only [wArr, Array.getElem_ofFn]
  rw [he q hq]
  by_cases e : k = q
  ·subst e; rw [if_pos rfl, if_pos rfl]
  ·rw [if_neg e, if_neg (Ne.symm e)]
theorem wArr_made (n : Nat) : madeCells #[Value.int .u16 0] n = wArr n (fun _ => 0) := by
 apply Array.ext
 ·simp [madeCells, wArr]
 ·intro q h1 h2
  simp [madeCells, wArr, Nat.mod_one]

theorem snoc_ints (p : Nat -> Int) (k : Nat) (x : Int) (h : p k = x) : ((List.range k).map p).flatMap intL ++ [vi x] = ((List.range (k + 1)).map p).flatMap intL := by
 subst h
 rw [List.range_succ, List.map_append, List.flatMap_append]
 rfl
theorem iAt_range (p : Nat -> Int) {n j : Nat} (h : j < n) : iAt ((List.range n).map p) j = p j := by simp [iAt, h]
def vTrO (snow soak : Int) (lv rn : List Int) (v : Value) (W : World) : Prop := ∃ base L lp R rp, v = truthV snow soak L lv.length lp R rn.length rp /\ W.ownsRow base 3 1 (.slice L lv.length lp) lv.length (lv.flatMap intL) /\ W.ownsRow base 3 1 (.slice R rn.length rp) rn.length (rn.flatMap intL)
theorem vTrO_tr {snow soak : Int} {lv rn : List Int} {v : Value} {W : World} (h : vTrO snow soak lv rn v W) : vTr snow soak lv rn v W := by
 obtain ⟨base, L, lp, R, rp, h1, h2, h3⟩ := h
 exact ⟨L, lp, R, rp, h1, row_of_own (by omega) (fun _ => rfl) h2, row_of_own (by omega) (fun _ => rfl) h3⟩
end
section
open Go.RowKit
end

section
open Go.RowKit


end
section
open Go.RowKit
theorem mapAtI {α : Type} (l : List α) (f : α -> Int) {i : Nat} {c : α} (h : l[i]? = some c) : iAt (l.map f) i = f c := by simp [iAt, h]
end
section
open Go.RowKit
section
theorem newer_allocH (W : World) (o : Obj) : newer W (W.alloc o) := (Below.refl _ _).alloc (Nat.le_refl _) _
end
def mxI (a b : Int) : Int := if a < b then b else a
def mnI (a b : Int) : Int := if b < a then b else a
end
section
open Go.ChangeMaps (setBlock)
open Go.RowKit
section
variable {K V : Type}
def entL (ek : K -> Value) (ev : V -> Value) : List (K × V) -> Nat -> List MapEntry
 | [], _ => []
 | p :: l, i => { key := ek p.1, val := ev p.2, born := i } :: entL ek ev l (i + 1)
def ents (ek : K -> Value) (ev : V -> Value) (l : List (K × V)) : Array MapEntry := (entL ek ev l 0).toArray
theorem entL_get (ek : K -> Value) (ev : V -> Value) : ∀ (l : List (K × V)) (i j : Nat), (entL ek ev l i)[j]? = l[j]?.map fun p => { key := ek p.1, val := ev p.2, born := i + j }
 | [], _, _ => by simp [entL]
 | _ :: _, _, 0 => by simp [entL]
 | _ :: l, i, j + 1 => by
  simp only [entL, List.getElem?_cons_succ, entL_get ek ev l (i + 1) j]
  rw [show i + 1 + j = i + (j + 1) by omega]
theorem entL_append (ek : K -> Value) (ev : V -> Value) : ∀ (l m : List (K × V)) (i : Nat), entL ek ev (l ++ m) i = entL ek ev l i ++ entL ek ev m (i + l.length)
 | [], m, i => by simp [entL]
 | p :: l, m, i => by
  simp only [List.cons_append, entL, entL_append ek ev l m (i + 1), List.length_cons]
  rw [show i + 1 + l.length = i + (l.length + 1) by omega]
variable [DecidableEq K]
def atR (a : K) : List (K × V) -> Nat -> Option (Nat × V)
 | [], _ => none
 | p :: l, i => if a = p.1 then some (i, p.2) else atR a l (i + 1)
def putR (a : K) (v : V) (l : List (K × V)) : List (K × V) := match atR a l 0 with
 | some (i, _) => l.set i (a, v)
 | none => l ++ [(a, v)]
theorem atR_some {a : K} : ∀ {l : List (K × V)} {i j : Nat} {v : V}, atR a l i = some (j, v) -> i <= j /\ l[j - i]? = some (a, v)
 | p :: l, i, j, v, h => by
  simp only [atR] at h
  by_cases e : a = p.1
  ·rw [if_pos e] at h
   injection h with h
   injection h with h1 h2
   subst h1
   subst h2
   exact ⟨Nat.le_refl _, by simp [e]⟩
  ·rw [if_neg e] at h
   obtain ⟨h1, h2⟩ := atR_some h
   refine ⟨by omega, ?_⟩
   rw [show j - i = (j - (i + 1)) + 1 by omega]
   exact h2
theorem atR_none {a : K} : ∀ {l : List (K × V)} {i : Nat}, atR a l i = none -> ∀ p ∈ l, a ≠ p.1
 | q :: l, i, h, p, hp => by
  simp only [atR] at h
  by_cases e : a = q.1
  ·rw [if_pos e] at h; cases h
  ·rw [if_neg e] at h
   rcases List.mem_cons.1 hp with rfl | hp
   ·exact e
   ·exact atR_none h p hp
structure EqKey (P : Program) (kt : TypeId) (ek : K -> Value) : Prop where
 eq : ∀ (a b : K) (W : World), (Op.equal kt (ek a) (ek b)).run P W = .ok (decide (a = b)) W
 check : ∀ (c : Bool) (a : K) (W : World), (Instr.checkKey c 10000 kt (ek a)).run P W = .ok () W
 bits : ∀ a : K, Instr.sameBits 10000 (ek a) (ek a) = true
 desc : ∃ fs, P.underlying kt = some (.struct fs)
theorem asking_run {P : Program} {kt : TypeId} {ek : K -> Value} (E : EqKey P kt ek) (ev : V -> Value) (a : K) (W : World) : ∀ (l : List (K × V)) (i0 i : Nat), (Instr.findAsking kt (ek a) (entL ek ev l i0) i).run P W = .ok ((atR a l i).map fun p => (p.1, ev p.2)) W
 | [], _, _ => rfl
 | p :: l, i0, i => by
  simp only [entL, Instr.findAsking, Sem.run_bind, E.eq a p.1 W, Result.andThen, atR]
  by_cases e : a = p.1
  ·simp [e]
  ·simp only [e, decide_false, Bool.false_eq_true, if_false]
   exact asking_run E ev a W l (i0 + 1) (i + 1)
omit [DecidableEq K] in
theorem findNow_struct (fs : Array Field) (k : Value) (e : MapEntry) (es : List MapEntry) (i : Nat) : Instr.findNow (.struct fs) k (e :: es) i = none := by
 simp [Instr.findNow, Instr.sameNow]
theorem find_run {P : Program} {kt : TypeId} {ek : K -> Value} (E : EqKey P kt ek) (ev : V -> Value) (a : K) (W : World) (l : List (K × V)) : (Instr.findKey kt (ek a) (ents ek ev l).toList).run P W = .ok ((atR a l 0).map fun p => (p.1, ev p.2)) W := by
 obtain ⟨fs, hd⟩ := E.desc
 unfold Instr.findKey
 simp only [Sem.run_bind, run_underlying hd, Result.andThen, ents]
 cases l with
 | nil => rfl
 | cons p l =>
  have h := asking_run E ev a W (p :: l) 0 0
  simp only [entL] at h ⊢
  rw [findNow_struct]
  exact h
structure RMap (ek : K -> Value) (ev : V -> Value) (b : Nat) (l : List (K × V)) (W : World) : Prop where
 at_ : W.heap[b]? = some (.map (ents ek ev l) l.length)
omit [DecidableEq K] in
theorem RMap.lt {ek : K -> Value} {ev : V -> Value} {b : Nat} {l : List (K × V)} {W : World} (h : RMap ek ev b l W) : b < W.heap.size := (Array.getElem?_eq_some_iff.1 h.at_).1
omit [DecidableEq K] in
theorem RMap.same {ek : K -> Value} {ev : V -> Value} {b : Nat} {l : List (K × V)} {W W' : World} (h : RMap ek ev b l W) (hs : W'.heap[b]? = W.heap[b]?) : RMap ek ev b l W' := ⟨hs.trans h.at_⟩
omit [DecidableEq K] in
theorem RMap.below {ek : K -> Value} {ev : V -> Value} {b B : Nat} {l : List (K × V)} {W W' : World} (h : RMap ek ev b l W) (hb : Below B W W') (hB : b < B) : RMap ek ev b l W' := h.same (hb.block b hB)
theorem lookup_run {P : Program} {kt vt mt : TypeId} {ek : K -> Value} {ev : V -> Value} (E : EqKey P kt ek) (ht : P.underlying mt = some (.map kt vt)) {z : Value} {W : World} (hz : (zeroValue vt).run P W = .ok z W) {b : Nat} {l : List (K × V)} (h : RMap ek ev b l W) (a : K) (ok : Bool) :
  (Instr.lookup mt (.map (some b)) (ek a) ok).run P W = .ok (if ok then .tuple #[((atR a l 0).map fun p => ev p.2).getD z, .bool (atR a l 0).isSome] else ((atR a l 0).map fun p => ev p.2).getD z) W := by
 unfold Instr.lookup
 simp only [Sem.run_bind, run_underlying ht, Result.andThen, MapKept.run_getObj_map h.at_, Sem.run_pure, E.check, find_run E ev a W l]
 cases hh : atR a l 0 with
 | none => simp only [Option.map_none, Sem.run_bind, hz, Result.andThen, Sem.run_pure]; cases ok <;> rfl
 | some p => simp only [Option.map_some]; cases ok <;> rfl
omit [DecidableEq K] in
theorem ents_push (ek : K -> Value) (ev : V -> Value) (l : List (K × V)) (a : K) (v : V) : (ents ek ev l).push { key := ek a, val := ev v, born := l.length } = ents ek ev (l ++ [(a, v)]) := by
 unfold ents
 rw [entL_append]
 simp [entL]
omit [DecidableEq K] in
theorem ents_modify (ek : K -> Value) (ev : V -> Value) (l : List (K × V)) (i : Nat) (a : K) (v v0 : V) (h : l[i]? = some (a, v0)) : (ents ek ev l).modify i (fun e => { e with key := ek a, val := ev v }) = ents ek ev (l.set i (a, v)) := by
 apply Array.ext'
 rw [Array.toList_modify]
 apply List.ext_getElem?
 intro j
 unfold ents
 rw [List.getElem?_modify, entL_get, entL_get, List.getElem?_set]
 by_cases e : i = j
 ·subst e
  have hi := (List.getElem?_eq_some_iff.1 h).1
  rw [h]
  simp [hi]
 ·simp [e]
theorem update_run {P : Program} {kt vt mt : TypeId} {ek : K -> Value} {ev : V -> Value} (E : EqKey P kt ek) (ht : P.underlying mt = some (.map kt vt)) {W : World} {b : Nat} {l : List (K × V)} (h : RMap ek ev b l W) (a : K) (v : V) :
  (Instr.mapUpdate mt (.map (some b)) (ek a) (ev v)).run P W = .ok () (setBlock W b (.map (ents ek ev (putR a v l)) (putR a v l).length)) := by
 unfold Instr.mapUpdate
 simp only [Sem.run_bind, run_underlying ht, Result.andThen, MapKept.run_getObj_map h.at_, E.check, find_run E ev a W l]
 unfold putR
 cases hh : atR a l 0 with
 | none =>
  simp only [Option.map_none, MapKept.run_setObj_map _ h.at_]
  rw [ents_push]
  simp [setBlock]
 | some p =>
  obtain ⟨i, v0⟩ := p
  obtain ⟨_, hi⟩ := atR_some hh
  simp only [Nat.sub_zero] at hi
  have hk : (((ents ek ev l)[i]?).map (·.key)).getD (ek a) = ek a := by
   unfold ents
   simp [entL_get, hi]
  simp only [Option.map_some, Sem.run_bind, hk, Instr.keyThatStays, E.bits a, if_true, Sem.run_pure, Result.andThen, MapKept.run_setObj_map _ h.at_]
  rw [ents_modify ek ev l i a v v0 hi]
  simp [setBlock]
end
theorem setBlock_get_ne {W : World} {b g : Nat} (o : Obj) (h : g ≠ b) : (setBlock W b o).heap[g]? = W.heap[g]? := by
 simp only [setBlock]
 rw [Array.getElem?_setIfInBounds_ne (Ne.symm h)]
section
variable {K V : Type}
theorem RMap.put {ek : K -> Value} {ev : V -> Value} {b : Nat} {l l' : List (K × V)} {W : World} (h : RMap ek ev b l W) : RMap ek ev b l' (setBlock W b (.map (ents ek ev l') l'.length)) :=
 ⟨by simp only [setBlock]; rw [Array.getElem?_setIfInBounds_self_of_lt h.lt]⟩
theorem Whole.setBlock {W : World} {g b : Nat} {t : TypeId} {cs : Array Value} (h : Whole W g t cs) (hne : g ≠ b) (o : Obj) : Whole (Go.ChangeMaps.setBlock W b o) g t cs := (setBlock_get_ne o hne).trans h
variable [DecidableEq K]
theorem wpList_lookup_r {P : Program} (w : World) {ops : Array Oper} {rest : List Oper} {o : Oper} {a : Act} {Q : Exit -> Act -> World -> Prop} (hg : o.guard = none) (m x : Operand) (t : TypeId) (c : Bool) (hop : o.op = Op.lookup t m x c)
  {kt vt : TypeId} {ek : K -> Value} {ev : V -> Value} (E : EqKey P kt ek) (ht : P.underlying t = some (.map kt vt)) {z : Value} (hz : (zeroValue vt).run P w = .ok z w) (b : Nat) (l : List (K × V)) (hm : a.eval m = .map (some b)) (h : RMap ek ev b l w) (k : K) (hx : a.eval x = ek k)
  (hK : wpList P ops Q rest (a.put o.dst (if c then .tuple #[((atR k l 0).map fun p => ev p.2).getD z, .bool (atR k l 0).isSome] else ((atR k l 0).map fun p => ev p.2).getD z)) w) :
  wpList P ops Q (o :: rest) a w := by
 refine wpList_plain hg fun K' hK' => ?_
 unfold Oper.wp
 simp only [execOp, hop, hm, hx, lookup_run E ht hz h k c, Sem.run_bind, Result.andThen]
 exact hK' _ _ hK
theorem wpList_update_r {P : Program} (w : World) {ops : Array Oper} {rest : List Oper} {o : Oper} {a : Act} {Q : Exit -> Act -> World -> Prop} (hg : o.guard = none) (m x v : Operand) (t : TypeId) (hop : o.op = Op.mapUpdate t m x v)
  {kt vt : TypeId} {ek : K -> Value} {ev : V -> Value} (E : EqKey P kt ek) (ht : P.underlying t = some (.map kt vt)) (b : Nat) (l : List (K × V)) (hm : a.eval m = .map (some b)) (h : RMap ek ev b l w) (k : K) (y : V) (hx : a.eval x = ek k) (hv : a.eval v = ev y)
  (hK : wpList P ops Q rest (a.put o.dst undef) (setBlock w b (.map (ents ek ev (putR k y l)) (putR k y l).length))) :
  wpList P ops Q (o :: rest) a w := by
 refine wpList_plain hg fun K' hK' => ?_
 unfold Oper.wp
 simp only [execOp, hop, hm, hx, hv, update_run E ht h k y, Sem.run_bind, Result.andThen]
 exact hK' _ _ hK
end

end
section
open Go.RowKit Go.Shelf
abbrev spotK (p : Int × Int) : Value := .agg #[vi p.1, vi p.2]
theorem spot_bits (a : Int × Int) : Instr.sameBits 10000 (spotK a) (spotK a) = true := by
 have h : ∀ n, Instr.sameBits (n + 1) (spotK a) (spotK a) = true := by
  intro n
  cases n <;> simp [Instr.sameBits]
 exact h 9999
end
section
open Go.RowKit Go.Shelf

end
section
open Go.RowKit Go.Shelf
end
section
open Go.RowKit Go.Shelf
end
section
open Go.RowKit Go.Shelf
end
section
open Go.RowKit
variable {P : Program}
def skAt (sks : List Bool) (i : Nat) : Bool := sks[i]?.getD false
theorem skAt_zero (sks : List Bool) : skAt sks 0 = sks.headD false := by cases sks <;> rfl
theorem skAt_succ (sks : List Bool) (i : Nat) : skAt sks (i + 1) = skAt sks.tail i := by cases sks <;> rfl
def stepsOkS (P : Program) (l : List Oper) (n : Nat) (Q : Exit -> Act -> World -> Prop) (a₀ : Act) (w : World) (G : World -> Prop) (Rl : World -> World -> Prop) (D : Nat -> Value -> World -> Prop) : List Bool -> Nat -> List Oper -> Prop
 | _, _, [] => True
 | sks, i, o :: os => (sks.headD false = true ∨ stepOk P l n Q a₀ w G Rl D i o) /\ stepsOkS P l n Q a₀ w G Rl D sks.tail (i + 1) os
theorem stepsS_get {l : List Oper} {n : Nat} {Q : Exit -> Act -> World -> Prop} {a₀ : Act} {w : World} {G : World -> Prop} {Rl : World -> World -> Prop} {D : Nat -> Value -> World -> Prop} : ∀ (os : List Oper) (sks : List Bool) (k : Nat), stepsOkS P l n Q a₀ w G Rl D sks k os -> ∀ i o, os[i]? = some o -> skAt sks i = true ∨ stepOk P l n Q a₀ w G Rl D (k + i) o
 | [], _, _, _, i, o, h => by simp at h
 | x :: os, sks, k, hs, 0, o, h => by
  simp at h; subst h
  rw [skAt_zero]
  exact hs.1
 | x :: os, sks, k, hs, i + 1, o, h => by
  have := stepsS_get os sks.tail (k + 1) hs.2 i o (by simpa using h)
  rw [skAt_succ, show k + (i + 1) = k + 1 + i by omega]
  exact this
end
section
open Go.RowKit
end

section
open Go.RowKit

end


section
open Go.RowKit
variable {P : Program}
end
section
open Go.RowKit
theorem own_room {w : World} {base : Nat} {e : TypeId} {size n cap : Nat} {a : Option Addr} {xs : List Value} (h : w.ownsRow base e size (.slice a n cap) n xs) : n <= cap /\ cap <= maxLen := by
 rcases h.2 with ⟨e1, e2⟩ | ⟨g', cap', cur, e1, _, _, h1, h2, _⟩
 ·injection e1 with _ e3 e4
  subst e3
  subst e4
  exact ⟨Nat.le_refl _, by unfold maxLen; omega⟩
 ·injection e1 with _ _ e4
  subst e4
  exact ⟨h1, h2⟩
theorem wp_stores {P : Program} {o : Oper} {a : Act} {W W' : World} {K : Act -> World -> Prop} {Q : Exit -> Act -> World -> Prop} (h : (execOp a.eval o).run P W = .ok .skip W') (hk : K (a.put o.dst undef) W') : o.wp P a W K Q := by
 unfold Oper.wp
 rw [h]
 exact hk
end
section
open Go.RowKit
end
end

section
section
open Go.RowKit
end
section
open Go.RowKit
theorem hrow_ok {α : Type} {enc : α -> List Value} {s : Nat} {w : World} {A : Option Addr} {l : List α} (h : Row enc s w w.heap.size A l) (o : Obj) : Row enc s (w.alloc o) (w.alloc o).heap.size A l := row_alloc h o
end
section
open Go.RowKit
end
section
open Go.RowKit
theorem mul_bd {a d A D : Int} (h0 : 0 <= a) (h1 : a <= A) (h2 : 0 <= d) (h3 : d <= D) : 0 <= a * d /\ a * d <= A * D :=
 ⟨Int.mul_nonneg h0 h2, Int.le_trans (Int.mul_le_mul_of_nonneg_right h1 h2) (Int.mul_le_mul_of_nonneg_left h3 (by omega))⟩
end
section
open Go.RowKit
end
section
open Go.RowKit
end
section
open Go.RowKit Go.Deep
end
section
section
open Go.RowKit
variable {P : Program}
theorem yielded_ne {l : List Oper} {tmps : Array Value} {j : Nat} {dj : Tmp} {oj : Oper} {b : Bool} {v : Value} (hoj : l[j]? = some oj) (hd : oj.dst = some dj) (ht : tmps[dj]? = some v) (hv : v ≠ .bool b) : yielded l.toArray tmps j ≠ some b := by
 have e : (((l.toArray)[j]?).bind (·.dst)).bind (tmps[·]?) = some v := by
  simp only [List.getElem?_toArray, hoj, Option.bind_some, hd, ht]
 unfold yielded
 rw [e]
 intro h
 cases v with
 | bool b' => cases h; exact hv rfl
 | _ => cases h
theorem region_rel_u {l : List Oper} {n : Nat} {Q : Exit -> Act -> World -> Prop} {a₀ : Act} {w : World} (hB : relG l n = true)
  (sk : Nat -> Bool) (G : World -> Prop) (Rl : Nat -> World -> World -> Prop) (D : Nat -> Value -> World -> Prop)
  (hgd : ∀ (i : Nat) (o : Oper) (j : Nat) (b : Bool), i < n -> l[i]? = some o -> o.guard = some (j, b) -> ∀ v W, D j v W -> if sk i then v ≠ .bool b else v = .bool b)
  (hsk : ∀ (i : Nat) (o : Oper), i < n -> l[i]? = some o -> sk i = true -> o.guard ≠ none) (hDsk : ∀ i W, sk i = true -> D i undef W)
  (hDs : ∀ i j v W W', i < n -> j ≠ i -> D j v W -> Rl i W W' -> D j v W')
  (hsz : ∀ i o d, i < n -> l[i]? = some o -> o.dst = some d -> d < a₀.tmps.size)
  (hG : G w)
  (hstep : ∀ i o, i < n -> l[i]? = some o -> sk i = false -> ∀ (listed : Array Bool) a W, listed.size = l.length -> listed.getD i true = false -> G W -> Outer l n a₀ a ->
   (∀ j oj d, j < n -> l[j]? = some oj -> oj.dst = some d -> (∃ e ∈ o.after, Region.binds .any e = true /\ e.on = j) -> D j (slotOf a d) W) ->
   o.wp P a W (fun a' W' => ∃ v, a' = a.put o.dst v /\ D i v W' /\ Rl i W W' /\ G W') Q)
  (htail : ∀ (_ : Array Bool) a W, G W -> Outer l n a₀ a -> (∀ j oj d, j < n -> l[j]? = some oj -> oj.dst = some d -> D j (slotOf a d) W) -> wpList P l.toArray Q (l.drop n) a W) :
  wpAny P .any l.toArray Q l.toArray.size (Array.replicate l.toArray.size false) a₀ w := by
 simp only [relG, Bool.and_eq_true, decide_eq_true_eq] at hB
 obtain ⟨⟨⟨⟨⟨hn, hs⟩, hc⟩, hback⟩, hdst⟩, hseq⟩ := hB
 have hback' : ∀ (i : Nat) (o : Oper), l[i]? = some o -> (∀ e ∈ o.after, Region.binds .any e = true -> e.on < i) /\ (∀ j b, o.guard = some (j, b) -> j < i /\ (∃ e ∈ o.after, Region.binds .any e = true /\ e.on = j) /\ ∃ oj dj, l[j]? = some oj /\ oj.dst = some dj) := by
  intro i o ho
  have := List.all_eq_true.1 hback i (List.mem_range.2 (List.getElem?_eq_some_iff.1 ho).1)
  simp only [ho, Bool.and_eq_true, Array.all_eq_true_iff_forall_mem] at this
  refine ⟨fun e he hb => by simpa [hb] using this.1 e he, fun j b hg => ?_⟩
  have h2 := this.2
  rw [hg] at h2
  simp only [Bool.and_eq_true, decide_eq_true_eq, List.any_eq_true, beq_iff_eq] at h2
  obtain ⟨⟨h3, e, he, hb, hon⟩, h4⟩ := h2
  refine ⟨h3, ⟨e, Array.mem_toList_iff.1 he, hb, hon⟩, ?_⟩
  cases hj : l[j]? with
  | none => rw [hj] at h4; cases h4
  | some oj =>
   rw [hj] at h4
   obtain ⟨dj, hdj⟩ := Option.isSome_iff_exists.1 h4
   exact ⟨oj, dj, rfl, hdj⟩
 have hdst' : ∀ (i j : Nat) (o o' : Oper) (d : Tmp), i < n -> j < n -> i ≠ j -> l[i]? = some o -> l[j]? = some o' -> o.dst = some d -> o'.dst ≠ some d := by
  intro i j o o' d hi hj hij ho ho' hd hd'
  have := List.all_eq_true.1 (List.all_eq_true.1 hdst i (List.mem_range.2 hi)) j (List.mem_range.2 hj)
  simp [hij, ho, ho', hd, hd'] at this
 have key : ∀ (f : Nat) (listed : Array Bool) (a : Act) (W : World), HeadInv .any l.toArray n listed -> ((List.range n).filter fun i => !listed.getD i false).length = f ->
   G W -> Outer l n a₀ a -> (∀ (j : Nat) (oj : Oper) (d : Tmp), j < n -> l[j]? = some oj -> listed.getD j false = true -> oj.dst = some d -> D j (slotOf a d) W) ->
   wpAny P .any l.toArray Q (f + (l.length - n)) listed a W := by
  intro f
  induction f with
  | zero =>
   intro listed a W inv hcnt hGW hO hD
   have hall : ∀ i, i < n -> listed.getD i false = true := by
    intro i hi
    have := List.eq_nil_of_length_eq_zero hcnt
    have h2 := List.filter_eq_nil_iff.1 this i (List.mem_range.2 hi)
    simpa using h2
   have hcanon : listed = headDone n l.length := by
    apply Array.ext
    ·rw [inv.size]; simp [headDone]
    ·intro i h1 h2
     have hi : i < l.length := by simpa [headDone] using h2
     simp only [headDone, Array.getElem_ofFn]
     by_cases hin : i < n
     ·have := hall i hin
      simp [h1] at this
      simp [this, hin]
     ·have := inv.tail i (by omega) (by simpa using hi)
      simp [h1] at this
      simp [this, hin]
   rw [Nat.zero_add]
   have := wpAny_of_seq (md := .any) (Q' := Q) (P := P) (ops := l.toArray) (l.drop n) n listed a W (fun j => by simp [List.getElem?_drop]) (by rw [List.length_drop, hcanon]; exact hseq) (htail listed a W hGW hO (fun j oj d hj ho hd => hD j oj d hj ho (hall j hj) hd))
   rwa [List.length_drop] at this
  | succ f ih =>
   intro listed a W inv hcnt hGW hO hD
   -- some operation of the head has not come up
   have hex : ∃ i, i < n /\ listed.getD i false = false /\ ∀ j, j < i -> listed.getD j false = true := by
    have hne : ((List.range n).filter fun i => !listed.getD i false) ≠ [] := by intro h; rw [h] at hcnt; cases hcnt
    have : ∃ i, i < n /\ listed.getD i false = false := by
     obtain ⟨x, hx⟩ := List.exists_mem_of_ne_nil _ hne
     have hx' := List.mem_filter.1 hx
     exact ⟨x, List.mem_range.1 hx'.1, by simpa using hx'.2⟩
    obtain ⟨i, hi, hl⟩ := this
    have : ∀ k i, i <= k -> i < n -> listed.getD i false = false -> ∃ i, i < n /\ listed.getD i false = false /\ ∀ j, j < i -> listed.getD j false = true := by
     intro k
     induction k with
     | zero => intro i hik hi hl; exact ⟨i, hi, hl, fun j hj => by omega⟩
     | succ k ihk =>
      intro i hik hi hl
      by_cases h : ∃ j, j < i /\ listed.getD j false = false
      ·obtain ⟨j, hj, hjl⟩ := h
       exact ihk j (by omega) (by omega) hjl
      ·refine ⟨i, hi, hl, fun j hj => ?_⟩
       cases hh : listed.getD j false with
       | true => rfl
       | false => exact absurd ⟨j, hj, hh⟩ h
    exact this i i (Nat.le_refl _) hi hl
   obtain ⟨i₀, hi₀, hun₀, hbelow⟩ := hex
   have hi₀s : i₀ < listed.size := by rw [inv.size]; simp; omega
   have hl₀ : listed.getD i₀ true = false := getD_in hi₀s hun₀
   have hready₀ : i₀ ∈ Region.ready .any l.toArray listed := by
    have ho : l[i₀]? = some l[i₀] := List.getElem?_eq_getElem (by omega)
    refine mem_ready.2 ⟨hl₀, l[i₀], by simp, fun e he hb => hbelow _ ((hback' i₀ _ ho).1 e he hb)⟩
   rw [show f + 1 + (l.length - n) = f + (l.length - n) + 1 by omega]
   refine ⟨fun h => (by rw [h] at hready₀; cases hready₀), fun i hi => ?_⟩
   have hin : i < n := by
    rcases Nat.lt_or_ge i n with h | h
    ·exact h
    ·exact absurd hi (tail_waits hs hc (by simpa using hn) inv _ i₀ rfl hi₀ hl₀ i h)
   obtain ⟨hiun, o, ho, hall⟩ := mem_ready.1 hi
   have ho' : l[i]? = some o := by simpa using ho
   unfold wpOp
   simp only [ho]
   have hgv : ∀ j b, o.guard = some (j, b) -> if sk i then yielded l.toArray a.tmps j ≠ some b else yielded l.toArray a.tmps j = some b := by
    intro j b hg
    obtain ⟨hji, ⟨e, he, hb, hon⟩, oj, dj, hoj, hdj⟩ := (hback' i o ho').2 j b hg
    have hl := hall e he hb
    rw [hon] at hl
    have hv := hgd i o j b hin ho' hg _ _ (hD j oj dj (by omega) hoj hl hdj)
    have hsz' : dj < a.tmps.size := by rw [hO.size]; exact hsz j oj dj (by omega) hoj hdj
    have this : a.tmps[dj]? = some (slotOf a dj) := by
     unfold slotOf
     rw [Array.getElem?_eq_getElem hsz']
     rfl
    generalize slotOf a dj = v at hv this
    cases hsk' : sk i with
    | true =>
     rw [hsk'] at hv
     simp only [if_true] at hv ⊢
     exact yielded_ne hoj hdj this hv
    | false =>
     rw [hsk'] at hv
     simp only [Bool.false_eq_true, if_false] at hv ⊢
     subst hv
     simp [yielded, hoj, hdj, this]
   have hcount : ((List.range n).filter fun i_1 => !(listed.setIfInBounds i true).getD i_1 false).length = f := by
    have hiun' : listed.getD i false = false := getD_both hiun
    have his : i < listed.size := by rw [inv.size]; simp; omega
    have e1 : ((List.range n).filter fun j => !(listed.setIfInBounds i true).getD j false) = ((List.range n).filter fun j => !listed.getD j false).filter (fun j => decide (j ≠ i)) := by
     rw [List.filter_filter]
     apply List.filter_congr
     intro j _
     by_cases hji : j = i
     ·subst hji; simp [his]
     ·rw [getD_set_ne false (Ne.symm hji)]; simp [hji]
    rw [e1]
    have hnd : ((List.range n).filter fun j => !listed.getD j false).Nodup := List.nodup_range.filter _
    have hmem : i ∈ ((List.range n).filter fun j => !listed.getD j false) := List.mem_filter.2 ⟨List.mem_range.2 hin, by simp [hiun']⟩
    have := filter_ne_length i _ hnd hmem
    omega
   cases hski : sk i with
   | true =>
    have hw : ¬ Region.wanted o (yielded l.toArray a.tmps) = true := by
     unfold Region.wanted
     cases hg : o.guard with
     | none => exact absurd hg (hsk i o hin ho' hski)
     | some jb =>
      obtain ⟨j, b⟩ := jb
      have := hgv j b hg
      simp only [hski, if_true] at this
      simpa using this
    rw [if_neg hw]
    have hOut : Outer l n a₀ (a.put o.dst undef) := by
     refine ⟨?_, ?_, fun t ht => ?_⟩
     ·cases hd : o.dst <;> simp [Act.put, hO.defers]
     ·cases hd : o.dst <;> simp [Act.put, hO.size]
     ·cases hd : o.dst with
      | none => simpa [Act.put] using hO.same t ht
      | some d =>
       have hne : d ≠ t := fun h => ht i o hin ho' (by rw [hd, h])
       simp only [Act.put]
       rw [Array.getElem?_setIfInBounds_ne hne]
       exact hO.same t ht
    refine ih _ _ _ (inv.set hi hin) hcount hGW hOut ?_
    intro j oj d hj hoj hlj hd
    by_cases hji : j = i
    ·subst hji
     cases hd2 : o.dst with
     | none => have e9 : oj = o := Option.some.inj (hoj.symm.trans ho'); rw [e9, hd2] at hd; cases hd
     | some d9 =>
      have e9 : oj = o := Option.some.inj (hoj.symm.trans ho')
      rw [e9, hd2] at hd
      cases hd
      have hds : d < a.tmps.size := by rw [hO.size]; exact hsz j o d hj (e9 ▸ hoj) hd2
      rw [slot_put_same hds]
      exact hDsk _ _ hski
    ·rw [getD_set_ne false (Ne.symm hji)] at hlj
     have hold := hD j oj d hj hoj hlj hd
     cases hdo : o.dst with
     | none => simpa [Act.put] using hold
     | some d' =>
      have hne : d ≠ d' := fun h => hdst' j i oj o d hj hin hji hoj ho' hd (by rw [hdo, h])
      rw [slot_put_other hne]
      exact hold
   | false =>
    have hst := hstep i o hin ho' hski listed a W (by rw [inv.size]; simp) hiun hGW hO (fun j oj d hj hoj hd ⟨e, he, hb, hon⟩ => hD j oj d hj hoj (by rw [<- hon]; exact hall e he hb) hd)
    have hw : Region.wanted o (yielded l.toArray a.tmps) = true := by
     unfold Region.wanted
     cases hg : o.guard with
     | none => rfl
     | some jb =>
      obtain ⟨j, b⟩ := jb
      have := hgv j b hg
      simp only [hski, Bool.false_eq_true, if_false] at this
      simpa using this
    rw [if_pos hw]
    refine .inl (Oper.wp_mono ?_ hst)
    rintro a' W' ⟨v, rfl, hDv, hRv, hGv⟩
    have hOut : Outer l n a₀ (a.put o.dst v) := by
     refine ⟨?_, ?_, fun t ht => ?_⟩
     ·cases hd : o.dst <;> simp [Act.put, hO.defers]
     ·cases hd : o.dst <;> simp [Act.put, hO.size]
     ·cases hd : o.dst with
      | none => simpa [Act.put] using hO.same t ht
      | some d =>
       have hne : d ≠ t := fun h => ht i o hin ho' (by rw [hd, h])
       simp only [Act.put]
       rw [Array.getElem?_setIfInBounds_ne hne]
       exact hO.same t ht
    refine ih _ _ _ (inv.set hi hin) hcount hGv hOut ?_
    intro j oj d hj hoj hlj hd
    by_cases hji : j = i
    ·subst hji
     have : oj = o := Option.some.inj (hoj.symm.trans ho')
     subst this
     have hds : d < a.tmps.size := by rw [hO.size]; exact hsz j oj d hj hoj hd
     rw [hd, slot_put_same hds]
     exact hDv
    ·rw [getD_set_ne false (Ne.symm hji)] at hlj
     have hold := hDs i j _ W W' hin hji (hD j oj d hj hoj hlj hd) hRv
     cases hdo : o.dst with
     | none => simpa [Act.put] using hold
     | some d' =>
      have hne : d ≠ d' := fun h => hdst' j i oj o d hj hin hji hoj ho' hd (by rw [hdo, h])
      rw [slot_put_other hne]
      exact hold
 have inv0 : HeadInv .any l.toArray n (Array.replicate l.toArray.size false) :=
  ⟨by simp, fun j oj _ hl => (by rw [getD_replicate_false] at hl; cases hl), fun t _ ht => getD_in (by simpa using ht) (getD_replicate_false _ _)⟩
 have := key n _ a₀ w inv0 (by
  have : ((List.range n).filter fun i => !(Array.replicate l.toArray.size false).getD i false) = List.range n := List.filter_eq_self.2 (fun i _ => by rw [getD_replicate_false]; rfl)
  rw [this, List.length_range]) hG ⟨rfl, rfl, fun _ _ => rfl⟩ (fun j oj d _ _ hl => by rw [getD_replicate_false] at hl; cases hl)
 rw [show n + (l.length - n) = l.toArray.size by simp; omega] at this
 exact this
def guardsU (D : Nat -> Value -> World -> Prop) : List Bool -> List Oper -> Prop
 | _, [] => True
 | sks, o :: os => (match o.guard with
   | none => sks.headD false = false
   | some (j, b) => ∀ v W, D j v W -> if sks.headD false then v ≠ .bool b else v = .bool b) /\ guardsU D sks.tail os
theorem guardsU_get {D : Nat -> Value -> World -> Prop} : ∀ (os : List Oper) (sks : List Bool), guardsU D sks os -> ∀ (i : Nat) (o : Oper), os[i]? = some o -> (skAt sks i = true -> o.guard ≠ none) /\ ∀ j b, o.guard = some (j, b) -> ∀ v W, D j v W -> if skAt sks i then v ≠ .bool b else v = .bool b
 | [], _, _, i, o, h => by simp at h
 | x :: os, sks, hs, 0, o, h => by
  simp at h; subst h
  have := hs.1
  rw [skAt_zero]
  cases hg : x.guard with
  | none =>
   rw [hg] at this
   exact ⟨fun e => (by rw [this] at e; cases e), fun j b e => (by cases e)⟩
  | some jb =>
   rw [hg] at this
   exact ⟨fun _ e => (by cases e), fun j b e => (by cases e; exact this)⟩
 | x :: os, sks, hs, i + 1, o, h => by
  rw [skAt_succ]
  exact guardsU_get os sks.tail hs.2 i o (by simpa using h)
def skWordsU : List Bool -> List (Value -> World -> Prop) -> Prop
 | _, [] => True
 | sks, p :: ps => (sks.headD false = true -> ∀ W, p undef W) /\ skWordsU sks.tail ps
theorem skWordsU_get : ∀ (ps : List (Value -> World -> Prop)) (sks : List Bool), skWordsU sks ps -> ∀ i W, skAt sks i = true -> pickD ps i undef W
 | [], _, _, _, _, _ => trivial
 | p :: ps, sks, hs, 0, W, h => hs.1 (by rw [<- skAt_zero]; exact h) W
 | p :: ps, sks, hs, i + 1, W, h => skWordsU_get ps sks.tail hs.2 i W (by rw [<- skAt_succ]; exact h)
theorem region_told_u {l : List Oper} (n : Nat) {Q : Exit -> Act -> World -> Prop} {a₀ : Act} {w : World} (hB : relG l n = true) (hz : szOk a₀.tmps.size (l.take n) = true) (sks : List Bool)
  (G : World -> Prop) (Rl : World -> World -> Prop) (ps : List (Value -> World -> Prop)) (hgd : guardsU (pickD ps) sks (l.take n)) (hws : skWordsU sks ps)
  (hRt : ∀ {A B C : World}, Rl A B -> Rl B C -> Rl A C) (hDs : ∀ i v W W', pickD ps i v W -> Rl W W' -> pickD ps i v W')
  (hG : G w) (hR0 : Rl w w) (hstep : stepsOkS P l n Q a₀ w G Rl (pickD ps) sks 0 (l.take n))
  (htail : ∀ W, G W -> Rl w W -> tailsOk (pickD ps) W (fun a => wpList P l.toArray Q (l.drop n) a W) 0 (l.take n) a₀) :
  wpAny P .any l.toArray Q l.toArray.size (Array.replicate l.toArray.size false) a₀ w := by
 have htake : ∀ (i : Nat) (o : Oper), i < n -> l[i]? = some o -> (l.take n)[i]? = some o := fun i o hi ho => by rw [List.getElem?_take, if_pos hi]; exact ho
 have hback : ∀ (i : Nat) (o : Oper), i < n -> l[i]? = some o -> ∀ e ∈ o.after, Region.binds .any e = true -> e.on < n := by
  have hB' := hB
  simp only [relG, Bool.and_eq_true, decide_eq_true_eq] at hB'
  obtain ⟨⟨⟨⟨⟨_, _⟩, _⟩, hback⟩, _⟩, _⟩ := hB'
  intro i o hi ho e he hbd
  have := List.all_eq_true.1 hback i (List.mem_range.2 (List.getElem?_eq_some_iff.1 ho).1)
  simp only [ho, Bool.and_eq_true, Array.all_eq_true_iff_forall_mem] at this
  have h2 : e.on < i := by simpa [hbd] using this.1 e he
  omega
 refine region_rel_u hB (skAt sks) (fun W => G W /\ Rl w W) (fun _ => Rl) (pickD ps) (fun i o j b hi ho hg => (guardsU_get _ _ hgd i o (htake i o hi ho)).2 j b hg) (fun i o hi ho hs => (guardsU_get _ _ hgd i o (htake i o hi ho)).1 hs) (fun i W hs => skWordsU_get ps sks hws i W hs) (fun _ j v W W' _ _ => hDs j v W W') (fun i o d hi ho hd => sz_of _ hz i o d (htake i o hi ho) hd) ⟨hG, hR0⟩ ?_ ?_
 ·rintro i o hi ho hski _ a W _ _ ⟨hGW, hRW⟩ hO hp
  have := stepsS_get _ _ _ hstep i o (htake i o hi ho)
  rw [Nat.zero_add] at this
  rcases this with h | this
  ·rw [h] at hski; cases hski
  refine Oper.wp_mono ?_ (this a W hGW hRW hO (preds_of o (hback i o hi ho) hp))
  rintro a' W' ⟨v, h1, h2, h3, h4⟩
  exact ⟨v, h1, h2, h3, h4, hRt hRW h3⟩
 ·rintro _ a W ⟨hGW, hRW⟩ hO hd
  have hh := heads_of (D := pickD ps) (a := a) (W := W) (l.take n) 0 fun j oj d hj hdd => by
   rw [List.getElem?_take] at hj
   split at hj
   ·rename_i hjn
    rw [Nat.zero_add]
    exact hd j oj d hjn hj hdd
   ·cases hj
  have := tails_filled _ _ _ hh (htail W hGW hRW)
  rwa [filled_eq hO] at this
end
section
open Go.RowKit Go.Deep Go.WideShapes Go.ChangeShapes Go.ChangeAt
end
end

section
open Go.RowKit
open Go.ChangeMaps (setBlock)
section
theorem cell_of_same {w W : World} {k : Nat} (h : W.heap[k]? = w.heap[k]?) (o : Nat) : W.cell? ⟨k, o, none⟩ = w.cell? ⟨k, o, none⟩ := by simp [World.cell?, h]
theorem wp_append_one {P : Program} {w : World} {o : Oper} {a : Act} {K : Act -> World -> Prop} {Q : Exit -> Act -> World -> Prop} (s x : Operand) (t : TypeId)
  (ho : o.op = .call { callee := .builtin .append, args := #[s, x], argTypes := #[t, t] })
  (base : Nat) (e : TypeId) (i : TypeInfo) (z : Value) (bytes : Nat) (ht : P.underlying t = some (.slice e)) (hi : P.info? e = some i) (hz : i.zero = some z) (hsize : i.size = 1) (hby : i.bytes = bytes) (hzs : z.cells.size = 1)
  (A : Option Addr) (n c : Nat) (xs : List Value) (hs : a.eval s = .slice A n c) (hown : w.ownsRow base e 1 (.slice A n c) n xs)
  (ad : Addr) (c2 : Nat) (y : Value) (hx : a.eval x = .slice (some ad) 1 c2) (hy : w.cell? ad = some y) (hy1 : y.oneCell' = true)
  (h63 : n + 1 <= maxLen) (hbytes : (n + 1) * bytes <= 140737488355328) (hbase : base <= w.heap.size)
  (h : ∀ g c' w', w'.ownsRow base e 1 (.slice (some ⟨g, 0, none⟩) (n + 1) c') (n + 1) (xs ++ [y]) -> ((A = some ⟨g, 0, none⟩ /\ c' = c /\ w.grownBy w' (some g)) ∨ (w.heap.size <= g /\ w.grownBy w' none)) -> K (a.put o.dst (.slice (some ⟨g, 0, none⟩) (n + 1) c')) w') : o.wp P a w K Q := by
 have hnews : ∀ j u, [y][j]? = some u -> w.cell? (ad.add j) = some u := by
  intro j u hu
  obtain rfl : j = 0 := by
   rcases j with _ | j
   ·rfl
   ·simp at hu
  simp only [List.getElem?_cons_zero, Option.some.injEq] at hu
  subst hu
  rw [show ad.add 0 = ad by unfold Addr.add; split <;> simp_all]
  exact hy
 have h1 : ∀ u ∈ [y], u.oneCell' = true := fun u hu => by rw [List.mem_singleton.1 hu]; exact hy1
 rcases hown.2 with ⟨h0, hn0⟩ | ⟨g, cap, cur, hv, hb, hg, hnc, hcm, hcs, htk⟩
 ·injection h0 with e1 e2 e3
  subst e1 e2 e3
  refine wp_append_lies w s x t ho base e i z 1 bytes ht hi hz hsize hby hzs (by omega) (.slice none 0 0) 0 xs hs hown ad 1 c2 [y] hx rfl hnews h1 (by omega) h63 hbytes hbase w.heap.size rfl ?_
  intro g cap w' hown2 hgrow hat _
  refine h g cap w' hown2 (.inr ⟨?_, hgrow⟩)
  rcases hat with hat | hat
  ·simp [Value.ownBlock] at hat
  ·omega
 ·injection hv with e1 e2 e3
  subst e1 e3
  by_cases hroom : n + 1 <= c
  ·refine wp_append_own_spare w s x t ho base e i 1 ht hi hsize g n c xs hs hown ad 1 c2 [y] hx rfl hnews h1 hroom ?_
   intro w' hown2 hgrow
   exact h g c w' hown2 (.inl ⟨rfl, rfl, hgrow⟩)
  ·have holds : ∀ j u, xs[j]? = some u -> w.cell? ((⟨g, 0, none⟩ : Addr).add j) = some u := hown.cells (g := g) rfl
   obtain ⟨v', w', hr, h2, h3⟩ := run_append_arg_grows (P := P) w t o.type e i z 1 bytes ht hi hz hsize hby hzs (by omega) ⟨g, 0, none⟩ n c xs hown.1 holds ad 1 c2 [y] rfl hnews (by omega) h63 hbytes
   obtain ⟨g2, cap, rfl, hg2, _⟩ := h2.form (by omega)
   unfold Oper.wp execOp
   simp only [ho, resolve, invoke, builtin, Sem.run_bind, Sem.run_pure, Result.andThen_ok, List.map_toArray, List.map_cons, List.map_nil, hs, hx, hr]
   exact h g2 cap w' (own_more h2 hbase) (.inr ⟨hg2, h3⟩)
end

end
section
open Go.RowKit Go.Deep
open Go.ChangeMaps (setBlock)
end
section
open Go.RowKit Go.Deep
end
section
open Go.RowKit Go.Shelf Go.Deep
end
section
open Go.RowKit Go.Shelf Go.Deep
def markD (D : Nat) : Deferred := { target := .collected D, args := #[] }
structure MarksOk (Ds : List Nat) (W : World) : Prop where
 nd : Ds.Nodup
 at_ : ∀ D ∈ Ds, W.heap[D]? = some (.deferred (some []))
theorem MarksOk.lt {Ds : List Nat} {W : World} (h : MarksOk Ds W) : ∀ D ∈ Ds, D < W.heap.size := fun D hD => (Array.getElem?_eq_some_iff.1 (h.at_ D hD)).1
theorem MarksOk.next {Ds : List Nat} {W W' : World} (h : MarksOk Ds W) (hb : newer W W') : MarksOk Ds W' := ⟨h.nd, fun D hD => (hb.block D (h.lt D hD)).trans (h.at_ D hD)⟩
theorem MarksOk.grown {Ds : List Nat} {W W' : World} {d : Nat} (h : MarksOk Ds W) (hg : W.grownBy W' (some d)) (hd : d ∉ Ds) : MarksOk Ds W' := ⟨h.nd, fun D hD => (hg.block D (h.lt D hD) (by intro e; injection e with e; rw [e] at hD; exact hd hD)).trans (h.at_ D hD)⟩
theorem MarksOk.far {Ds : List Nat} {W : World} (h : MarksOk Ds W) {k : Nat} {t : TypeId} {cs : Array Value} (hw : Whole W k t cs) : k ∉ Ds := fun hm => by
 have := h.at_ k hm
 unfold Whole at hw
 rw [hw] at this
 cases this
theorem leaves_marks {F : Fence} {n : Nat} {P : Program} {fn : Func} {tmps : Array Value} {R : Ending -> World -> Prop} : ∀ (Ds : List Nat) (W : World), MarksOk Ds W ->
  (∀ W', W'.os = W.os -> W'.tape = W.tape -> W'.output = W.output -> W'.heap.size = W.heap.size -> (∀ k, k ∉ Ds -> W'.heap[k]? = W.heap[k]?) -> ∃ v, (results fn tmps).run P W' = .ok v W' /\ R (.returned v) W') -> LeavesInM F n P fn tmps R (Ds.map markD) .returning W
 | [], W, _, h => h W rfl rfl rfl rfl fun _ _ => rfl
 | D :: Ds, W, hm, h => by
  have hnd := List.nodup_cons.1 hm.nd
  refine ⟨by simp, .inl ⟨D, _, rfl, run_takeDeferred (hm.at_ D (by simp)), leaves_marks Ds _ ⟨hnd.2, fun E hE => ?_⟩ fun W' h1 h2 h3 h4 h5 => h W' h1 h2 h3 (h4.trans (by simp)) fun k hk => ?_⟩⟩
  ·exact (World.putObj_heap_other (fun e => hnd.1 (by rw [<- e]; exact hE))).trans (hm.at_ E (List.mem_cons_of_mem _ hE))
  ·rw [List.mem_cons, not_or] at hk
   exact (h5 k hk.2).trans (World.putObj_heap_other hk.1)
end
section
open Go.RowKit Go.Deep
theorem wp_append_copy {α : Type} {enc : α -> List Value} {size : Nat} {P : Program} {w : World} {o : Oper} {a : Act} {K : Act -> World -> Prop} {Q : Exit -> Act -> World -> Prop} (s x : Operand) (t e : TypeId) (i0 : TypeInfo) (z : Value) (bytes : Nat)
  (ht : P.underlying t = some (.slice e)) (hi0 : P.info? e = some i0) (hz0 : i0.zero = some z) (hz1 : i0.size = size) (hz2 : i0.bytes = bytes) (hzs : z.cells.size = size) (hs0 : 0 < size) (hby : bytes <= 1000) (he : ∀ x, (enc x).length = size)
  (ho : o.op = .call { callee := .builtin .append, args := #[s, x], argTypes := #[t, t] }) (nb : Nat) (hs : a.eval s = .slice (some ⟨nb, 0, none⟩) 0 0)
  (l : List α) (A : Option Addr) (cp : Nat) (hx : a.eval x = .slice A l.length cp) (hl : l.length <= 1000) (hr : Row enc size w w.heap.size A l)
  (h : ∀ B c w', Row enc size w' w'.heap.size (some B) l -> Below w.heap.size w w' -> l.length <= c -> (B.block = nb ∨ w.heap.size <= B.block) -> K (a.put o.dst (.slice (some B) l.length c)) w') : Oper.wp P o a w K Q := by
 rcases Nat.eq_zero_or_pos l.length with h0 | hpos
 ·obtain rfl : l = [] := List.eq_nil_of_length_eq_zero h0
  have hrun : (Builtin.append_ #[t, t] o.type #[.slice (some ⟨nb, 0, none⟩) 0 0, .slice A 0 cp]).run P w = .ok (.slice (some ⟨nb, 0, none⟩) 0 0) w := by
   have hu := run_underlying (P := P) (w := w) ht
   rcases A with _ | ad <;> simp [Builtin.append_, hu, sizeOf, typeInfo, hi0, Builtin.lenOf, Builtin.firstCells, loadCells, loadCellsFrom, storeCells]
  unfold Oper.wp
  simp [execOp, ho, resolve, invoke, builtin, hs, hx, hrun, Result.andThen]
  exact h _ _ w (Row.nil _) (Below.refl _ _) (Nat.le_refl _) (.inl rfl)
 ·obtain ⟨b, off, rfl, hb, hc⟩ := hr (by intro e; rw [e] at hpos; simp at hpos)
  refine wp_append_new s x t ho e i0 z size bytes ht hi0 hz0 hz1 hz2 hzs hs0 ⟨nb, 0, none⟩ hs ⟨b, off, none⟩ l.length cp (l.flatMap enc) hx (by rw [flat_len (enc := enc) (s := size) he]) (row_news (enc := enc) (s := size) hs0 he hr) hpos (by unfold maxLen; omega) (by have := Nat.mul_le_mul hl hby; omega) ?_
  intro gg cap w' hown hbl
  exact h _ _ w' (row_of_own hs0 he hown) hbl (own_room hown).1 (.inr (own_ge_slice hown))
def copiedC (w : World) (l : List Int) (e : Ending) (w' : World) : Prop := ∃ A c, e = .returned (.slice A l.length c) /\ l.length <= c /\ Row intL 1 w' w'.heap.size A l /\ Below w.heap.size w w' /\ ∀ a, A = some a -> w.heap.size <= a.block
end
section
open Go.RowKit Go.Deep
end
section
open Go.RowKit Go.Deep
theorem wp_append_owncopy {α : Type} {enc : α -> List Value} {size : Nat} {P : Program} {w : World} {o : Oper} {a : Act} {K : Act -> World -> Prop} {Q : Exit -> Act -> World -> Prop} (base : Nat) (s x : Operand) (t e : TypeId) (i0 : TypeInfo) (z : Value) (bytes : Nat)
  (ht : P.underlying t = some (.slice e)) (hi0 : P.info? e = some i0) (hz0 : i0.zero = some z) (hz1 : i0.size = size) (hz2 : i0.bytes = bytes) (hzs : z.cells.size = size) (hs0 : 0 < size) (hby : bytes <= 1000) (he : ∀ x, (enc x).length = size)
  (ho : o.op = .call { callee := .builtin .append, args := #[s, x], argTypes := #[t, t] }) (nb : Nat) (hs : a.eval s = .slice (some ⟨nb, 0, none⟩) 0 0) (hnb : base <= nb) (hwn : Whole w nb e #[])
  (l : List α) (A : Option Addr) (cp : Nat) (hx : a.eval x = .slice A l.length cp) (hl : l.length <= 1000) (hr : Row enc size w w.heap.size A l) (hbase : base <= w.heap.size)
  (h : ∀ B c w', w'.ownsRow base e size (.slice B l.length c) l.length (l.flatMap enc) -> Below w.heap.size w w' -> l.length <= c -> K (a.put o.dst (.slice B l.length c)) w') : Oper.wp P o a w K Q := by
 rcases Nat.eq_zero_or_pos l.length with h0 | hpos
 ·obtain rfl : l = [] := List.eq_nil_of_length_eq_zero h0
  have hrun : (Builtin.append_ #[t, t] o.type #[.slice (some ⟨nb, 0, none⟩) 0 0, .slice A 0 cp]).run P w = .ok (.slice (some ⟨nb, 0, none⟩) 0 0) w := by
   have hu := run_underlying (P := P) (w := w) ht
   rcases A with _ | ad <;> simp [Builtin.append_, hu, sizeOf, typeInfo, hi0, Builtin.lenOf, Builtin.firstCells, loadCells, loadCellsFrom, storeCells]
  unfold Oper.wp
  simp [execOp, ho, resolve, invoke, builtin, hs, hx, hrun, Result.andThen]
  exact h _ _ w ⟨by simp, .inr ⟨nb, 0, #[], rfl, hnb, hwn, Nat.le_refl _, by unfold maxLen; omega, by simp, by simp⟩⟩ (Below.refl _ _) (Nat.le_refl _)
 ·obtain ⟨b, off, rfl, hb, hc⟩ := hr (by intro e; rw [e] at hpos; simp at hpos)
  refine wp_append_new s x t ho e i0 z size bytes ht hi0 hz0 hz1 hz2 hzs hs0 ⟨nb, 0, none⟩ hs ⟨b, off, none⟩ l.length cp (l.flatMap enc) hx (by rw [flat_len (enc := enc) (s := size) he]) (row_news (enc := enc) (s := size) hs0 he hr) hpos (by unfold maxLen; omega) (by have := Nat.mul_le_mul hl hby; omega) ?_
  intro gg cap w' hown hbl
  exact h _ _ w' (own_more hown hbase) hbl (own_room hown).1
section
theorem own_apart {w : World} {base base' : Nat} {e e' : TypeId} {size size' n n' : Nat} {v v' : Value} {xs xs' : List Value} (h : w.ownsRow base e size v n xs) (h' : w.ownsRow base' e' size' v' n' xs') (hne : e ≠ e') : v.ownBlock = none ∨ v.ownBlock ≠ v'.ownBlock := by
 rcases Option.eq_none_or_eq_some v.ownBlock with h0 | ⟨q, h0⟩
 ·exact .inl h0
 ·exact .inr fun h2 => own_own_ne h h' hne q h0 (h2 ▸ h0)
end
end
section
open Go.RowKit Go.Deep
end
section
open Go.RowKit Go.Deep
end

section
open Go.RowKit Go.Deep
end
section
open Go.ChangeShapes Go.WideShapes Go.ChangeAt Go.RowKit Go.Deep
theorem map_intL : ∀ l : List Int, l.map vi = l.flatMap intL
 | [] => rfl
 | x :: l => by
  rw [List.map_cons, List.flatMap_cons, <- map_intL l]
  rfl
end
section
open Go.ChangeShapes Go.WideShapes Go.ChangeAt Go.RowKit Go.Deep
structure Byt where
 n : Int
 lo : 0 <= n
 hi : n <= 255
structure Hlf where
 n : Int
 lo : 0 <= n
 hi : n <= 65535
abbrev byL (x : Byt) : List Value := [.int .u8 x.n]
abbrev hwL (x : Hlf) : List Value := [.int .u16 x.n]
theorem row_byte {w : World} {B : Nat} {A : Option Addr} {l : List Byt} (h : Row byL 1 w B A l) {k : Nat} {c : Byt} (hk : l[k]? = some c) :
  ∃ b off, A = some ⟨b, off, none⟩ /\ b < B /\ w.cell? ⟨b, off + k, none⟩ = some (.int .u8 c.n) := by
 obtain ⟨b, off, e, hb, hc⟩ := h (ne_nil_of_get hk)
 exact ⟨b, off, e, hb, by simpa using hc k c hk 0 _ rfl⟩
theorem row_half {w : World} {B : Nat} {A : Option Addr} {l : List Hlf} (h : Row hwL 1 w B A l) {k : Nat} {c : Hlf} (hk : l[k]? = some c) :
  ∃ b off, A = some ⟨b, off, none⟩ /\ b < B /\ w.cell? ⟨b, off + k, none⟩ = some (.int .u16 c.n) := by
 obtain ⟨b, off, e, hb, hc⟩ := h (ne_nil_of_get hk)
 exact ⟨b, off, e, hb, by simpa using hc k c hk 0 _ rfl⟩
end
section
theorem own_some {w : World} {base : Nat} {e : TypeId} {size n cap : Nat} {A : Option Addr} {xs : List Value} (h : w.ownsRow base e size (.slice A n cap) n xs) (hn : 0 < n) : ∃ g, A = some ⟨g, 0, none⟩ /\ base <= g := by
 rcases h.2 with ⟨_, h0⟩ | ⟨g, cap', cur, h', hb, _⟩
 ·omega
 ·simp only [Value.slice.injEq, true_and] at h'
  exact ⟨g, h'.1, hb⟩
end
section
open Go.ChangeShapes Go.WideShapes Go.ChangeAt Go.RowKit Go.Deep
end
section
open Go.ChangeShapes Go.WideShapes Go.ChangeAt Go.RowKit Go.Deep
end

section
open Go.RowKit Go.Deep
end
section
open Go.RowKit Go.Deep
end
section
open Go.ChangeShapes Go.WideShapes Go.ChangeAt Go.RowKit Go.Deep
end
section
open Go.ChangeShapes Go.WideShapes Go.ChangeAt Go.RowKit Go.Deep
end
section
open Go.RowKit Go.Deep
end



section
open Go.RowKit Go.Deep

end
end

end Go.Proofs.YtcdhhfgpdokkoaaGreat
