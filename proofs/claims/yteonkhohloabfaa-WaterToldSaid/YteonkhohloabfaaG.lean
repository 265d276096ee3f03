/- A range over a function whose iterator may write memory of its own: the statement's law and a round's law, at the fence that lets all in; regions of a round by the laws of plain regions. -/
import Derived.RangeFuncNested
import Derived.RangeFuncCalls
import Derived.RangeFuncLeaves
import Derived.OrdersHeld
import Derived.OrdersIn
import Derived.Deep.RegionHeld3
namespace Go.Proofs.Yteonkhohloabfaa
open Go.RowKit
variable {P : Program}

/-- The record of a loop: in a round; left by a jump; at its end. -/
def busyOf (r : Loop) : Loop := { r with state := .busy }
def doneOf (r : Loop) (c : Code) : Loop := { r with state := .done, pending := some c }
def overOf (r : Loop) : Loop := { r with state := .exhausted }

/-- What is asked when a round's body is left. -/
def roundEnd (l : Nat) (r : Loop) (R : Ending → World → Prop) : Exit → Act → World → Prop
  | .normal, _, W => W.heap[l]? = some (.loop (busyOf r)) ∧ R (.returned (.bool true)) (W.putObj l (.loop r))
  | .ret, _, W => W.heap[l]? = some (.loop (busyOf r)) ∧ R (.returned (.bool false)) (W.putObj l (.loop (doneOf r .ret)))
  | .exit id, _, W => W.heap[l]? = some (.loop (busyOf r)) ∧ R (.returned (.bool false)) (W.putObj l (.loop (doneOf r (.exit id))))
  | _, _, _ => False

/-- One round: the left sides are set, the body is walked. -/
theorem yield_round {m l : Nat} {r : Loop} {args : Array Value} {W : World} {R : Ending → World → Prop} (hl : W.heap[l]? = some (.loop r)) (hr : r.state = .ready) (hp : r.pending = none) (hps : args.size = r.params.size)
    (h : r.assign.wpIn (Fence.wide.inRound l) m P (Exit.then (fun a₁ W₁ => W₁.heap[l]? = some (.loop r) ∧ r.body.wpIn (Fence.wide.inRound l) m P (roundEnd l r R) a₁ (W₁.putObj l (.loop (busyOf r)))) (fun _ _ _ => False))
      { tmps := (r.params.zip args).foldl (fun tmps (t, a) => tmps.setIfInBounds t a) r.tmps, defers := [] } W) :
    YieldAt Fence.wide m P l args W R := by
  refine ⟨r.fn, _, r.assign, r.body, run_yield (P := P) hl hps, roundIn_of_wpIn trivial (wpIn_mono h ?_)⟩
  intro e a₁ W₁ hq
  cases e with
  | normal =>
    obtain ⟨hl1, hb⟩ := hq
    refine ⟨_, run_beginRound hl1 hr, wpIn_mono hb ?_⟩
    intro e2 a2 W2 hq2
    cases e2 with
    | normal =>
      obtain ⟨h2, hR⟩ := hq2
      refine ⟨_, _, run_endRound (P := P) none h2, ?_⟩
      have e : ({ r with state := LoopState.ready, pending := none } : Loop) = r := by cases r; simp_all
      simpa [busyOf, e] using hR
    | ret =>
      obtain ⟨h2, hR⟩ := hq2
      exact ⟨_, _, run_endRound (P := P) (some .ret) h2, by simpa [busyOf, doneOf] using hR⟩
    | exit id =>
      obtain ⟨h2, hR⟩ := hq2
      exact ⟨_, _, run_endRound (P := P) (some (.exit id)) h2, by simpa [busyOf, doneOf] using hR⟩
    | goto t => exact hq2.elim
    | panic c => exact hq2.elim
    | outgrown => exact hq2.elim
  | ret => exact hq.elim
  | exit id => exact hq.elim
  | goto t => exact hq.elim
  | panic c => exact hq.elim
  | outgrown => exact hq.elim

/-- What is asked when the iterator has returned: no round left by a jump, or one did. -/
def rangeEnd (n : Nat) (P : Program) (D : Nat) (r : Loop) (Q : Exit → Act → World → Prop) (a : Act) (e : Ending) (W : World) : Prop :=
  (∃ v, e = .returned v) ∧
    ((W.heap[D + 1]? = some (.loop r) ∧ Q .normal { a with defers := { target := .collected D, args := #[] } :: a.defers } (W.putObj (D + 1) (.loop (overOf r)))) ∨
     (∃ c, W.heap[D + 1]? = some (.loop (doneOf r c)) ∧ c.wpIn Fence.wide n P Q { a with defers := { target := .collected D, args := #[] } :: a.defers } (W.putObj (D + 1) (.loop (overOf (doneOf r c))))))

/-- The statement: the iterator's own contract, from the world with the loop's record on. -/
theorem range_law {n : Nat} {g : Operand} {ps : Array Tmp} {assign body : Code} {Q : Exit → Act → World → Prop} {a : Act} {w : World} {gf : Nat} {lb : Array Value}
    (hg : a.eval g = .func (.func gf) #[] lb) (eg : ∀ args w, (callFunc gf args).run P w = .ok (.enter gf args) w)
    (h : ∀ r : Loop, r.state = .ready → r.pending = none → r.tmps = a.tmps → r.params = ps → r.assign = assign → r.body = body →
      Calls P gf (#[.func (.yield (w.heap.size + 1)) #[] #[]] ++ lb) ((w.alloc (.deferred (some []))).alloc (.loop r)) (rangeEnd n P w.heap.size r Q a)) :
    (Code.rangeFunc g ps assign body).wpIn Fence.wide n P Q a w := by
  refine wpIn_rangeFunc ?_
  intro fn hfn
  obtain ⟨W1, hW1⟩ : ∃ W1, W1 = (w.alloc (.deferred (some []))).alloc (.loop { state := .ready, pending := none, fn, tmps := a.tmps, params := ps, assign, body, defers := w.heap.size }) := ⟨_, rfl⟩
  refine ⟨w.heap.size + 1, [{ target := .collected w.heap.size, args := #[] }], W1, { target := .fn (.func gf) lb, args := #[.func (.yield (w.heap.size + 1)) #[] #[]] }, W1, gf,
    #[.func (.yield (w.heap.size + 1)) #[] #[]] ++ lb, W1, hW1 ▸ run_enterLoop_outer _ _ _ _ _, ?_, ?_, ?_, fun h => by simp [Fence.wide] at h, ?_⟩
  · simp only [resolve, hg]
    simp [go_sem]
  · intro f' _; trivial
  · simp [invoke, go_sem, eg]
  · rw [hW1]
    refine callsIn_wide.2 ((h _ rfl rfl rfl rfl rfl rfl).mono ?_)
    rintro e W ⟨⟨v, rfl⟩, ⟨hl, hq⟩ | ⟨c, hl, hq⟩⟩
    · exact ⟨none, _, run_endLoop (P := P) hl (by simp), hq⟩
    · exact ⟨some c, _, run_endLoop (P := P) hl (by simp [doneOf]), hq⟩

/-! ## Regions of a round -/
def Oper.noDefer (o : Oper) : Bool := match o.op with
  | .defer _ => false
  | _ => true
theorem semAt_noDefer {o : Oper} (h : Oper.noDefer o = true) (x : Option Nat) (ρ : Operand → Value) : o.semAt x ρ = execOp ρ o := by
  unfold Oper.noDefer at h
  cases x with
  | none => rfl
  | some l =>
    unfold Oper.semAt
    cases ho : o.op <;> simp_all

/-- A post at a normal end alone. -/
def onlyN (Q : Act → World → Prop) : Exit → Act → World → Prop
  | .normal, a, w => Q a w
  | _, _, _ => False
theorem onlyN_not (Q : Act → World → Prop) : ¬ LetsOut (onlyN Q) := fun ⟨_, _, h⟩ => h

theorem wpIn_of_wp {o : Oper} {l n : Nat} {a : Act} {w : World} {Q' : Act → World → Prop} {Q : Exit → Act → World → Prop} {K : Act → World → Prop} (hd : Oper.noDefer o = true) (h : o.wp P a w K (onlyN Q')) :
    o.wpIn (Fence.wide.inRound l) n P a w K Q := by
  refine ⟨fun _ _ => trivial, ?_⟩
  rw [semAt_noDefer hd]
  unfold Oper.wp at h
  generalize (execOp a.eval o).run P w = r at *
  cases r with
  | ok x w' =>
    cases x <;> simp only [Oper.upon, Oper.uponIn] at h ⊢ <;>
      first
        | exact h
        | exact h.elim
        | exact ⟨fun hh => (by simp [Fence.inRound, Fence.wide] at hh), CallsIn.inRound l (callsIn_wide.2 (h.mono (fun e w'' he => by cases e <;> first | exact he | exact he.elim | exact (onlyN_not _ he).elim)))⟩
        | exact ⟨fun hh => (by simp [Fence.inRound, Fence.wide] at hh), fun c cs _ => let ⟨v, w3, hr, hs⟩ := h c cs; ⟨v, w3, hr, stepsIn_wide.2 hs⟩⟩
  | halt x w' =>
    cases x <;> simp only [Oper.upon, Oper.uponIn] at h ⊢ <;> exact h.elim

theorem wpAnyIn_of_any {l n : Nat} {md : Region.Mode} {ops : Array Oper} {Q' : Act → World → Prop} {Q : Exit → Act → World → Prop} (hQ : ∀ a w, Q' a w → Q .normal a w) (hd : ops.all Oper.noDefer = true) :
    ∀ (fuel : Nat) (listed : Array Bool) (a : Act) (w : World), wpAny P md ops (onlyN Q') fuel listed a w → wpAnyIn (Fence.wide.inRound l) n P md ops Q fuel listed a w
  | 0, _, a, w, h => ⟨h.1, hQ _ _ h.2⟩
  | fuel + 1, listed, a, w, h => by
    refine ⟨fun hr => hQ _ _ (h.1 hr), fun i hi => ?_⟩
    have h2 := h.2 i hi
    unfold wpOp at h2
    unfold wpOpIn
    cases ho : ops[i]? with
    | none => simp only [ho] at h2 ⊢; exact wpAnyIn_of_any hQ hd fuel _ _ _ h2
    | some o =>
      simp only [ho] at h2 ⊢
      have hod : Oper.noDefer o = true := by
        rw [Array.all_eq_true_iff_forall_mem] at hd
        exact hd o (Array.mem_of_getElem? ho)
      split
      · rename_i hw
        rw [if_pos hw] at h2
        rcases h2 with h2 | ⟨_, h2⟩
        · exact Oper.wpIn_mono (fun a w hk => wpAnyIn_of_any hQ hd fuel _ _ _ hk) (wpIn_of_wp hod h2)
        · exact (onlyN_not _ h2).elim
      · rename_i hw
        rw [if_neg hw] at h2
        exact ⟨fun _ _ => trivial, wpAnyIn_of_any hQ hd fuel _ _ _ h2⟩

/-- A region of a round that draws its order, by the laws of a plain one. -/
theorem round_region {l n id : Nat} {ops : Array Oper} {Q' : Act → World → Prop} {Q : Exit → Act → World → Prop} {a : Act} {w : World} (S : World → Prop) (hm : P.follows .mixedOrders = true) (hd : ops.all Oper.noDefer = true)
    (hQ : ∀ a w, Q' a w → Q .normal a w)
    (h : wpAnyH P .any ops (onlyN Q') S ops.size (Array.replicate ops.size false) a w.drew) : (Code.region id ops true).wpIn (Fence.wide.inRound l) n P Q a w :=
  wpIn_region_any hm (wpAnyIn_of_any hQ hd _ _ _ _ (wpAny_of_held _ _ _ _ h))
end Go.Proofs.Yteonkhohloabfaa
