/- The search for the best plan: its function. -/
import Derived.Test.YtpnpnfjhjjdmgaaQ
import Derived.Deep.DeepCutAuto
namespace Go.Proofs.Ytpnpnfjhjjdmgaa
open Go.RowKit Go.Deep
open Go.ChangeMaps (setBlock)

theorem skw {x : Bool} {v : Value} (h : x = true) (W : World) : vIs (bif x then undef else v) undef W := by subst h; rfl
theorem gdT (x : Bool) : if (!x) = true then Value.bool x ≠ .bool true else Value.bool x = .bool true := by cases x <;> simp
theorem gdF (x : Bool) : if x = true then Value.bool x ≠ .bool false else Value.bool x = .bool false := by cases x <;> simp
theorem gdN (x f : Bool) : if (x || !f) = true then (bif x then undef else Value.bool f) ≠ .bool true else (bif x then undef else Value.bool f) = .bool true := by cases x <;> cases f <;> simp [undef]
theorem zero4 (W : World) : (zeroValue 4).run Try.prog W = .ok (.bool false) W := by
  obtain ⟨i0, hi0, hz⟩ := Option.map_eq_some_iff.1 (show (Try.prog.info? 4).map (fun i => i.zero) = some (some (.bool false)) by kernel_rfl)
  simp [zeroValue, typeInfo, hi0, hz]
theorem wp_lookup_r {K V : Type} [DecidableEq K] {P : Program} {w : World} {o : Oper} {a : Act} {Q : Exit → Act → World → Prop} {C : Act → World → Prop} (m x : Operand) (t : TypeId) (c : Bool) (hop : o.op = Op.lookup t m x c)
    {kt vt : TypeId} {ek : K → Value} {ev : V → Value} (E : EqKey P kt ek) (ht : P.underlying t = some (.map kt vt)) {z : Value} (hz : (zeroValue vt).run P w = .ok z w) (b : Nat) (l : List (K × V)) (hm : a.eval m = .map (some b)) (h : RMap ek ev b l w) (k : K) (hx : a.eval x = ek k)
    (hK : C (a.put o.dst (if c then .tuple #[((atR k l 0).map fun p => ev p.2).getD z, .bool (atR k l 0).isSome] else ((atR k l 0).map fun p => ev p.2).getD z)) w) : o.wp P a w C Q := by
  unfold Oper.wp
  simp only [execOp, hop, hm, hx, lookup_run E ht hz h k c, Sem.run_bind, Result.andThen]
  exact hK
/-- What a call of the search holds: its own two boxes, its list. -/
structure TrF (T : TP) (s : Sx) (l : List Int) (n : Nat) (A : Option Addr) (c : Nat) (lp : List (SxK × Bool)) (b : Option (List Int × Int)) (pv : Value) (sb lb : Nat) (w W : World) : Prop where
  hs : sb = w.heap.size
  hl : lb = w.heap.size + 1
  le : T.base ≤ w.heap.size
  ol : ∀ k, (Value.slice A n c).ownBlock = some k → k < w.heap.size
  tm : TryM T lp b pv W
  sx : Whole W sb 123 (stC s)
  lx : Whole W lb 25 #[.slice A n c]
  ow : W.ownsRow T.base 3 1 (.slice A n c) n (l.map vi)
  pn : PNe pv (.slice A n c)
  mv : Moved T (Value.slice A n c).ownBlock w W
section
variable {T : TP} {s : Sx} {l : List Int} {n : Nat} {A : Option Addr} {c : Nat} {lp : List (SxK × Bool)} {b : Option (List Int × Int)} {pv : Value} {sb lb : Nat} {w W W' : World}
theorem TrF.next (hT : TpOk T) (h : TrF T s l n A c lp b pv sb lb w W) (hb : newer W W') : TrF T s l n A c lp b pv sb lb w W' :=
  ⟨h.hs, h.hl, h.le, h.ol, h.tm.next hT hb, h.sx.below hb h.sx.lt, h.lx.below hb h.lx.lt, own_below h.ow hb, h.pn, h.mv.next hb⟩
theorem TrF.put (hT : TpOk T) (h : TrF T s l n A c lp b pv sb lb w W) (lp' : List (SxK × Bool)) : TrF T s l n A c lp' b pv sb lb w (setBlock W T.mb (.map (ents ekS evB lp') lp'.length)) := by
  have h1 := h.hs
  have h2 := h.hl
  have h3 := h.le
  have k2 := hT.mx
  have k3 := hT.xf
  have k4 := hT.fp
  have k5 := hT.pc'
  have k6 := hT.co
  have k7 := hT.oy
  have k8 := hT.yt
  have k9 := hT.tB
  exact ⟨h1, h2, h3, h.ol, h.tm.put hT lp', h.sx.setBlock (by omega) _, h.lx.setBlock (by omega) _, (Moved.setBlock (Moved.refl T none W) _).own hT h.ow (by simp), h.pn, h.mv.setBlock _⟩
theorem TrF.sne (h : TrF T s l n A c lp b pv sb lb w W) : some sb ≠ (Value.slice A n c).ownBlock := fun e => by have := h.ol _ e.symm; have := h.hs; omega
theorem TrF.lne (h : TrF T s l n A c lp b pv sb lb w W) : some lb ≠ (Value.slice A n c).ownBlock := fun e => by have := h.ol _ e.symm; have := h.hl; omega
theorem TrF.lone (h : TrF T s l n A c lp b pv sb lb w W) (k : Nat) (hk : k < T.base) : some k ≠ (Value.slice A n c).ownBlock := fun e => by have := own_ge h.ow _ e.symm; omega
/-- Behind a call of the search with a longer list. -/
theorem TrF.back (hT : TpOk T) (h : TrF T s l n A c lp b pv sb lb w W) {W1 : World} {g c' : Nat} {y : Int} (hon : Onto1 A c g c' W W1) {lp2 : List (SxK × Bool)} {b2 : Option (List Int × Int)} {pv2 : Value} (hm : Moved T (some g) W1 W')
    (ho2 : W'.ownsRow T.base 3 1 (.slice (some ⟨g, 0, none⟩) (n + 1) c') (n + 1) (l.map vi ++ [vi y])) (ht2 : TryM T lp2 b2 pv2 W') (hp2 : pvNew pv pv2 W1) : TrF T s l n A c lp2 b2 pv2 sb lb w W' := by
  obtain ⟨h1, h2⟩ := hon.back hT h.ow hm ho2
  have k1 := h.hs
  have k2 := h.hl
  have k3 := h.le
  have hsz : W.heap.size ≤ W1.heap.size := by rcases hon with ⟨_, _, q⟩ | ⟨_, q⟩ <;> exact q.size
  refine ⟨k1, k2, k3, h.ol, ht2, h2.high hT h.sx (by omega) h.sne, h2.high hT h.lx (by omega) h.lne, h1, ?_, h.mv.trans h2⟩
  exact h.pn.of hp2 fun k hk => by
    have := h.ol k hk
    have := h.mv.size
    omega
/-- A block of the range has turned. -/
theorem TrF.side (hT : TpOk T) (h : TrF T s l n A c lp b pv sb lb w W) {d : Nat} {o : Obj} (hd : W.heap[d]? = some o) (ho : ∀ cs t z, o ≠ .cells cs t z) (hg : W.grownBy W' (some d)) (hlb : lb < d) : TrF T s l n A c lp b pv sb lb w W' := by
  have k1 := h.hs
  have k2 := h.hl
  have k3 := h.le
  have own : ∀ {v : Value} {m : Nat} {xs : List Value}, W.ownsRow T.base 3 1 v m xs → ∀ k, v.ownBlock = some k → k ≠ d := by
    intro v m xs hv k hk e
    rcases hv.2 with ⟨rfl, _⟩ | ⟨q, cap, cur, rfl, _, hh, _⟩
    · simp [Value.ownBlock] at hk
    · have e1 : q = k := by simpa [Value.ownBlock] using hk
      rw [e1, e, hd] at hh
      exact ho _ _ _ (Option.some.inj hh)
  obtain ⟨m, xs, hpl⟩ := h.tm.plan.own
  refine ⟨k1, k2, k3, h.ol, h.tm.grown hT hg (fun k hk => by injection hk with hk; omega) (fun k hk e => own hpl k hk (by injection e with e; exact e.symm)), h.sx.grown hg (by intro e; injection e with e; omega), h.lx.grown hg (by intro e; injection e with e; omega), h.ow.kept hg ?_, h.pn, ?_⟩
  · rcases Option.eq_none_or_eq_some (Value.slice A n c).ownBlock with e | ⟨k, e⟩
    · exact .inl e
    · exact .inr fun e2 => own h.ow k e (by rw [e] at e2; injection e2)
  · have m := h.mv
    exact ⟨hg.os.trans m.os, hg.tape.trans m.tape, hg.output.trans m.output, Nat.le_trans m.size hg.size, fun i hi h1 h2 h3 h4 h5 => (hg.block i (Nat.lt_of_lt_of_le hi m.size) (by rw [Ne, Option.some.injEq]; omega)).trans (m.block i hi h1 h2 h3 h4 h5)⟩
end
/-- The search's contract, for so many works left. -/
def TryC (T : TP) (r : Nat) : Prop := ∀ (s : Sx) (l : List Int) (n : Nat) (A : Option Addr) (c : Nat) (lp : List (SxK × Bool)) (M : List Sx) (b : Option (List Int × Int)) (pv : Value) (W : World),
  T.p.ws.length - s.n = r → SxGo T.p s → s.n = n → l.length = n → Seen lp M → TryM T lp b pv W → W.ownsRow T.base 3 1 (.slice A n c) n (l.map vi) → (l = [] → A = none) → PNe pv (.slice A n c) →
  Calls Try.prog 80 (#[.agg (stC s), .slice A n c] ++ tpC T) W fun e W' => (∃ v, e = .returned v) ∧ ∃ lp' pv', Seen lp' (tryP (srch T.p.pj T.wo) T.fst r s l (M, b)).1 ∧ TryM T lp' (tryP (srch T.p.pj T.wo) T.fst r s l (M, b)).2 pv' W' ∧
    W'.ownsRow T.base 3 1 (.slice A n c) n (l.map vi) ∧ pvNew pv pv' W ∧ Moved T (Value.slice A n c).ownBlock W W'
/-- Whether a state is left out. -/
def cutB (T : TP) (M : List Sx) (b : Option (List Int × Int)) (s : Sx) : Bool := T.fst && b.isSome || b.isSome && decide (costOf b ≤ s.p.sum) || decide (s ∈ M) || !paidB T.p.ps s.p
theorem cutB_is (T : TP) (M : List Sx) (b : Option (List Int × Int)) (s : Sx) : (!imp T.fst b ((srch T.p.pj T.wo).cost s) || decide (s ∈ M) || (srch T.p.pj T.wo).cut s) = cutB T M b s := by
  unfold cutB
  congr 2
  cases b with
  | none => simp [imp]
  | some q =>
    have e : (srch T.p.pj T.wo).cost s = s.p.sum := rfl
    rw [e]
    simp only [imp, costOf, Option.isSome_some, Bool.and_true, Bool.true_and, Bool.not_and, Bool.not_not]
    congr 1
    by_cases h : s.p.sum < q.2
    · have : ¬ q.2 ≤ s.p.sum := by omega
      simp [h, this]
    · have : q.2 ≤ s.p.sum := by omega
      simp [h, this]
theorem tryP_cut {T : TP} {M : List Sx} {b : Option (List Int × Int)} {s : Sx} (h : cutB T M b s = true) (r : Nat) (l : List Int) : tryP (srch T.p.pj T.wo) T.fst r s l (M, b) = (M, b) := by
  unfold tryP
  rw [cutB_is, h, if_pos rfl]
theorem tryP_end {T : TP} {M : List Sx} {b : Option (List Int × Int)} {s : Sx} (h : cutB T M b s = false) (l : List Int) : tryP (srch T.p.pj T.wo) T.fst 0 s l (M, b) = (s :: M, if enoughB T.p.ns s.a then some (l, s.p.sum) else b) := by
  unfold tryP
  rw [cutB_is, h, if_neg (by decide)]
  rfl
theorem tryP_go {T : TP} {M : List Sx} {b : Option (List Int × Int)} {s : Sx} (h : cutB T M b s = false) (r : Nat) (l : List Int) : tryP (srch T.p.pj T.wo) T.fst (r + 1) s l (M, b) = (kidsS T.p.pj T.wo s).foldl (fun st y => tryP (srch T.p.pj T.wo) T.fst r (bldS T.p.pj s y) (l ++ [y]) st) (s :: M, b) := by
  conv => lhs; unfold tryP
  rw [cutB_is, h, if_neg (by decide)]
  rfl
/-- A copy of the list, made since. -/
def vClo (base n : Nat) (l : List Int) (H : Nat) (v : Value) (W : World) : Prop := ∃ B c', v = .slice B n c' ∧ W.ownsRow base 3 1 (.slice B n c') n (l.map vi) ∧ (l = [] → B = none) ∧ ∀ k, (Value.slice B n c').ownBlock = some k → H ≤ k
theorem vClo_st {base n : Nat} {l : List Int} {H : Nat} : ∀ v W W', vClo base n l H v W → newer W W' → vClo base n l H v W' := fun _ _ _ ⟨B, c', h1, h2, h3, h4⟩ hb => ⟨B, c', h1, own_below h2 hb, h3, h4⟩
theorem clone_n (T : TP) (l : List Int) (n : Nat) (hln : l.length = n) (hn : n ≤ 1000) (A : Option Addr) (c : Nat) (W : World) (hB : T.base ≤ W.heap.size) (ho : W.ownsRow T.base 3 1 (.slice A n c) n (l.map vi)) (h0 : l = [] → A = none) :
    Calls Try.prog 68 #[.slice A n c] W fun e w' => (∃ v, e = .returned v ∧ vClo T.base n l W.heap.size v w') ∧ newer W w' := by
  subst hln
  refine (clone_any l A c T.base W hn ho h0).mono ?_
  rintro e w' ⟨B, c', rfl, h1, h2, h3⟩
  exact ⟨⟨_, rfl, B, c', rfl, own_more h1 hB, h3, own_ge h1⟩, h2⟩
/-- The longer list. -/
def vOn1 (base : Nat) (A : Option Addr) (n c : Nat) (l : List Int) (y : Int) (w : World) (v : Value) (W : World) : Prop := ∃ g c', v = .slice (some ⟨g, 0, none⟩) (n + 1) c' ∧ W.ownsRow base 3 1 (.slice (some ⟨g, 0, none⟩) (n + 1) c') (n + 1) (l.map vi ++ [vi y]) ∧ Onto1 A c g c' w W
theorem Onto1.next {A : Option Addr} {c g c' : Nat} {w W W' : World} (h : Onto1 A c g c' w W) (hb : newer W W') : Onto1 A c g c' w W' := by
  rcases h with ⟨h1, h2, h3⟩ | ⟨h1, h2⟩
  · exact .inl ⟨h1, h2, grown_below h3 hb⟩
  · exact .inr ⟨h1, grown_below h2 hb⟩
theorem Onto1.ahead {A : Option Addr} {c g c' : Nat} {w W W' : World} (hb : newer w W) (h : Onto1 A c g c' W W') : Onto1 A c g c' w W' := by
  rcases h with ⟨h1, h2, h3⟩ | ⟨h1, h2⟩
  · exact .inl ⟨h1, h2, grown_trans' (grown_of_newer hb _) h3⟩
  · exact .inr ⟨Nat.le_trans hb.size h1, grown_trans' (grown_of_newer hb _) h2⟩
theorem vOn1_st {base : Nat} {A : Option Addr} {n c : Nat} {l : List Int} {y : Int} {w : World} : ∀ v W W', vOn1 base A n c l y w v W → newer W W' → vOn1 base A n c l y w v W' := fun _ _ _ ⟨g, c', h1, h2, h3⟩ hb => ⟨g, c', h1, own_below h2 hb, h3.next hb⟩
section
variable {T : TP} {s : Sx} {l : List Int} {n : Nat} {A : Option Addr} {c : Nat} {lp : List (SxK × Bool)} {b : Option (List Int × Int)} {pv : Value} {sb lb : Nat} {w wv W : World}
/-- A call of the search for a beginning that is one year longer. -/
theorem child_call (hT : TpOk T) {r' : Nat} (ih : TryC T r') (hf : TrF T s l n A c lp b pv sb lb w wv) {x : Wk} (hx : T.p.ws[s.n]? = some x) (hgo : SxGo T.p s) (hr : T.p.ws.length - s.n = r' + 1) (hsn : s.n = n) (hln : l.length = n) {M : List Sx} (hseen : Seen lp M) (y : Int)
    {g c' : Nat} (hon : Onto1 A c g c' wv W) (hown : W.ownsRow T.base 3 1 (.slice (some ⟨g, 0, none⟩) (n + 1) c') (n + 1) (l.map vi ++ [vi y])) :
    Calls Try.prog 80 (#[.agg (stC (bldS T.p.pj s y)), .slice (some ⟨g, 0, none⟩) (n + 1) c'] ++ tpC T) W fun e w2 => (∃ v, e = .returned v) ∧ ∃ lp2 pv2, Seen lp2 (tryP (srch T.p.pj T.wo) T.fst r' (bldS T.p.pj s y) (l ++ [y]) (M, b)).1 ∧
      TrF T s l n A c lp2 (tryP (srch T.p.pj T.wo) T.fst r' (bldS T.p.pj s y) (l ++ [y]) (M, b)).2 pv2 sb lb w w2 ∧ pvNew pv pv2 wv ∧ Moved T (Value.slice A n c).ownBlock wv w2 := by
  have hlen : s.n < T.p.pj.works.length := by
    have := (List.getElem?_eq_some_iff.1 hx).1
    simpa [Pm.pj] using this
  have hbn := bldS_n T.p.pj s y hlen
  have hgr := hon.grown (n := n)
  obtain ⟨m, xs, hpl⟩ := hf.tm.plan.own
  refine (ih (bldS T.p.pj s y) (l ++ [y]) (n + 1) (some ⟨g, 0, none⟩) c' lp M b pv W (by rw [hbn]; omega) (hgo.bld hT.p hx y) (by rw [hbn, hsn]) (by rw [List.length_append, hln]; rfl) hseen (hf.tm.grown hT hgr (own_ge hf.ow) (fun k hk => hf.pn k hk)) (by rw [List.map_append]; exact hown) (fun h => by simp at h) (hon.pne hf.pn (own_lt hpl))).mono ?_
  rintro e w2 ⟨hv, lp2, pv2, hs2, ht2, ho2, hp2, hm2⟩
  rw [List.map_append] at ho2
  have hsz : wv.heap.size ≤ W.heap.size := hgr.size
  refine ⟨hv, lp2, pv2, hs2, hf.back hT hon hm2 ho2 ht2 hp2, hp2.imp id (fun h k hk => Nat.le_trans hsz (h k hk)), (hon.back hT hf.ow hm2 ho2).2⟩
end
/-- What the rounds over a work's years hold. -/
structure YrJ (T : TP) (s : Sx) (l : List Int) (n : Nat) (A : Option Addr) (c : Nat) (x : Wk) (pv0 : Value) (sb lb yb D : Nat) (r0 : Loop) (w : World) (st : List Sx × Option (List Int × Int)) (W : World) : Prop where
  ex : ∃ lp pv, Seen lp st.1 ∧ TrF T s l n A c lp st.2 pv sb lb w W ∧ pvNew pv0 pv w
  yb : Whole W yb 87 (wkC x)
  df : W.heap[D]? = some (.deferred (some []))
  lo : W.heap[D + 1]? = some (.loop r0)
section
variable {T : TP} {s : Sx} {l : List Int} {n : Nat} {A : Option Addr} {c : Nat} {x : Wk} {pv0 : Value} {sb lb yb D : Nat} {r0 : Loop} {w : World} {st : List Sx × Option (List Int × Int)} {W : World}
theorem YrJ.put (hT : TpOk T) (h : YrJ T s l n A c x pv0 sb lb yb D r0 w st W) (hlb : lb < D) (hyb : yb < D) (r' : Loop) : YrJ T s l n A c x pv0 sb lb yb D r' w st (W.putObj (D + 1) (.loop r')) := by
  obtain ⟨⟨lp, pv, h1, h2, h3⟩, h4, h5, h6⟩ := h
  exact ⟨⟨lp, pv, h1, h2.side hT h6 (fun _ _ _ e => by cases e) (grown_putL _ _ _) (by omega), h3⟩, h4.put (by omega) _, (World.putObj_heap_other (by omega)).trans h5, World.putObj_heap_same (Array.getElem?_eq_some_iff.1 h6).1⟩
end
/-- The search's state behind so many of a work's years. -/
def stY (T : TP) (r' : Nat) (s : Sx) (l : List Int) (x : Wd) (st : List Sx × Option (List Int × Int)) (k : Nat) : List Sx × Option (List Int × Int) := ((List.range k).map fun (j : Nat) => x.first + (j : Int)).foldl (fun st y => tryP (srch T.p.pj T.wo) T.fst r' (bldS T.p.pj s y) (l ++ [y]) st) st
theorem stY_succ (T : TP) (r' : Nat) (s : Sx) (l : List Int) (x : Wd) (st : List Sx × Option (List Int × Int)) (k : Nat) : stY T r' s l x st (k + 1) = tryP (srch T.p.pj T.wo) T.fst r' (bldS T.p.pj s (x.first + (k : Int))) (l ++ [x.first + (k : Int)]) (stY T r' s l x st k) := by
  unfold stY
  rw [List.range_succ, List.map_append, List.foldl_append]
  rfl
theorem tryP_kids {T : TP} {M : List Sx} {b : Option (List Int × Int)} {s : Sx} {x : Wk} (h : cutB T M b s = false) (hx : T.p.ws[s.n]? = some x) (r : Nat) (l : List Int) : tryP (srch T.p.pj T.wo) T.fst (r + 1) s l (M, b) =
    if (decide ((s.n : Int) = T.wo) || !agreeB T.p.vs x.d) = true then tryP (srch T.p.pj T.wo) T.fst r (bldS T.p.pj s (-1)) (l ++ [-1]) (s :: M, b) else stY T r s l x.d (tryP (srch T.p.pj T.wo) T.fst r (bldS T.p.pj s (-1)) (l ++ [-1]) (s :: M, b)) (yearsN x.d) := by
  have hxd : T.p.pj.works[s.n]? = some x.d := by simp [Pm.pj, hx]
  rw [tryP_go h]
  unfold kidsS
  rw [hxd]
  dsimp only
  rw [List.foldl_cons]
  have e : T.p.pj.villages = T.p.vs := rfl
  rw [e]
  split <;> rfl
set_option maxRecDepth 100000 in
set_option maxHeartbeats 4000000 in
theorem try_step (T : TP) (hT : TpOk T) (r : Nat) (IH : ∀ r', r = r' + 1 → TryC T r') : TryC T r := by
  intro s l n A c lp M b pv w hr hgo hsn hln hseen htm how hA hpn
  have HIH := Lib.hid IH
  have HS := Lib.hid (And.intro hseen (And.intro hA (And.intro hsn hln)))
  have HP9 := Lib.hid (hgo.p9 hT.p)
  have HF := Lib.hid (show TrF T s l n A c lp b pv w.heap.size (w.heap.size + 1) w ((w.alloc (.cells (stC s) 123)).alloc (.cells #[.slice A n c] 25)) from by
    have h1 := newer_trans (newer_allocH w (.cells (stC s) 123)) (newer_allocH (w.alloc (.cells (stC s) 123)) (.cells #[.slice A n c] 25))
    have h2 := Whole.made (w.alloc (.cells (stC s) 123)) 25 #[.slice A n c]
    simp only [World.size_alloc] at h2
    exact ⟨rfl, rfl, htm.le, own_lt how, htm.next hT h1, (Whole.made w 123 (stC s)).alloc _, h2, own_below how h1, hpn, .ofNewer T _ h1⟩)
  clear IH hseen hA hpn htm how hln hsn
  refine callsIn_wide.1 (callsIn_of_wp_marks (n := 9) Try.func80 rfl trivial ?_ rfl)
  simp only [Try.ntmps80, List.size_toArray, List.length_cons, List.length_nil, Nat.reduceAdd, Nat.reduceSub, Array.replicate_succ, Array.replicate_zero, List.push_toArray, List.append_toArray, List.nil_append, List.cons_append]
  refine wpIn_wide.2 ?_
  go_upto_region 1 with fail
  refine genQ (TrF T s l n A c lp b pv w.heap.size (w.heap.size + 1) w) HF.out ?_
  clear HF
  obtain ⟨sb, hsb⟩ : ∃ sb, sb = w.heap.size := ⟨_, rfl⟩
  rw [← hsb]
  obtain ⟨lb, hlb⟩ : ∃ lb, lb = sb + 1 := ⟨_, rfl⟩
  rw [← hlb]
  clear hsb hlb
  intro wv hfv
  go_cut [43] from 13 (fun s43 wx => s43 = .bool (cutB T M b s) ∧ TrF T s l n A c lp b pv sb lb w wx)
  case first =>
    obtain ⟨F, hF⟩ : ∃ F, F = T.fst := ⟨_, rfl⟩
    obtain ⟨f, hfb⟩ : ∃ f, f = b.isSome := ⟨_, rfl⟩
    obtain ⟨cc, hcc⟩ : ∃ cc, cc = costOf b := ⟨_, rfl⟩
    obtain ⟨g, hg⟩ : ∃ g, g = decide (costOf b ≤ s.p.sum) := ⟨_, rfl⟩
    obtain ⟨m, hm⟩ : ∃ m, m = decide (s ∈ M) := ⟨_, rfl⟩
    obtain ⟨pd, hpd⟩ : ∃ pd, pd = paidB T.p.ps s.p := ⟨_, rfl⟩
    have HEQ : Hid ((F && f || f && g || m || !pd) = cutB T M b s) := Lib.hid (by unfold cutB; rw [← hF, ← hfb, ← hg, ← hm, ← hpd])
    rw [← hcc] at hg
    have hge : decide (cc ≤ s.p.sum) = g := hg.symm
    have hf := hfv
    have cF := hf.tm.fb.at 0 (v := .bool T.fst) rfl
    have cO := hf.tm.ob.at 0 (v := .bool b.isSome) rfl
    have cC := hf.tm.cb.at 0 (v := vi (costOf b)) rfl
    rw [← hF] at cF
    rw [← hfb] at cO
    rw [← hcc] at cC
    have cX := hf.tm.xb.at 0 (v := .pointer (some ⟨T.qb, 0, none⟩)) rfl
    have q0 := hf.tm.q.at 0 (v := vi T.p.years) rfl
    have q1 := hf.tm.q.at 1 (v := vi T.p.slopes) rfl
    have q2 := hf.tm.q.at 2 (v := .slice T.p.wa T.p.ws.length T.p.wc) rfl
    have q3 := hf.tm.q.at 3 (v := .slice T.p.na T.p.ns.length T.p.nc) rfl
    have q4 := hf.tm.q.at 4 (v := .slice T.p.va T.p.vs.length T.p.vc) rfl
    have q5 := hf.tm.q.at 5 (v := .slice T.p.pa T.p.ps.length T.p.pc) rfl
    have q6 := hf.tm.q.at 6 (v := vi T.wo) rfl
    have q7 := hf.tm.q.at 7 (v := .map (some T.mb)) rfl
    have s21 := hf.sx.at 21 (v := vi (iAt s.p 0)) rfl
    have s22 := hf.sx.at 22 (v := vi (iAt s.p 1)) rfl
    have s23 := hf.sx.at 23 (v := vi (iAt s.p 2)) rfl
    have s24 := hf.sx.at 24 (v := vi (iAt s.p 3)) rfl
    have s25 := hf.sx.at 25 (v := vi (iAt s.p 4)) rfl
    have HLK : Hid (((atR (⟨s, hgo.inn hT.p⟩ : SxK) lp 0).map fun p => evB p.2).getD (.bool false) = .bool m) := Lib.hid (by rw [hm]; exact HS.out.1.look ⟨s, hgo.inn hT.p⟩)
    have HF := Lib.hid hf
    have HPD : Hid (∀ W, newer wv W → Calls Try.prog 65 #[pmV T.p, .agg (sp5 s.p)] W fun e w' => e = .returned (.bool pd) ∧ newer W w') := Lib.hid (fun W hW => by
      have h5 := hT.p.pn
      have h6 := hT.p.years
      rw [hpd]
      exact paid_any T.p s.p W ((HF.out.tm.next hT hW).pm.ok ((HF.out.tm.next hT hW).lt hT)) (by omega) hgo.ok.p HP9.out (fun x hx => by have := hT.p.ps x hx; omega) hT.pc)
    clear hf hfv hm hpd hg hF hfb hcc
    refine wp_words (by kernel_rfl) (region_told_u 30 (by kernel_rfl) (by kernel_rfl) [false, false, (!F), false, false, (F && f), (F && f), ((F && f) || !f), ((F && f) || !f), ((F && f) || !f), ((F && f) || !f), (F && f), false, false, (F && f || f && g), (F && f || f && g), (F && f || f && g), (F && f || f && g), (F && f || f && g), (F && f || f && g), false, false, (F && f || f && g || m), (F && f || f && g || m), (F && f || f && g || m), (F && f || f && g || m), (F && f || f && g || m), (F && f || f && g || m), (F && f || f && g || m), (F && f || f && g || m), false] (fun W => Below wv.heap.size wv W) newer [vIs (.bool F), vIs (.bool F), vIs ((bif (!F) then undef else .bool f)), vIs (.bool (F && f)), vIs (.bool (F && f)), vIs ((bif (F && f) then undef else .bool f)), vIs ((bif (F && f) then undef else .bool f)), vIs ((bif ((F && f) || !f) then undef else .agg (stC s))), vIs ((bif ((F && f) || !f) then undef else vi s.p.sum)), vIs ((bif ((F && f) || !f) then undef else vi cc)), vIs ((bif ((F && f) || !f) then undef else .bool g)), vIs ((bif (F && f) then undef else .bool (f && g))), vIs (.bool (F && f || f && g)), vIs (.bool (F && f || f && g)), vIs ((bif (F && f || f && g) then undef else .pointer (some ⟨T.qb, 0, none⟩))), vIs ((bif (F && f || f && g) then undef else .pointer (some ⟨T.qb, 0, none⟩))), vIs ((bif (F && f || f && g) then undef else .pointer (some ⟨T.qb, 7, none⟩))), vIs ((bif (F && f || f && g) then undef else .map (some T.mb))), vIs ((bif (F && f || f && g) then undef else .agg (stC s))), vIs ((bif (F && f || f && g) then undef else .bool m)), vIs (.bool (F && f || f && g || m)), vIs (.bool (F && f || f && g || m)), vIs ((bif (F && f || f && g || m) then undef else .pointer (some ⟨T.qb, 0, none⟩))), vIs ((bif (F && f || f && g || m) then undef else .pointer (some ⟨T.qb, 0, none⟩))), vIs ((bif (F && f || f && g || m) then undef else .pointer (some ⟨T.qb, 0, none⟩))), vIs ((bif (F && f || f && g || m) then undef else pmV T.p)), vIs ((bif (F && f || f && g || m) then undef else .pointer (some ⟨sb, 21, none⟩))), vIs ((bif (F && f || f && g || m) then undef else .agg (sp5 s.p))), vIs ((bif (F && f || f && g || m) then undef else .bool pd)), vIs ((bif (F && f || f && g || m) then undef else .bool (!pd)))] ⟨rfl, rfl, (fun v W h => by obtain rfl : v = _ := h; exact gdT F), rfl, rfl, (fun v W h => by obtain rfl : v = _ := h; exact gdF (F && f)), (fun v W h => by obtain rfl : v = _ := h; exact gdF (F && f)), (fun v W h => by obtain rfl : v = _ := h; exact gdN (F && f) f), (fun v W h => by obtain rfl : v = _ := h; exact gdN (F && f) f), (fun v W h => by obtain rfl : v = _ := h; exact gdN (F && f) f), (fun v W h => by obtain rfl : v = _ := h; exact gdN (F && f) f), (fun v W h => by obtain rfl : v = _ := h; exact gdF (F && f)), rfl, rfl, (fun v W h => by obtain rfl : v = _ := h; exact gdF (F && f || f && g)), (fun v W h => by obtain rfl : v = _ := h; exact gdF (F && f || f && g)), (fun v W h => by obtain rfl : v = _ := h; exact gdF (F && f || f && g)), (fun v W h => by obtain rfl : v = _ := h; exact gdF (F && f || f && g)), (fun v W h => by obtain rfl : v = _ := h; exact gdF (F && f || f && g)), (fun v W h => by obtain rfl : v = _ := h; exact gdF (F && f || f && g)), rfl, rfl, (fun v W h => by obtain rfl : v = _ := h; exact gdF (F && f || f && g || m)), (fun v W h => by obtain rfl : v = _ := h; exact gdF (F && f || f && g || m)), (fun v W h => by obtain rfl : v = _ := h; exact gdF (F && f || f && g || m)), (fun v W h => by obtain rfl : v = _ := h; exact gdF (F && f || f && g || m)), (fun v W h => by obtain rfl : v = _ := h; exact gdF (F && f || f && g || m)), (fun v W h => by obtain rfl : v = _ := h; exact gdF (F && f || f && g || m)), (fun v W h => by obtain rfl : v = _ := h; exact gdF (F && f || f && g || m)), (fun v W h => by obtain rfl : v = _ := h; exact gdF (F && f || f && g || m)), trivial⟩ ⟨(fun h => Bool.noConfusion (show false = true from h)), (fun h => Bool.noConfusion (show false = true from h)), (fun h W => skw h W), (fun h => Bool.noConfusion (show false = true from h)), (fun h => Bool.noConfusion (show false = true from h)), (fun h W => skw h W), (fun h W => skw h W), (fun h W => skw h W), (fun h W => skw h W), (fun h W => skw h W), (fun h W => skw h W), (fun h W => skw h W), (fun h => Bool.noConfusion (show false = true from h)), (fun h => Bool.noConfusion (show false = true from h)), (fun h W => skw h W), (fun h W => skw h W), (fun h W => skw h W), (fun h W => skw h W), (fun h W => skw h W), (fun h W => skw h W), (fun h => Bool.noConfusion (show false = true from h)), (fun h => Bool.noConfusion (show false = true from h)), (fun h W => skw h W), (fun h W => skw h W), (fun h W => skw h W), (fun h W => skw h W), (fun h W => skw h W), (fun h W => skw h W), (fun h W => skw h W), (fun h W => skw h W), trivial⟩ (fun h k => newer_trans h k) (pickD_stable _ ⟨vIs_st, vIs_st, vIs_st, vIs_st, vIs_st, vIs_st, vIs_st, vIs_st, vIs_st, vIs_st, vIs_st, vIs_st, vIs_st, vIs_st, vIs_st, vIs_st, vIs_st, vIs_st, vIs_st, vIs_st, vIs_st, vIs_st, vIs_st, vIs_st, vIs_st, vIs_st, vIs_st, vIs_st, vIs_st, vIs_st, trivial⟩) (Below.refl _ wv).drew (Below.refl _ _) ?_ ?_)
    · refine ⟨?_, ?_, ?_, ?_, ?_, ?_, ?_, ?_, ?_, ?_, ?_, ?_, ?_, ?_, ?_, ?_, ?_, ?_, ?_, ?_, ?_, ?_, ?_, ?_, ?_, ?_, ?_, ?_, ?_, ?_, trivial⟩
      · refine .inr ?_
        intro a W hG hR hO hp
        have h2 := hO.slot 2 (by kernel_rfl)
        have c0 := keep_cell cF hG
        refine wp_yields (v := .bool F) ?_ ⟨_, rfl, rfl, Below.refl _ _, hG⟩
        simp [slotOf] at h2
        simp [execOp, go_sem, h2, c0]
      · refine .inr ?_
        intro a W hG hR hO hp
        have h13 : slotOf a 13 = .bool F := hp.1
        refine wp_yields (v := .bool F) ?_ ⟨_, rfl, rfl, Below.refl _ _, hG⟩
        simp [slotOf] at h13
        simp [execOp, go_sem, h13]
      · rcases Bool.eq_false_or_eq_true ((!F)) with hs | hs
        · exact .inl hs
        refine .inr ?_
        intro a W hG hR hO hp
        have h3 := hO.slot 3 (by kernel_rfl)
        have c0 := keep_cell cO hG
        refine wp_yields (v := .bool f) ?_ ⟨_, rfl, (by rw [hs]; rfl), Below.refl _ _, hG⟩
        simp [slotOf] at h3
        simp [execOp, go_sem, h3, c0]
      · refine .inr ?_
        intro a W hG hR hO hp
        have h14 : slotOf a 14 = .bool F := hp.1
        have h15 : slotOf a 15 = (bif (!F) then undef else .bool f) := hp.2.1
        refine wp_yields (v := .bool (F && f)) ?_ ⟨_, rfl, rfl, Below.refl _ _, hG⟩
        cases F <;> simp [slotOf] at h14 h15 <;> simp [execOp, go_sem, h14, h15]
      · refine .inr ?_
        intro a W hG hR hO hp
        have h16 : slotOf a 16 = .bool (F && f) := hp.1
        refine wp_yields (v := .bool (F && f)) ?_ ⟨_, rfl, rfl, Below.refl _ _, hG⟩
        simp [slotOf] at h16
        simp [execOp, go_sem, h16]
      · rcases Bool.eq_false_or_eq_true ((F && f)) with hs | hs
        · exact .inl hs
        refine .inr ?_
        intro a W hG hR hO hp
        have h3 := hO.slot 3 (by kernel_rfl)
        have c0 := keep_cell cO hG
        refine wp_yields (v := .bool f) ?_ ⟨_, rfl, (by rw [hs]; rfl), Below.refl _ _, hG⟩
        simp [slotOf] at h3
        simp [execOp, go_sem, h3, c0]
      · rcases Bool.eq_false_or_eq_true ((F && f)) with hs | hs
        · exact .inl hs
        refine .inr ?_
        intro a W hG hR hO hp
        have h18 : slotOf a 18 = (bif (F && f) then undef else .bool f) := hp.1
        rw [hs, cond_false] at h18
        refine wp_yields (v := .bool f) ?_ ⟨_, rfl, (by rw [hs]; rfl), Below.refl _ _, hG⟩
        simp [slotOf] at h18
        simp [execOp, go_sem, h18]
      · rcases Bool.eq_false_or_eq_true (((F && f) || !f)) with hs | hs
        · exact .inl hs
        refine .inr ?_
        intro a W hG hR hO hp
        have h9 := hO.slot 9 (by kernel_rfl)
        exact wp_yields (v := .agg (stC s)) (exec_load rfl ((eval_slot a 9).trans h9) (load_run (HF.out.sx.below hG HF.out.sx.lt))) ⟨_, rfl, (by rw [hs]; rfl), Below.refl _ _, hG⟩
      · rcases Bool.eq_false_or_eq_true (((F && f) || !f)) with hs | hs
        · exact .inl hs
        refine .inr ?_
        intro a W hG hR hO hp
        have h20 : slotOf a 20 = (bif ((F && f) || !f) then undef else .agg (stC s)) := hp.1
        rw [hs, cond_false] at h20
        refine wp_enters (f := 81) (args := #[.agg (stC s)]) ?_ ((cost_any s W hgo.ok HP9.out).mono ?_)
        · simp [slotOf] at h20
          simp [go_sem, h20]
        · rintro e w' ⟨rfl, hb⟩
          exact ⟨_, rfl, _, rfl, (by rw [hs]; rfl), hb, below_next hG hb⟩
      · rcases Bool.eq_false_or_eq_true (((F && f) || !f)) with hs | hs
        · exact .inl hs
        refine .inr ?_
        intro a W hG hR hO hp
        have h4 := hO.slot 4 (by kernel_rfl)
        have c0 := keep_cell cC hG
        refine wp_yields (v := vi cc) ?_ ⟨_, rfl, (by rw [hs]; rfl), Below.refl _ _, hG⟩
        simp [slotOf] at h4
        simp [execOp, go_sem, h4, c0]
      · rcases Bool.eq_false_or_eq_true (((F && f) || !f)) with hs | hs
        · exact .inl hs
        refine .inr ?_
        intro a W hG hR hO hp
        have h21 : slotOf a 21 = (bif ((F && f) || !f) then undef else vi s.p.sum) := hp.1
        rw [hs, cond_false] at h21
        have h22 : slotOf a 22 = (bif ((F && f) || !f) then undef else vi cc) := hp.2.1
        rw [hs, cond_false] at h22
        refine wp_yields (v := .bool g) ?_ ⟨_, rfl, (by rw [hs]; rfl), Below.refl _ _, hG⟩
        simp [slotOf] at h21 h22
        simp [execOp, go_sem, h21, h22, hge]
      · rcases Bool.eq_false_or_eq_true ((F && f)) with hs | hs
        · exact .inl hs
        refine .inr ?_
        intro a W hG hR hO hp
        have h19 : slotOf a 19 = (bif (F && f) then undef else .bool f) := hp.1
        rw [hs, cond_false] at h19
        have h23 : slotOf a 23 = (bif ((F && f) || !f) then undef else .bool g) := hp.2.1
        refine wp_yields (v := .bool (f && g)) ?_ ⟨_, rfl, (by rw [hs]; rfl), Below.refl _ _, hG⟩
        cases F <;> cases f <;> first | (exfalso; revert hs; decide) | (simp [slotOf] at h19 h23 <;> simp [execOp, go_sem, h19, h23])
      · refine .inr ?_
        intro a W hG hR hO hp
        have h17 : slotOf a 17 = .bool (F && f) := hp.1
        have h24 : slotOf a 24 = (bif (F && f) then undef else .bool (f && g)) := hp.2.1
        refine wp_yields (v := .bool (F && f || f && g)) ?_ ⟨_, rfl, rfl, Below.refl _ _, hG⟩
        cases F <;> cases f <;> simp [slotOf] at h17 h24 <;> simp [execOp, go_sem, h17, h24]
      · refine .inr ?_
        intro a W hG hR hO hp
        have h25 : slotOf a 25 = .bool (F && f || f && g) := hp.1
        refine wp_yields (v := .bool (F && f || f && g)) ?_ ⟨_, rfl, rfl, Below.refl _ _, hG⟩
        simp [slotOf] at h25
        simp [execOp, go_sem, h25]
      · rcases Bool.eq_false_or_eq_true ((F && f || f && g)) with hs | hs
        · exact .inl hs
        refine .inr ?_
        intro a W hG hR hO hp
        have h5 := hO.slot 5 (by kernel_rfl)
        have c0 := keep_cell cX hG
        refine wp_yields (v := .pointer (some ⟨T.qb, 0, none⟩)) ?_ ⟨_, rfl, (by rw [hs]; rfl), Below.refl _ _, hG⟩
        simp [slotOf] at h5
        simp [execOp, go_sem, h5, c0]
      · rcases Bool.eq_false_or_eq_true ((F && f || f && g)) with hs | hs
        · exact .inl hs
        refine .inr ?_
        intro a W hG hR hO hp
        have h27 : slotOf a 27 = (bif (F && f || f && g) then undef else .pointer (some ⟨T.qb, 0, none⟩)) := hp.1
        rw [hs, cond_false] at h27
        refine wp_yields (v := .pointer (some ⟨T.qb, 0, none⟩)) ?_ ⟨_, rfl, (by rw [hs]; rfl), Below.refl _ _, hG⟩
        simp [slotOf] at h27
        simp [execOp, go_sem, h27]
      · rcases Bool.eq_false_or_eq_true ((F && f || f && g)) with hs | hs
        · exact .inl hs
        refine .inr ?_
        intro a W hG hR hO hp
        have h28 : slotOf a 28 = (bif (F && f || f && g) then undef else .pointer (some ⟨T.qb, 0, none⟩)) := hp.1
        rw [hs, cond_false] at h28
        refine wp_yields (v := .pointer (some ⟨T.qb, 7, none⟩)) ?_ ⟨_, rfl, (by rw [hs]; rfl), Below.refl _ _, hG⟩
        simp [slotOf] at h28
        simp [execOp, go_sem, h28]
      · rcases Bool.eq_false_or_eq_true ((F && f || f && g)) with hs | hs
        · exact .inl hs
        refine .inr ?_
        intro a W hG hR hO hp
        have h29 : slotOf a 29 = (bif (F && f || f && g) then undef else .pointer (some ⟨T.qb, 7, none⟩)) := hp.1
        rw [hs, cond_false] at h29
        have c0 := keep_cell q7 hG
        refine wp_yields (v := .map (some T.mb)) ?_ ⟨_, rfl, (by rw [hs]; rfl), Below.refl _ _, hG⟩
        simp [slotOf] at h29
        simp [execOp, go_sem, h29, c0]
      · rcases Bool.eq_false_or_eq_true ((F && f || f && g)) with hs | hs
        · exact .inl hs
        refine .inr ?_
        intro a W hG hR hO hp
        have h9 := hO.slot 9 (by kernel_rfl)
        exact wp_yields (v := .agg (stC s)) (exec_load rfl ((eval_slot a 9).trans h9) (load_run (HF.out.sx.below hG HF.out.sx.lt))) ⟨_, rfl, (by rw [hs]; rfl), Below.refl _ _, hG⟩
      · rcases Bool.eq_false_or_eq_true ((F && f || f && g)) with hs | hs
        · exact .inl hs
        refine .inr ?_
        intro a W hG hR hO hp
        have h30 : slotOf a 30 = (bif (F && f || f && g) then undef else .map (some T.mb)) := hp.1
        rw [hs, cond_false] at h30
        have h31 : slotOf a 31 = (bif (F && f || f && g) then undef else .agg (stC s)) := hp.2.1
        rw [hs, cond_false] at h31
        refine wp_lookup_r (.tmp 30) (.tmp 31) 117 false rfl st_key Try.underlying117 (zero4 _) T.mb lp ((eval_slot a 30).trans h30) (HF.out.tm.map.next hG) ⟨s, hgo.inn hT.p⟩ ((eval_slot a 31).trans h31) ?_
        simp only [Bool.false_eq_true, if_false]
        rw [HLK.out]
        exact ⟨_, rfl, (by rw [hs]; rfl), Below.refl _ _, hG⟩
      · refine .inr ?_
        intro a W hG hR hO hp
        have h26 : slotOf a 26 = .bool (F && f || f && g) := hp.1
        have h32 : slotOf a 32 = (bif (F && f || f && g) then undef else .bool m) := hp.2.1
        refine wp_yields (v := .bool (F && f || f && g || m)) ?_ ⟨_, rfl, rfl, Below.refl _ _, hG⟩
        (obtain ⟨z, hz⟩ : ∃ z, z = (F && f || f && g) := ⟨_, rfl⟩; rw [← hz] at h26 h32 ⊢; cases z <;> simp [slotOf] at h26 h32 <;> simp [execOp, go_sem, h26, h32])
      · refine .inr ?_
        intro a W hG hR hO hp
        have h33 : slotOf a 33 = .bool (F && f || f && g || m) := hp.1
        refine wp_yields (v := .bool (F && f || f && g || m)) ?_ ⟨_, rfl, rfl, Below.refl _ _, hG⟩
        simp [slotOf] at h33
        simp [execOp, go_sem, h33]
      · rcases Bool.eq_false_or_eq_true ((F && f || f && g || m)) with hs | hs
        · exact .inl hs
        refine .inr ?_
        intro a W hG hR hO hp
        have h5 := hO.slot 5 (by kernel_rfl)
        have c0 := keep_cell cX hG
        refine wp_yields (v := .pointer (some ⟨T.qb, 0, none⟩)) ?_ ⟨_, rfl, (by rw [hs]; rfl), Below.refl _ _, hG⟩
        simp [slotOf] at h5
        simp [execOp, go_sem, h5, c0]
      · rcases Bool.eq_false_or_eq_true ((F && f || f && g || m)) with hs | hs
        · exact .inl hs
        refine .inr ?_
        intro a W hG hR hO hp
        have h35 : slotOf a 35 = (bif (F && f || f && g || m) then undef else .pointer (some ⟨T.qb, 0, none⟩)) := hp.1
        rw [hs, cond_false] at h35
        refine wp_yields (v := .pointer (some ⟨T.qb, 0, none⟩)) ?_ ⟨_, rfl, (by rw [hs]; rfl), Below.refl _ _, hG⟩
        simp [slotOf] at h35
        simp [execOp, go_sem, h35]
      · rcases Bool.eq_false_or_eq_true ((F && f || f && g || m)) with hs | hs
        · exact .inl hs
        refine .inr ?_
        intro a W hG hR hO hp
        have h36 : slotOf a 36 = (bif (F && f || f && g || m) then undef else .pointer (some ⟨T.qb, 0, none⟩)) := hp.1
        rw [hs, cond_false] at h36
        refine wp_yields (v := .pointer (some ⟨T.qb, 0, none⟩)) ?_ ⟨_, rfl, (by rw [hs]; rfl), Below.refl _ _, hG⟩
        simp [slotOf] at h36
        simp [execOp, go_sem, h36]
      · rcases Bool.eq_false_or_eq_true ((F && f || f && g || m)) with hs | hs
        · exact .inl hs
        refine .inr ?_
        intro a W hG hR hO hp
        have h37 : slotOf a 37 = (bif (F && f || f && g || m) then undef else .pointer (some ⟨T.qb, 0, none⟩)) := hp.1
        rw [hs, cond_false] at h37
        have c0 := keep_cell q0 hG
        have c1 := keep_cell q1 hG
        have c2 := keep_cell q2 hG
        have c3 := keep_cell q3 hG
        have c4 := keep_cell q4 hG
        have c5 := keep_cell q5 hG
        refine wp_yields (v := pmV T.p) ?_ ⟨_, rfl, (by rw [hs]; rfl), Below.refl _ _, hG⟩
        simp [slotOf] at h37
        simp [execOp, go_sem, h37, c0, c1, c2, c3, c4, c5]
      · rcases Bool.eq_false_or_eq_true ((F && f || f && g || m)) with hs | hs
        · exact .inl hs
        refine .inr ?_
        intro a W hG hR hO hp
        have h9 := hO.slot 9 (by kernel_rfl)
        refine wp_yields (v := .pointer (some ⟨sb, 21, none⟩)) ?_ ⟨_, rfl, (by rw [hs]; rfl), Below.refl _ _, hG⟩
        simp [slotOf] at h9
        simp [execOp, go_sem, h9]
      · rcases Bool.eq_false_or_eq_true ((F && f || f && g || m)) with hs | hs
        · exact .inl hs
        refine .inr ?_
        intro a W hG hR hO hp
        have h39 : slotOf a 39 = (bif (F && f || f && g || m) then undef else .pointer (some ⟨sb, 21, none⟩)) := hp.1
        rw [hs, cond_false] at h39
        have c0 := keep_cell s21 hG
        have c1 := keep_cell s22 hG
        have c2 := keep_cell s23 hG
        have c3 := keep_cell s24 hG
        have c4 := keep_cell s25 hG
        refine wp_yields (v := .agg (sp5 s.p)) ?_ ⟨_, rfl, (by rw [hs]; rfl), Below.refl _ _, hG⟩
        simp [slotOf] at h39
        simp [execOp, go_sem, h39, c0, c1, c2, c3, c4]
      · rcases Bool.eq_false_or_eq_true ((F && f || f && g || m)) with hs | hs
        · exact .inl hs
        refine .inr ?_
        intro a W hG hR hO hp
        have h38 : slotOf a 38 = (bif (F && f || f && g || m) then undef else pmV T.p) := hp.1
        rw [hs, cond_false] at h38
        have h40 : slotOf a 40 = (bif (F && f || f && g || m) then undef else .agg (sp5 s.p)) := hp.2.1
        rw [hs, cond_false] at h40
        refine wp_enters (f := 65) (args := #[pmV T.p, .agg (sp5 s.p)]) ?_ ((HPD.out W hG).mono ?_)
        · simp [slotOf] at h38 h40
          simp [go_sem, h38, h40]
        · rintro e w' ⟨rfl, hb⟩
          exact ⟨_, rfl, _, rfl, (by rw [hs]; rfl), hb, below_next hG hb⟩
      · rcases Bool.eq_false_or_eq_true ((F && f || f && g || m)) with hs | hs
        · exact .inl hs
        refine .inr ?_
        intro a W hG hR hO hp
        have h41 : slotOf a 41 = (bif (F && f || f && g || m) then undef else .bool pd) := hp.1
        rw [hs, cond_false] at h41
        refine wp_yields (v := .bool (!pd)) ?_ ⟨_, rfl, (by rw [hs]; rfl), Below.refl _ _, hG⟩
        simp [slotOf] at h41
        simp [execOp, go_sem, h41]
    · intro W hG hR
      rintro _ rfl _ rfl _ rfl _ rfl _ rfl _ rfl _ rfl _ rfl _ rfl _ rfl _ rfl _ rfl _ rfl _ rfl _ rfl _ rfl _ rfl _ rfl _ rfl _ rfl _ rfl _ rfl _ rfl _ rfl _ rfl _ rfl _ rfl _ rfl _ rfl _ rfl
      change wpList _ _ _ _ _ _
      simp only [Act.put, List.setIfInBounds_toArray, List.set_cons_zero, List.set_cons_succ, List.drop_succ_cons, List.drop_zero]
      clear cF cO cC cX q0 q1 q2 q3 q4 q5 q6 q7 s21 s22 s23 s24 s25 hR
      obtain ⟨z, hz⟩ : ∃ z, z = (F && f || f && g || m) := ⟨_, rfl⟩
      rw [← hz] at HEQ ⊢
      clear hz
      cases z
      · go_wp2_with fail
        go_meet
        exact ⟨by rw [← HEQ.out]; rfl, HF.out.next hT hG⟩
      · go_wp2_with fail
        go_meet
        exact ⟨by rw [← HEQ.out]; rfl, HF.out.next hT hG⟩
  case rest =>
    obtain ⟨h43, hf⟩ := hcut
    subst h43
    have HF := Lib.hid hf
    clear hf
    cases hcb : cutB T M b s
    case true =>
      have HCB := Lib.hid hcb
      clear hcb
      go_wp2_with fail
      refine ⟨_, by simp [results, Try.results80, go_sem]; rfl, ⟨_, rfl⟩, lp, pv, ?_⟩
      rw [tryP_cut HCB.out]
      exact ⟨HS.out.1, HF.out.tm, HF.out.ow, .inl rfl, HF.out.mv⟩
    case false =>
      have HCB := Lib.hid hcb
      clear hcb
      go_upto_region 2 with fail
      have cX := HF.out.tm.xb.at 0 (v := .pointer (some ⟨T.qb, 0, none⟩)) rfl
      have q7 := HF.out.tm.q.at 7 (v := .map (some T.mb)) rfl
      refine wp_words (by kernel_rfl) (region_told 5 (by kernel_rfl) (by kernel_rfl) (fun W => Below wc.heap.size wc W) newer (pickD [vIs (.pointer (some ⟨T.qb, 0, none⟩)), vIs (.pointer (some ⟨T.qb, 0, none⟩)), vIs (.pointer (some ⟨T.qb, 7, none⟩)), vIs (.map (some T.mb)), vIs (.agg (stC s))]) (fun h k => newer_trans h k) (pickD_stable _ ⟨vIs_st, vIs_st, vIs_st, vIs_st, vIs_st, trivial⟩) (Below.refl _ wc).drew (Below.refl _ _) ?_ ?_)
      · refine ⟨?_, ?_, ?_, ?_, ?_, trivial⟩
        · intro a W hG hR hO hp
          have h5 := hO.slot 5 (by kernel_rfl)
          have c0 := keep_cell cX hG
          refine wp_yields (v := .pointer (some ⟨T.qb, 0, none⟩)) ?_ ⟨_, rfl, rfl, Below.refl _ _, hG⟩
          simp [slotOf] at h5
          simp [execOp, go_sem, h5, c0]
        · intro a W hG hR hO hp
          have h44 : slotOf a 44 = .pointer (some ⟨T.qb, 0, none⟩) := hp.1
          refine wp_yields (v := .pointer (some ⟨T.qb, 0, none⟩)) ?_ ⟨_, rfl, rfl, Below.refl _ _, hG⟩
          simp [slotOf] at h44
          simp [execOp, go_sem, h44]
        · intro a W hG hR hO hp
          have h45 : slotOf a 45 = .pointer (some ⟨T.qb, 0, none⟩) := hp.1
          refine wp_yields (v := .pointer (some ⟨T.qb, 7, none⟩)) ?_ ⟨_, rfl, rfl, Below.refl _ _, hG⟩
          simp [slotOf] at h45
          simp [execOp, go_sem, h45]
        · intro a W hG hR hO hp
          have h46 : slotOf a 46 = .pointer (some ⟨T.qb, 7, none⟩) := hp.1
          have c0 := keep_cell q7 hG
          refine wp_yields (v := .map (some T.mb)) ?_ ⟨_, rfl, rfl, Below.refl _ _, hG⟩
          simp [slotOf] at h46
          simp [execOp, go_sem, h46, c0]
        · intro a W hG hR hO hp
          have h9 := hO.slot 9 (by kernel_rfl)
          exact wp_yields (v := .agg (stC s)) (exec_load rfl ((eval_slot a 9).trans h9) (load_run (HF.out.sx.below hG HF.out.sx.lt))) ⟨_, rfl, rfl, Below.refl _ _, hG⟩
      · intro W hG hR
        rintro _ rfl _ rfl _ rfl _ rfl _ rfl
        change wpList _ _ _ _ _ _
        simp only [Act.put, List.setIfInBounds_toArray, List.set_cons_zero, List.set_cons_succ, List.drop_succ_cons, List.drop_zero]
        refine wpList_update_r _ rfl (.tmp 47) (.tmp 48) (.const (.bool true)) 117 rfl st_key Try.underlying117 T.mb lp rfl (HF.out.tm.map.next hG) ⟨s, hgo.inn hT.p⟩ true rfl rfl ?_
        obtain ⟨lp1, hlp1⟩ : ∃ lp1, lp1 = putR (⟨s, hgo.inn hT.p⟩ : SxK) true lp := ⟨_, rfl⟩
        have HSM : Hid (Seen lp1 (s :: M)) := Lib.hid (by
          rw [hlp1]
          refine HS.out.1.put ⟨s, hgo.inn hT.p⟩ ?_
          have h := HCB.out
          unfold cutB at h
          rw [Bool.or_eq_false_iff, Bool.or_eq_false_iff] at h
          exact of_decide_eq_false h.1.2)
        rw [← hlp1]
        have hf1 := (HF.out.next hT hG).put hT lp1
        have HF1 := Lib.hid hf1
        clear hlp1 hG hR cX q7 hf1
        go_upto_region 3 with fail
        refine genQ (TrF T s l n A c lp1 b pv sb lb w) HF1.out ?_
        clear HF1 HF hfv
        intro wv hf
        have HF := Lib.hid hf
        have cX := hf.tm.xb.at 0 (v := .pointer (some ⟨T.qb, 0, none⟩)) rfl
        have q2 := hf.tm.q.at 2 (v := .slice T.p.wa T.p.ws.length T.p.wc) rfl
        have s0 := hf.sx.at 0 (v := vi (s.n : Int)) rfl
        clear hf
        refine wp_words (by kernel_rfl) (region_told 8 (by kernel_rfl) (by kernel_rfl) (fun W => Below wv.heap.size wv W) newer (pickD [vIs (.pointer (some ⟨sb, 0, none⟩)), vIs (vi (s.n : Int)), vIs (.pointer (some ⟨T.qb, 0, none⟩)), vIs (.pointer (some ⟨T.qb, 0, none⟩)), vIs (.pointer (some ⟨T.qb, 0, none⟩)), vIs (.pointer (some ⟨T.qb, 2, none⟩)), vIs (.slice T.p.wa T.p.ws.length T.p.wc), vIs (vi (T.p.ws.length : Int))]) (fun h k => newer_trans h k) (pickD_stable _ ⟨vIs_st, vIs_st, vIs_st, vIs_st, vIs_st, vIs_st, vIs_st, vIs_st, trivial⟩) (Below.refl _ wv).drew (Below.refl _ _) ?_ ?_)
        · refine ⟨?_, ?_, ?_, ?_, ?_, ?_, ?_, ?_, trivial⟩
          · intro a W hG hR hO hp
            have h9 := hO.slot 9 (by kernel_rfl)
            refine wp_yields (v := .pointer (some ⟨sb, 0, none⟩)) ?_ ⟨_, rfl, rfl, Below.refl _ _, hG⟩
            simp [slotOf] at h9
            simp [execOp, go_sem, h9]
          · intro a W hG hR hO hp
            have h49 : slotOf a 49 = .pointer (some ⟨sb, 0, none⟩) := hp.1
            have c0 := keep_cell s0 hG
            refine wp_yields (v := vi (s.n : Int)) ?_ ⟨_, rfl, rfl, Below.refl _ _, hG⟩
            simp [slotOf] at h49
            simp [execOp, go_sem, h49, c0]
          · intro a W hG hR hO hp
            have h5 := hO.slot 5 (by kernel_rfl)
            have c0 := keep_cell cX hG
            refine wp_yields (v := .pointer (some ⟨T.qb, 0, none⟩)) ?_ ⟨_, rfl, rfl, Below.refl _ _, hG⟩
            simp [slotOf] at h5
            simp [execOp, go_sem, h5, c0]
          · intro a W hG hR hO hp
            have h51 : slotOf a 51 = .pointer (some ⟨T.qb, 0, none⟩) := hp.1
            refine wp_yields (v := .pointer (some ⟨T.qb, 0, none⟩)) ?_ ⟨_, rfl, rfl, Below.refl _ _, hG⟩
            simp [slotOf] at h51
            simp [execOp, go_sem, h51]
          · intro a W hG hR hO hp
            have h52 : slotOf a 52 = .pointer (some ⟨T.qb, 0, none⟩) := hp.1
            refine wp_yields (v := .pointer (some ⟨T.qb, 0, none⟩)) ?_ ⟨_, rfl, rfl, Below.refl _ _, hG⟩
            simp [slotOf] at h52
            simp [execOp, go_sem, h52]
          · intro a W hG hR hO hp
            have h53 : slotOf a 53 = .pointer (some ⟨T.qb, 0, none⟩) := hp.1
            refine wp_yields (v := .pointer (some ⟨T.qb, 2, none⟩)) ?_ ⟨_, rfl, rfl, Below.refl _ _, hG⟩
            simp [slotOf] at h53
            simp [execOp, go_sem, h53]
          · intro a W hG hR hO hp
            have h54 : slotOf a 54 = .pointer (some ⟨T.qb, 2, none⟩) := hp.1
            have c0 := keep_cell q2 hG
            refine wp_yields (v := .slice T.p.wa T.p.ws.length T.p.wc) ?_ ⟨_, rfl, rfl, Below.refl _ _, hG⟩
            simp [slotOf] at h54
            simp [execOp, go_sem, h54, c0]
          · intro a W hG hR hO hp
            have h55 : slotOf a 55 = .slice T.p.wa T.p.ws.length T.p.wc := hp.1
            refine wp_yields (v := vi (T.p.ws.length : Int)) ?_ ⟨_, rfl, rfl, Below.refl _ _, hG⟩
            simp [slotOf] at h55
            simp [go_sem, h55]
        · intro W hG hR
          rintro _ rfl _ rfl _ rfl _ rfl _ rfl _ rfl _ rfl _ rfl
          change wpList _ _ _ _ _ _
          simp only [Act.put, List.setIfInBounds_toArray, List.set_cons_zero, List.set_cons_succ, List.drop_succ_cons, List.drop_zero]
          have HF2 := Lib.hid (HF.out.next hT hG)
          clear hG hR HF cX q2 s0
          by_cases hend : s.n = T.p.ws.length
          · have hb : ((s.n : Int) == T.p.ws.length) = true := by rw [beq_iff_eq]; omega
            have HE := Lib.hid hend
            clear hend
            have cX := HF2.out.tm.xb.at 0 (v := .pointer (some ⟨T.qb, 0, none⟩)) rfl
            go_wp2_with (refine wpList_load_s (s := s) rfl (.tmp 9) rfl sb rfl HF2.out.sx ?_)
            refine (enough_any T.p T.wo T.mb T.qb s _ (HF2.out.tm.pm.ok (HF2.out.tm.lt hT)) HF2.out.tm.q hgo.ok hT.p.nn).mono ?_
            rintro e w1 ⟨rfl, hb1⟩
            have HF3 := Lib.hid (HF2.out.next hT hb1)
            clear hb1 HF2 cX hb
            cases hen : enoughB T.p.ns s.a
            case false =>
              have HEN := Lib.hid hen
              clear hen
              go_wp2_with fail
              refine ⟨_, by simp [results, Try.results80, go_sem]; rfl, ⟨_, rfl⟩, lp1, pv, ?_⟩
              have hr0 : r = 0 := by have := HE.out; omega
              subst hr0
              rw [tryP_end HCB.out, HEN.out]
              exact ⟨HSM.out, HF3.out.tm, HF3.out.ow, .inl rfl, HF3.out.mv⟩
            case true =>
              have HEN := Lib.hid hen
              clear hen
              go_upto_region 5 with fail
              have cL := HF3.out.lx.at 0 (v := .slice A n c) rfl
              refine wp_words (by kernel_rfl) (region_told 4 (by kernel_rfl) (by kernel_rfl) (fun W => Below w1.heap.size w1 W) newer (pickD [vIs (.slice A n c), vClo T.base n l w1.heap.size, vIs (.agg (stC s)), vIs (vi s.p.sum)]) (fun h k => newer_trans h k) (pickD_stable _ ⟨vIs_st, vClo_st, vIs_st, vIs_st, trivial⟩) (Below.refl _ w1).drew (Below.refl _ _) ?_ ?_)
              · refine ⟨?_, ?_, ?_, ?_, trivial⟩
                · intro a W hG hR hO hp
                  have h10 := hO.slot 10 (by kernel_rfl)
                  have c0 := keep_cell cL hG
                  refine wp_yields (v := .slice A n c) ?_ ⟨_, rfl, rfl, Below.refl _ _, hG⟩
                  simp [slotOf] at h10
                  simp [execOp, go_sem, h10, c0]
                · intro a W hG hR hO hp
                  have h61 : slotOf a 61 = .slice A n c := hp.1
                  have h61 : slotOf a 61 = .slice A n c := hp.1
                  have hn8 := hgo.n
                  have hw8 := hT.p.wn
                  refine wp_enters (f := 68) (args := #[.slice A n c]) ?_ ((clone_n T l n HS.out.2.2.2 (by have := HS.out.2.2.1; omega) A c W ((HF3.out.next hT hG).tm.le) (HF3.out.next hT hG).ow HS.out.2.1).mono ?_)
                  · simp [slotOf] at h61
                    simp [go_sem, h61]
                  · rintro e w' ⟨⟨v, rfl, hv⟩, hb⟩
                    obtain ⟨B, c', e1, e2, e3, e4⟩ := hv
                    exact ⟨_, rfl, _, rfl, ⟨B, c', e1, e2, e3, fun k hk => Nat.le_trans hG.size (e4 k hk)⟩, hb, below_next hG hb⟩
                · intro a W hG hR hO hp
                  have h9 := hO.slot 9 (by kernel_rfl)
                  exact wp_yields (v := .agg (stC s)) (exec_load rfl ((eval_slot a 9).trans h9) (load_run (HF3.out.sx.below hG HF3.out.sx.lt))) ⟨_, rfl, rfl, Below.refl _ _, hG⟩
                · intro a W hG hR hO hp
                  have h63 : slotOf a 63 = .agg (stC s) := hp.1
                  refine wp_enters (f := 81) (args := #[.agg (stC s)]) ?_ ((cost_any s W hgo.ok HP9.out).mono ?_)
                  · simp [slotOf] at h63
                    simp [go_sem, h63]
                  · rintro e w' ⟨rfl, hb⟩
                    exact ⟨_, rfl, _, rfl, rfl, hb, below_next hG hb⟩
              · intro W hG hR
                rintro _ rfl _ ⟨B, cB, rfl, hcl⟩ _ rfl _ rfl
                change wpList _ _ _ _ _ _
                simp only [Act.put, List.setIfInBounds_toArray, List.set_cons_zero, List.set_cons_succ, List.drop_succ_cons, List.drop_zero]
                have HF4 := Lib.hid (HF3.out.next hT hG)
                have HCL := Lib.hid hcl
                have hsz := HF3.out.mv.size
                have hcge : ∀ k, (Value.slice B n cB).ownBlock = some k → w.heap.size ≤ k := fun k hk => Nat.le_trans hsz (hcl.2.2 k hk)
                have HGE := Lib.hid hcge
                clear hG hR cL hcl hcge hsz
                refine wpList_plain rfl fun K1 hK1 => wp_stores (W' := W.setCell ⟨T.pb, 0, none⟩ (.slice B n cB)) ?_ (hK1 _ _ ?_)
                · have p0 := HF4.out.tm.pb.at 0 (v := pv) rfl
                  have p1 := HF4.out.tm.pb.free 0
                  simp [execOp, go_sem, p0, p1]
                refine wpList_plain rfl fun K2 hK2 => wp_stores (W' := (W.setCell ⟨T.pb, 0, none⟩ (.slice B n cB)).setCell ⟨T.cb, 0, none⟩ (vi s.p.sum)) ?_ (hK2 _ _ ?_)
                · have h9 := HF4.out.tm.cb.far (p := ⟨T.pb, 0, none⟩) (by have := hT.pc'; dsimp only; omega) (.slice B n cB)
                  have p0 := h9.at 0 (v := vi (costOf b)) rfl
                  have p1 := h9.free 0
                  simp [execOp, go_sem, p0, p1]
                refine wpList_plain rfl fun K3 hK3 => wp_stores (W' := ((W.setCell ⟨T.pb, 0, none⟩ (.slice B n cB)).setCell ⟨T.cb, 0, none⟩ (vi s.p.sum)).setCell ⟨T.ob, 0, none⟩ (.bool true)) ?_ (hK3 _ _ ?_)
                · have h9 := (HF4.out.tm.ob.far (p := ⟨T.pb, 0, none⟩) (by have := hT.pc'; have := hT.co; dsimp only; omega) (.slice B n cB)).far (p := ⟨T.cb, 0, none⟩) (by have := hT.co; dsimp only; omega) (vi s.p.sum)
                  have p0 := h9.at 0 (v := .bool b.isSome) rfl
                  have p1 := h9.free 0
                  simp [execOp, go_sem, p0, p1]
                simp only [Act.put]
                go_wp2_with fail
                refine ⟨_, by simp [results, Try.results80, go_sem]; rfl, ⟨_, rfl⟩, lp1, .slice B n cB, ?_⟩
                have hr0 : r = 0 := by have := HE.out; omega
                subst hr0
                rw [tryP_end HCB.out, HEN.out, if_pos rfl]
                have hln := HS.out.2.2.2
                have hfd := HF4.out.tm.found hT l s.p.sum (A := B) (ca := cB) HCL.out.2.1 (by rw [hln]; exact HCL.out.1)
                rw [hln] at hfd
                have hmv : Moved T (Value.slice A n c).ownBlock W _ := (((Moved.refl T _ W).set (p := ⟨T.pb, 0, none⟩) (.inl rfl) (.slice B n cB)).set (p := ⟨T.cb, 0, none⟩) (.inr (.inl rfl)) (vi s.p.sum)).set (p := ⟨T.ob, 0, none⟩) (.inr (.inr (.inl rfl))) (.bool true)
                have hmn : Moved T none W _ := (((Moved.refl T none W).set (p := ⟨T.pb, 0, none⟩) (.inl rfl) (.slice B n cB)).set (p := ⟨T.cb, 0, none⟩) (.inr (.inl rfl)) (vi s.p.sum)).set (p := ⟨T.ob, 0, none⟩) (.inr (.inr (.inl rfl))) (.bool true)
                exact ⟨HSM.out, hfd, hmn.own hT HF4.out.ow (by simp), .inr HGE.out, HF4.out.mv.trans hmv⟩
          · have hb : ((s.n : Int) == T.p.ws.length) = false := by rw [beq_eq_false_iff_ne]; omega
            go_upto_region 6 with fail
            refine genQ (TrF T s l n A c lp1 b pv sb lb w) HF2.out ?_
            clear HF2
            intro wy hfy
            have HF2 := Lib.hid hfy
            clear hfy
            have hlt : s.n < T.p.ws.length := by have := hgo.n; omega
            obtain ⟨x, hx⟩ := get_of_lt hlt
            obtain ⟨r', rfl⟩ : ∃ r', r = r' + 1 := ⟨r - 1, by omega⟩
            have hwp := wdB_parts (hT.p.ws x (List.mem_of_getElem? hx))
            have HX := Lib.hid (And.intro hx hwp)
            have HIR := Lib.hid (HIH.out r' rfl)
            have hnB : ∀ k, (Value.slice A n c).ownBlock = some k → k < wy.heap.size := fun k hk => Nat.lt_of_lt_of_le (HF2.out.ol k hk) HF2.out.mv.size
            have cX := HF2.out.tm.xb.at 0 (v := .pointer (some ⟨T.qb, 0, none⟩)) rfl
            have cT := HF2.out.tm.tb.at 0 (v := .func (.func 80) #[] (tpC T)) rfl
            have cL := HF2.out.lx.at 0 (v := .slice A n c) rfl
            have HLN : Hid (∀ k, k < T.base → some k ≠ (Value.slice A n c).ownBlock) := Lib.hid HF2.out.lone
            have hxB : T.xb < T.base := by have := hT.xf; have := hT.fp; have := hT.pc'; have := hT.co; have := hT.oy; have := hT.yt; have := hT.tB; omega
            have HSZ := Lib.hid (show n ≤ 1000 ∧ T.base ≤ wy.heap.size from ⟨by have := HS.out.2.2.1; have := hT.p.wn; omega, HF2.out.tm.le⟩)
            have HBD : Hid (∀ (y : Int) (V : World), (y = -1 ∨ (0 ≤ y ∧ y ≤ 4)) → PmOk T.p V → Whole V T.qb 119 (plC T.p T.wo T.mb) → Calls Try.prog 83 #[.pointer (some ⟨T.qb, 0, none⟩), .agg (stC s), vi y] V fun e w' => e = .returned (.agg (stC (bldS T.p.pj s y))) ∧ newer V w') := Lib.hid (fun y V hy hV hQ => by
              have hxd : T.p.pj.works[s.n]? = some x.d := by simp [Pm.pj, hx]
              rw [bldS_at y hxd]
              exact build_any T.p T.wo T.mb T.qb s y x V hV hT.p hQ hgo.ok hx hy hgo.a6 HP9.out)
            obtain ⟨i0, hi0, hz0, hz1, hz2⟩ := info_parts Try.info3w
            have HI := Lib.hid (And.intro hi0 (And.intro hz0 (And.intro hz1 hz2)))
            clear hend hb hx hwp hi0 hz0 hz1 hz2
            refine wp_words (by kernel_rfl) (region_tale 7 (by kernel_rfl) (by kernel_rfl) 6 (fun W => wy.grownBy W (Value.slice A n c).ownBlock) (fun W => W.ownsRow T.base 3 1 (.slice A n c) n (l.map vi) ∧ newer wy W) (relAt 6 (fun W W' => W.grownBy W' (Value.slice A n c).ownBlock)) (pickD [vIs (.func (.func 80) #[] (tpC T)), vIs (.pointer (some ⟨T.qb, 0, none⟩)), vIs (.agg (stC s)), vIs (.agg (stC (bldS T.p.pj s (-1)))), vIs (.slice A n c), vOne wy.heap.size 3 #[vi (-1)], vOn1 T.base A n c l (-1) wy]) (allBut_ok (fun _ _ h => grown_of_newer h _) _ ⟨vIs_st, vIs_st, vIs_st, vIs_st, vIs_st, vOne_grown hnB, vOn1_st, trivial⟩) (by decide) (grown_drew (grown_refl _ _)) ⟨HF2.out.ow, (Below.refl _ _).drew⟩ ?_ ?_)
            · refine ⟨?_, ?_, ?_, ?_, ?_, ?_, ?_, trivial⟩
              · intro a W hG hG1 hO hp
                have h7 := hO.slot 7 (by kernel_rfl)
                have c0 := hG.cell cT (HLN.out T.tb hT.tB)
                refine wp_yields (v := .func (.func 80) #[] (tpC T)) ?_ ⟨_, rfl, rfl, newer_refl _, hG, fun _ h => h⟩
                simp [slotOf] at h7
                simp [execOp, go_sem, h7, c0]
              · intro a W hG hG1 hO hp
                have h5 := hO.slot 5 (by kernel_rfl)
                have c0 := hG.cell cX (HLN.out T.xb hxB)
                refine wp_yields (v := .pointer (some ⟨T.qb, 0, none⟩)) ?_ ⟨_, rfl, rfl, newer_refl _, hG, fun _ h => h⟩
                simp [slotOf] at h5
                simp [execOp, go_sem, h5, c0]
              · intro a W hG hG1 hO hp
                have h9 := hO.slot 9 (by kernel_rfl)
                exact wp_yields (v := .agg (stC s)) (exec_load rfl ((eval_slot a 9).trans h9) (load_run (HF2.out.sx.grown hG HF2.out.sne))) ⟨_, rfl, rfl, newer_refl _, hG, fun _ h => h⟩
              · intro a W hG hG1 hO hp
                have h66 : slotOf a 66 = .pointer (some ⟨T.qb, 0, none⟩) := hp.1
                have h67 : slotOf a 67 = .agg (stC s) := hp.2.1
                refine wp_enters (f := 83) (args := #[.pointer (some ⟨T.qb, 0, none⟩), .agg (stC s), vi (-1)]) ?_ ((HBD.out (-1) W (.inl rfl) ((HF2.out.tm.grown hT hG (own_ge HF2.out.ow) (fun k hk => HF2.out.pn k hk)).pm.ok (Nat.le_trans (HF2.out.tm.lt hT) hG.size)) ((HF2.out.tm.grown hT hG (own_ge HF2.out.ow) (fun k hk => HF2.out.pn k hk)).q)).mono ?_)
                · simp [slotOf] at h66 h67
                  simp [go_sem, h66, h67]
                · rintro e w' ⟨rfl, hb⟩
                  exact ⟨_, rfl, _, rfl, rfl, hb, grown_below hG hb, fun _ h => ⟨own_below h.1 hb, newer_trans h.2 hb⟩⟩
              · intro a W hG hG1 hO hp
                have h10 := hO.slot 10 (by kernel_rfl)
                have c0 := hG.cell cL HF2.out.lne
                refine wp_yields (v := .slice A n c) ?_ ⟨_, rfl, rfl, newer_refl _, hG, fun _ h => h⟩
                simp [slotOf] at h10
                simp [execOp, go_sem, h10, c0]
              · intro a W hG hG1 hO hp
                refine wp_makes (v := .slice (some ⟨W.heap.size, 0, none⟩) 1 1) (W' := W.alloc (.cells #[vi (-1)] 3)) ?_ ⟨_, rfl, ⟨_, rfl, hG.size, Whole.made _ _ _⟩, newer_allocH _ _, grown_alloc hG _, fun _ h => ⟨own_below h.1 (newer_allocH _ _), newer_trans h.2 (newer_allocH _ _)⟩⟩
                simp [execOp, go_sem]
              · intro a W hG hG1 hO hp
                have h69 : slotOf a 69 = .slice A n c := hp.1
                have h70 := hp.2.1
                obtain ⟨nb, h70, hnb, hW⟩ := h70
                obtain ⟨ho, hnw⟩ := hG1 rfl
                obtain ⟨hi0, hz0, hz1, hz2⟩ := HI.out
                have hsz := HSZ.out
                refine wp_append_one (.tmp 69) (.tmp 70) 25 rfl T.base 3 i0 (.int .i64 0) 8 Try.underlying25 hi0 hz0 hz1 hz2 rfl A n c (l.map vi) ((eval_slot a 69).trans h69) ho ⟨nb, 0, none⟩ 1 (vi (-1)) ((eval_slot a 70).trans h70) (hW.at 0 rfl) rfl (by unfold maxLen; omega) (by omega) (Nat.le_trans hsz.2 hG.size) ?_
                intro g c' w1 hown hon0
                have hon : Onto1 A c g c' W w1 := hon0
                exact ⟨_, rfl, ⟨g, c', rfl, hown, hon.ahead hnw⟩, hon.grown, grown_trans' hG hon.grown, fun e => absurd rfl e⟩
            · intro W hG
              rintro _ rfl _ rfl _ rfl _ rfl _ rfl _ hv70 _ ⟨g, c2, rfl, hown, hon⟩
              change wpList _ _ _ _ _ _
              simp only [Act.put, List.setIfInBounds_toArray, List.set_cons_zero, List.set_cons_succ, List.drop_succ_cons, List.drop_zero]
              obtain ⟨s1, hs1⟩ : ∃ s1, s1 = bldS T.p.pj s (-1) := ⟨_, rfl⟩
              have HCC := Lib.hid (child_call hT HIR.out HF2.out HX.out.1 hgo hr HS.out.2.2.1 HS.out.2.2.2 HSM.out (-1) hon hown)
              rw [← hs1] at HCC ⊢
              have HS1 := Lib.hid hs1
              clear hon hown hs1 hG cX cT cL hnB hv70
              obtain ⟨ar, har⟩ : ∃ ar, ar = #[Value.agg (stC s1), .slice (some ⟨g, 0, none⟩) (n + 1) c2] ++ tpC T := ⟨_, rfl⟩
              rw [← har] at HCC
              refine wpList_plain rfl fun K1 hK1 => wp_enters (f := 80) (args := ar) ?_ ((HCC.out).mono ?_)
              · rw [har]
                simp [go_sem]
              rintro e w2 ⟨⟨v, rfl⟩, lp2, pv2, hs2, hf2, hp2, -⟩
              refine ⟨_, rfl, hK1 _ _ ?_⟩
              clear hK1 HCC
              simp only [Act.put]
              obtain ⟨st1, hst1⟩ : ∃ st1, st1 = tryP (srch T.p.pj T.wo) T.fst r' s1 (l ++ [-1]) (s :: M, b) := ⟨_, rfl⟩
              rw [← hst1] at hs2 hf2
              have HST := Lib.hid hst1
              have HSS : Hid (Seen lp2 st1.1 ∧ pvNew pv pv2 w) := Lib.hid ⟨hs2, hp2.imp id (fun h k hk => Nat.le_trans HF2.out.mv.size (h k hk))⟩
              have HF3 := Lib.hid hf2
              clear hst1 hs2 hf2 hp2 HF2
              go_upto_region 7 with fail
              refine genQ (TrF T s l n A c lp2 st1.2 pv2 sb lb w) HF3.out ?_
              clear HF3
              intro w3 hf
              have q2 := hf.tm.q.at 2 (v := .slice T.p.wa T.p.ws.length T.p.wc) rfl
              obtain ⟨b2, o2, e2, _, d0, d1, d2, d3, d4, d5⟩ := row6 (hf.tm.pm.ok (hf.tm.lt hT)).ws HX.out.1
              rw [e2] at q2
              clear e2
              have cX := hf.tm.xb.at 0 (v := .pointer (some ⟨T.qb, 0, none⟩)) rfl
              have s0 := hf.sx.at 0 (v := vi (s.n : Int)) rfl
              have hsni : (s.n : Int) < T.p.ws.length := by omega
              have HF3 := Lib.hid hf
              clear hf
              refine wp_words (by kernel_rfl) (region_told 10 (by kernel_rfl) (by kernel_rfl) (fun W => Below w3.heap.size w3 W) newer (pickD [vIs (.pointer (some ⟨T.qb, 0, none⟩)), vIs (.pointer (some ⟨T.qb, 0, none⟩)), vIs (.pointer (some ⟨T.qb, 0, none⟩)), vIs (.pointer (some ⟨T.qb, 2, none⟩)), vIs (.slice (some ⟨b2, o2, none⟩) T.p.ws.length T.p.wc), vIs (.pointer (some ⟨sb, 0, none⟩)), vIs (vi (s.n : Int)), vIs (.pointer (some ⟨b2, o2 + s.n * 6, none⟩)), vIs (wkV x), vNew w3.heap.size 87 #[vi 0, vi 0, vi 0, vi 0, vi 0, .slice none 0 0]]) (fun h k => newer_trans h k) (pickD_stable _ ⟨vIs_st, vIs_st, vIs_st, vIs_st, vIs_st, vIs_st, vIs_st, vIs_st, vIs_st, vNew_st, trivial⟩) (Below.refl _ w3).drew (Below.refl _ _) ?_ ?_)
              · refine ⟨?_, ?_, ?_, ?_, ?_, ?_, ?_, ?_, ?_, ?_, trivial⟩
                · intro a W hG hR hO hp
                  have h5 := hO.slot 5 (by kernel_rfl)
                  have c0 := keep_cell cX hG
                  refine wp_yields (v := .pointer (some ⟨T.qb, 0, none⟩)) ?_ ⟨_, rfl, rfl, Below.refl _ _, hG⟩
                  simp [slotOf] at h5
                  simp [execOp, go_sem, h5, c0]
                · intro a W hG hR hO hp
                  have h73 : slotOf a 73 = .pointer (some ⟨T.qb, 0, none⟩) := hp.1
                  refine wp_yields (v := .pointer (some ⟨T.qb, 0, none⟩)) ?_ ⟨_, rfl, rfl, Below.refl _ _, hG⟩
                  simp [slotOf] at h73
                  simp [execOp, go_sem, h73]
                · intro a W hG hR hO hp
                  have h74 : slotOf a 74 = .pointer (some ⟨T.qb, 0, none⟩) := hp.1
                  refine wp_yields (v := .pointer (some ⟨T.qb, 0, none⟩)) ?_ ⟨_, rfl, rfl, Below.refl _ _, hG⟩
                  simp [slotOf] at h74
                  simp [execOp, go_sem, h74]
                · intro a W hG hR hO hp
                  have h75 : slotOf a 75 = .pointer (some ⟨T.qb, 0, none⟩) := hp.1
                  refine wp_yields (v := .pointer (some ⟨T.qb, 2, none⟩)) ?_ ⟨_, rfl, rfl, Below.refl _ _, hG⟩
                  simp [slotOf] at h75
                  simp [execOp, go_sem, h75]
                · intro a W hG hR hO hp
                  have h76 : slotOf a 76 = .pointer (some ⟨T.qb, 2, none⟩) := hp.1
                  have c0 := keep_cell q2 hG
                  refine wp_yields (v := .slice (some ⟨b2, o2, none⟩) T.p.ws.length T.p.wc) ?_ ⟨_, rfl, rfl, Below.refl _ _, hG⟩
                  simp [slotOf] at h76
                  simp [execOp, go_sem, h76, c0]
                · intro a W hG hR hO hp
                  have h9 := hO.slot 9 (by kernel_rfl)
                  refine wp_yields (v := .pointer (some ⟨sb, 0, none⟩)) ?_ ⟨_, rfl, rfl, Below.refl _ _, hG⟩
                  simp [slotOf] at h9
                  simp [execOp, go_sem, h9]
                · intro a W hG hR hO hp
                  have h78 : slotOf a 78 = .pointer (some ⟨sb, 0, none⟩) := hp.1
                  have c0 := keep_cell s0 hG
                  refine wp_yields (v := vi (s.n : Int)) ?_ ⟨_, rfl, rfl, Below.refl _ _, hG⟩
                  simp [slotOf] at h78
                  simp [execOp, go_sem, h78, c0]
                · intro a W hG hR hO hp
                  have h77 : slotOf a 77 = .slice (some ⟨b2, o2, none⟩) T.p.ws.length T.p.wc := hp.1
                  have h79 : slotOf a 79 = vi (s.n : Int) := hp.2.1
                  refine wp_yields (v := .pointer (some ⟨b2, o2 + s.n * 6, none⟩)) ?_ ⟨_, rfl, rfl, Below.refl _ _, hG⟩
                  simp [slotOf] at h77 h79
                  simp [execOp, go_sem, h77, h79, hsni]
                · intro a W hG hR hO hp
                  have h80 : slotOf a 80 = .pointer (some ⟨b2, o2 + s.n * 6, none⟩) := hp.1
                  have c0 := keep_cell d0 hG
                  have c1 := keep_cell d1 hG
                  have c2 := keep_cell d2 hG
                  have c3 := keep_cell d3 hG
                  have c4 := keep_cell d4 hG
                  have c5 := keep_cell d5 hG
                  refine wp_yields (v := wkV x) ?_ ⟨_, rfl, rfl, Below.refl _ _, hG⟩
                  simp [slotOf] at h80
                  simp [execOp, go_sem, h80, c0, c1, c2, c3, c4, c5]
                · intro a W hG hR hO hp
                  refine wp_makes (v := .pointer (some ⟨W.heap.size, 0, none⟩)) (W' := W.alloc (.cells #[vi 0, vi 0, vi 0, vi 0, vi 0, .slice none 0 0] 87)) ?_ ⟨_, rfl, ⟨_, rfl, hG.size, Whole.made _ _ _⟩, (Below.refl _ _).alloc (Nat.le_refl _) _, hG.alloc hG.size _⟩
                  skip
                  simp [execOp, go_sem]
              · intro W hG hR
                rintro _ rfl _ rfl _ rfl _ rfl _ rfl _ rfl _ rfl _ rfl _ rfl _ ⟨xb, rfl, hxb, hwx⟩
                change wpList _ _ _ _ _ _
                simp only [Act.put, List.setIfInBounds_toArray, List.set_cons_zero, List.set_cons_succ, List.drop_succ_cons, List.drop_zero]
                have HF4 := Lib.hid (HF3.out.next hT hG)
                have HG := Lib.hid (And.intro hG hxb)
                have HWX := Lib.hid hwx
                have b0 := hwx.at 0 rfl
                have b1 := hwx.at 1 rfl
                have b2 := hwx.at 2 rfl
                have b3 := hwx.at 3 rfl
                have b4 := hwx.at 4 rfl
                have b5 := hwx.at 5 rfl
                have f0 := hwx.free 0
                have f1 := hwx.free 1
                have f2 := hwx.free 2
                have f3 := hwx.free 3
                have f4 := hwx.free 4
                have f5 := hwx.free 5
                clear hG hR hxb hwx cX q2 s0 d0 d1 d2 d3 d4 d5
                go_upto_region 8 with fail
                have HNB := Lib.hid (((((((HG.out.1).setCell (p := ⟨xb, 0, none⟩) HG.out.2 (vi x.d.price)).setCell (p := ⟨xb, 1, none⟩) HG.out.2 (vi x.d.first)).setCell (p := ⟨xb, 2, none⟩) HG.out.2 (vi x.d.last)).setCell (p := ⟨xb, 3, none⟩) HG.out.2 (vi x.d.age)).setCell (p := ⟨xb, 4, none⟩) HG.out.2 (vi x.d.village)).setCell (p := ⟨xb, 5, none⟩) HG.out.2 (.slice x.a x.d.adds.length x.cp))
                refine genQ (fun X => TrF T s l n A c lp2 st1.2 pv2 sb lb w X ∧ Whole X xb 87 (wkC x)) ⟨HF3.out.next hT HNB.out, ((((((HWX.out).set 0 _).set 1 _).set 2 _).set 3 _).set 4 _).set 5 _⟩ ?_
                have HXB := Lib.hid (show w.heap.size ≤ xb from Nat.le_trans HF3.out.mv.size HG.out.2)
                clear HG HWX HF3 HF4 HNB b0 b1 b2 b3 b4 b5 f0 f1 f2 f3 f4 f5
                rintro w4 ⟨hf, hwx⟩
                have s0 := hf.sx.at 0 (v := vi (s.n : Int)) rfl
                have cX := hf.tm.xb.at 0 (v := .pointer (some ⟨T.qb, 0, none⟩)) rfl
                have q6 := hf.tm.q.at 6 (v := vi T.wo) rfl
                have cY := hf.tm.yb.at 0 (v := .func (.func 62) #[pmV T.p] #[]) rfl
                have x0 := hwx.at 0 (v := vi x.d.price) rfl
                have x1 := hwx.at 1 (v := vi x.d.first) rfl
                have x2 := hwx.at 2 (v := vi x.d.last) rfl
                have x3 := hwx.at 3 (v := vi x.d.age) rfl
                have x4 := hwx.at 4 (v := vi x.d.village) rfl
                have x5 := hwx.at 5 (v := .slice x.a x.d.adds.length x.cp) rfl
                have HF3 := Lib.hid (And.intro hf hwx)
                obtain ⟨e, he⟩ : ∃ e, e = decide ((s.n : Int) = T.wo) := ⟨_, rfl⟩
                obtain ⟨ag, hag⟩ : ∃ ag, ag = agreeB T.p.vs x.d := ⟨_, rfl⟩
                have hee : ((s.n : Int) == T.wo) = e := by rw [he]; rfl
                have HEQ : Hid ((e || !ag) = (decide ((s.n : Int) = T.wo) || !agreeB T.p.vs x.d)) := Lib.hid (by rw [← he, ← hag])
                have HAG : Hid (∀ V, newer w4 V → Calls Try.prog 62 #[pmV T.p, wkV x] V fun e w' => e = .returned (.bool ag) ∧ newer V w') := Lib.hid (fun V hV => by
                  rw [hag]
                  have h4 := HX.out.2.2.2.2.1
                  exact agreed_any T.p x V ((HF3.out.1.next hT hV).tm.pm.ok ((HF3.out.1.next hT hV).tm.lt hT)) (by simp only [inB, Bool.and_eq_true, decide_eq_true_eq]; exact h4))
                clear hf hwx he hag
                refine wp_words (by kernel_rfl) (region_told_u 12 (by kernel_rfl) (by kernel_rfl) [false, false, false, false, false, false, false, false, e, e, e, e] (fun W => Below w4.heap.size w4 W) newer [vIs (.pointer (some ⟨sb, 0, none⟩)), vIs (vi (s.n : Int)), vIs (.pointer (some ⟨T.qb, 0, none⟩)), vIs (.pointer (some ⟨T.qb, 0, none⟩)), vIs (.pointer (some ⟨T.qb, 6, none⟩)), vIs (vi T.wo), vIs (.bool e), vIs (.bool e), vIs ((bif e then undef else .func (.func 62) #[pmV T.p] #[])), vIs ((bif e then undef else wkV x)), vIs ((bif e then undef else .bool ag)), vIs ((bif e then undef else .bool (!ag)))] ⟨rfl, rfl, rfl, rfl, rfl, rfl, rfl, rfl, (fun v W h => by obtain rfl : v = _ := h; exact gdF e), (fun v W h => by obtain rfl : v = _ := h; exact gdF e), (fun v W h => by obtain rfl : v = _ := h; exact gdF e), (fun v W h => by obtain rfl : v = _ := h; exact gdF e), trivial⟩ ⟨(fun h => Bool.noConfusion (show false = true from h)), (fun h => Bool.noConfusion (show false = true from h)), (fun h => Bool.noConfusion (show false = true from h)), (fun h => Bool.noConfusion (show false = true from h)), (fun h => Bool.noConfusion (show false = true from h)), (fun h => Bool.noConfusion (show false = true from h)), (fun h => Bool.noConfusion (show false = true from h)), (fun h => Bool.noConfusion (show false = true from h)), (fun h W => skw h W), (fun h W => skw h W), (fun h W => skw h W), (fun h W => skw h W), trivial⟩ (fun h k => newer_trans h k) (pickD_stable _ ⟨vIs_st, vIs_st, vIs_st, vIs_st, vIs_st, vIs_st, vIs_st, vIs_st, vIs_st, vIs_st, vIs_st, vIs_st, trivial⟩) (Below.refl _ w4).drew (Below.refl _ _) ?_ ?_)
                · refine ⟨?_, ?_, ?_, ?_, ?_, ?_, ?_, ?_, ?_, ?_, ?_, ?_, trivial⟩
                  · refine .inr ?_
                    intro a W hG hR hO hp
                    have h9 := hO.slot 9 (by kernel_rfl)
                    refine wp_yields (v := .pointer (some ⟨sb, 0, none⟩)) ?_ ⟨_, rfl, rfl, Below.refl _ _, hG⟩
                    simp [slotOf] at h9
                    simp [execOp, go_sem, h9]
                  · refine .inr ?_
                    intro a W hG hR hO hp
                    have h82 : slotOf a 82 = .pointer (some ⟨sb, 0, none⟩) := hp.1
                    have c0 := keep_cell s0 hG
                    refine wp_yields (v := vi (s.n : Int)) ?_ ⟨_, rfl, rfl, Below.refl _ _, hG⟩
                    simp [slotOf] at h82
                    simp [execOp, go_sem, h82, c0]
                  · refine .inr ?_
                    intro a W hG hR hO hp
                    have h5 := hO.slot 5 (by kernel_rfl)
                    have c0 := keep_cell cX hG
                    refine wp_yields (v := .pointer (some ⟨T.qb, 0, none⟩)) ?_ ⟨_, rfl, rfl, Below.refl _ _, hG⟩
                    simp [slotOf] at h5
                    simp [execOp, go_sem, h5, c0]
                  · refine .inr ?_
                    intro a W hG hR hO hp
                    have h84 : slotOf a 84 = .pointer (some ⟨T.qb, 0, none⟩) := hp.1
                    refine wp_yields (v := .pointer (some ⟨T.qb, 0, none⟩)) ?_ ⟨_, rfl, rfl, Below.refl _ _, hG⟩
                    simp [slotOf] at h84
                    simp [execOp, go_sem, h84]
                  · refine .inr ?_
                    intro a W hG hR hO hp
                    have h85 : slotOf a 85 = .pointer (some ⟨T.qb, 0, none⟩) := hp.1
                    refine wp_yields (v := .pointer (some ⟨T.qb, 6, none⟩)) ?_ ⟨_, rfl, rfl, Below.refl _ _, hG⟩
                    simp [slotOf] at h85
                    simp [execOp, go_sem, h85]
                  · refine .inr ?_
                    intro a W hG hR hO hp
                    have h86 : slotOf a 86 = .pointer (some ⟨T.qb, 6, none⟩) := hp.1
                    have c0 := keep_cell q6 hG
                    refine wp_yields (v := vi T.wo) ?_ ⟨_, rfl, rfl, Below.refl _ _, hG⟩
                    simp [slotOf] at h86
                    simp [execOp, go_sem, h86, c0]
                  · refine .inr ?_
                    intro a W hG hR hO hp
                    have h83 : slotOf a 83 = vi (s.n : Int) := hp.1
                    have h87 : slotOf a 87 = vi T.wo := hp.2.1
                    refine wp_yields (v := .bool e) ?_ ⟨_, rfl, rfl, Below.refl _ _, hG⟩
                    simp [slotOf] at h83 h87
                    simp [execOp, go_sem, h83, h87, hee]
                  · refine .inr ?_
                    intro a W hG hR hO hp
                    have h88 : slotOf a 88 = .bool e := hp.1
                    refine wp_yields (v := .bool e) ?_ ⟨_, rfl, rfl, Below.refl _ _, hG⟩
                    simp [slotOf] at h88
                    simp [execOp, go_sem, h88]
                  · rcases Bool.eq_false_or_eq_true (e) with hs | hs
                    · exact .inl hs
                    refine .inr ?_
                    intro a W hG hR hO hp
                    have h8 := hO.slot 8 (by kernel_rfl)
                    have c0 := keep_cell cY hG
                    refine wp_yields (v := .func (.func 62) #[pmV T.p] #[]) ?_ ⟨_, rfl, (by rw [hs]; rfl), Below.refl _ _, hG⟩
                    simp [slotOf] at h8
                    simp [execOp, go_sem, h8, c0]
                  · rcases Bool.eq_false_or_eq_true (e) with hs | hs
                    · exact .inl hs
                    refine .inr ?_
                    intro a W hG hR hO hp
                    have h11 := hO.slot 11 (by kernel_rfl)
                    have c0 := keep_cell x0 hG
                    have c1 := keep_cell x1 hG
                    have c2 := keep_cell x2 hG
                    have c3 := keep_cell x3 hG
                    have c4 := keep_cell x4 hG
                    have c5 := keep_cell x5 hG
                    refine wp_yields (v := wkV x) ?_ ⟨_, rfl, (by rw [hs]; rfl), Below.refl _ _, hG⟩
                    simp [slotOf] at h11
                    simp [execOp, go_sem, h11, c0, c1, c2, c3, c4, c5]
                  · rcases Bool.eq_false_or_eq_true (e) with hs | hs
                    · exact .inl hs
                    refine .inr ?_
                    intro a W hG hR hO hp
                    have h90 : slotOf a 90 = (bif e then undef else .func (.func 62) #[pmV T.p] #[]) := hp.1
                    rw [hs, cond_false] at h90
                    have h91 : slotOf a 91 = (bif e then undef else wkV x) := hp.2.1
                    rw [hs, cond_false] at h91
                    refine wp_enters (f := 62) (args := #[pmV T.p, wkV x]) ?_ ((HAG.out W hG).mono ?_)
                    · simp [slotOf] at h90 h91
                      simp [execOp, go_sem, h90, h91]
                    · rintro e w' ⟨rfl, hb⟩
                      exact ⟨_, rfl, _, rfl, (by rw [hs]; rfl), hb, below_next hG hb⟩
                  · rcases Bool.eq_false_or_eq_true (e) with hs | hs
                    · exact .inl hs
                    refine .inr ?_
                    intro a W hG hR hO hp
                    have h92 : slotOf a 92 = (bif e then undef else .bool ag) := hp.1
                    rw [hs, cond_false] at h92
                    refine wp_yields (v := .bool (!ag)) ?_ ⟨_, rfl, (by rw [hs]; rfl), Below.refl _ _, hG⟩
                    simp [slotOf] at h92
                    simp [execOp, go_sem, h92]
                · intro W hG hR
                  rintro _ rfl _ rfl _ rfl _ rfl _ rfl _ rfl _ rfl _ rfl _ rfl _ rfl _ rfl _ rfl
                  change wpList _ _ _ _ _ _
                  simp only [Act.put, List.setIfInBounds_toArray, List.set_cons_zero, List.set_cons_succ, List.drop_succ_cons, List.drop_zero]
                  have HF4 := Lib.hid (And.intro (HF3.out.1.next hT hG) (HF3.out.2.below hG HF3.out.2.lt))
                  clear cX q6 cY s0 x0 x1 x2 x3 x4 x5 hR hee
                  clear hG
                  cases e
                  case true =>
                    go_wp2_with fail
                    refine ⟨_, by simp [results, Try.results80, go_sem]; rfl, ⟨_, rfl⟩, lp2, pv2, ?_⟩
                    rw [tryP_kids HCB.out HX.out.1, if_pos (HEQ.out.symm.trans (show (true || !ag) = true from rfl)), ← HS1.out, ← HST.out]
                    exact ⟨HSS.out.1, HF4.out.1.tm, HF4.out.1.ow, HSS.out.2, HF4.out.1.mv⟩
                  case false =>
                    cases ag
                    case false =>
                      go_wp2_with fail
                      refine ⟨_, by simp [results, Try.results80, go_sem]; rfl, ⟨_, rfl⟩, lp2, pv2, ?_⟩
                      rw [tryP_kids HCB.out HX.out.1, if_pos (HEQ.out.symm.trans (show (false || !false) = true from rfl)), ← HS1.out, ← HST.out]
                      exact ⟨HSS.out.1, HF4.out.1.tm, HF4.out.1.ow, HSS.out.2, HF4.out.1.mv⟩
                    case true =>
                      have HNE : Hid (¬ (decide ((s.n : Int) = T.wo) || !agreeB T.p.vs x.d) = true) := Lib.hid (by rw [← HEQ.out]; decide)
                      go_upto_region 9 with fail
                      refine genQ (fun X => TrF T s l n A c lp2 st1.2 pv2 sb lb w X ∧ Whole X xb 87 (wkC x)) HF4.out ?_
                      clear HF4 HF3 HEQ HAG
                      rintro w5 ⟨hf, hwx⟩
                      have x0 := hwx.at 0 (v := vi x.d.price) rfl
                      have x1 := hwx.at 1 (v := vi x.d.first) rfl
                      have x2 := hwx.at 2 (v := vi x.d.last) rfl
                      have x3 := hwx.at 3 (v := vi x.d.age) rfl
                      have x4 := hwx.at 4 (v := vi x.d.village) rfl
                      have x5 := hwx.at 5 (v := .slice x.a x.d.adds.length x.cp) rfl
                      have HF3 := Lib.hid (And.intro hf hwx)
                      clear hf hwx
                      go_wp2_with fail
                      refine (years_any x _).mono ?_
                      rintro e w6 ⟨rfl, hw6⟩
                      have HF5 : Hid (TrF T s l n A c lp2 st1.2 pv2 sb lb w w6 ∧ Whole w6 w5.heap.size 87 (wkC x) ∧ lb < w5.heap.size ∧ w5.heap.size < w6.heap.size) := Lib.hid (by
                        have h1 : newer w5 w6 := hw6 ▸ newer_allocH w5 _
                        have h2 : Whole w6 w5.heap.size 87 (wkC x) := hw6 ▸ Whole.made w5 87 (wkC x)
                        exact ⟨HF3.out.1.next hT h1, h2, HF3.out.1.lx.lt, h2.lt⟩)
                      obtain ⟨ybk, hyb⟩ : ∃ ybk, ybk = w5.heap.size := ⟨_, rfl⟩
                      rw [← hyb] at HF5 ⊢
                      clear hyb hw6 HF3 x0 x1 x2 x3 x4 x5
                      go_wp2_with fail
                      refine (wpIn_wide (n := 9)).1 (range_law (gf := 84) (lb := #[.pointer (some ⟨ybk, 0, none⟩)]) rfl (enters_of Try.func84 (by kernel_rfl) rfl) ?_)
                      intro r0 r1 r2 r3 r4 r5 r6
                      have hyl := HF5.out.2.2.1
                      have hyw := HF5.out.2.2.2
                      refine (callsIn_wide.1 (years_in 8 (w6.heap.size + 1) ybk x HX.out.2.2.1.1 HX.out.2.2.1.2.1 (by have := HX.out.2.2.1.2.2; have := hT.p.years; omega) (fun k W => YrJ T s l n A c x pv sb lb ybk w6.heap.size r0 w (stY T r' s l x.d st1 k) W) ?hJ ?hY _ ?h0)).mono ?_
                      case hJ => exact fun k W hj => hj.yb
                      case h0 =>
                        have h1 := newer_trans (newer_allocH w6 (.deferred (some []))) (newer_allocH (w6.alloc (.deferred (some []))) (.loop r0))
                        refine ⟨⟨lp2, pv2, HSS.out.1, HF5.out.1.next hT h1, HSS.out.2⟩, HF5.out.2.1.below h1 HF5.out.2.1.lt, ?_, ?_⟩
                        · simp only [heap_if, World.size_alloc]
                          repeat rw [if_neg (by omega)]
                          rfl
                        · simp only [heap_if, World.size_alloc]
                          repeat rw [if_neg (by omega)]
                          rfl
                      case hY =>
                        intro k W hk hj
                        refine yield_round (r := r0) hj.lo r1 r2 (by rw [r4]; rfl) ?_
                        rw [r3, r4, r5, r6]
                        simp only [List.zip_toArray, List.zip_cons_cons, List.zip_nil_right, List.foldl_toArray, List.foldl_cons, List.foldl_nil, List.setIfInBounds_toArray, List.set_cons_zero, List.set_cons_succ]
                        gi_wp2_with fail
                        refine ⟨hj.lo, ?_⟩
                        have hj5 := hj.put hT (by omega) (by omega) (busyOf r0)
                        obtain ⟨w7, hw7⟩ : ∃ w7, w7 = W.putObj (w6.heap.size + 1) (.loop (busyOf r0)) := ⟨_, rfl⟩
                        rw [← hw7] at hj5 ⊢
                        clear hw7 hj W
                        have HJ := Lib.hid hj5
                        obtain ⟨⟨lp3, pv3, hs3, hf3, hp3⟩, -, -, -⟩ := hj5
                        have HF6 := Lib.hid hf3
                        have HS3 := Lib.hid (And.intro hs3 hp3)
                        have hnB : ∀ k, (Value.slice A n c).ownBlock = some k → k < w7.heap.size := fun k hk => Nat.lt_of_lt_of_le (hf3.ol k hk) hf3.mv.size
                        have cX := hf3.tm.xb.at 0 (v := .pointer (some ⟨T.qb, 0, none⟩)) rfl
                        have cT := hf3.tm.tb.at 0 (v := .func (.func 80) #[] (tpC T)) rfl
                        have cL := hf3.lx.at 0 (v := .slice A n c) rfl
                        have HSZ2 := Lib.hid (show n ≤ 1000 ∧ T.base ≤ w7.heap.size from ⟨HSZ.out.1, hf3.tm.le⟩)
                        have HY : Hid (0 ≤ x.d.first + (k : Int) ∧ x.d.first + (k : Int) ≤ 4) := Lib.hid (by
                          have h1 := HX.out.2.2.1
                          have h2 := hT.p.years
                          have h3 : (k : Int) < x.d.last + 1 - x.d.first := by unfold yearsN at hk; omega
                          omega)
                        clear HSZ
                        have HSZ := HSZ2
                        clear HSZ2 hs3 hf3 hp3 r1 r2 r3 r4 r5 r6
                        gi_wp2_with fail
                        refine round_words (by kernel_rfl) (by kernel_rfl) (fun _ _ h => h) (region_tale 9 (by kernel_rfl) (by kernel_rfl) 8 (fun W => w7.grownBy W (Value.slice A n c).ownBlock) (fun W => W.ownsRow T.base 3 1 (.slice A n c) n (l.map vi) ∧ newer w7 W) (relAt 8 (fun W W' => W.grownBy W' (Value.slice A n c).ownBlock)) (pickD [vIs (.func (.func 80) #[] (tpC T)), vIs (.pointer (some ⟨T.qb, 0, none⟩)), vIs (.agg (stC s)), vIs (vi (x.d.first + (k : Int))), vIs (.agg (stC (bldS T.p.pj s (x.d.first + (k : Int))))), vIs (.slice A n c), vIs (vi (x.d.first + (k : Int))), vOne w7.heap.size 3 #[vi (x.d.first + (k : Int))], vOn1 T.base A n c l (x.d.first + (k : Int)) w7]) (allBut_ok (fun _ _ h => grown_of_newer h _) _ ⟨vIs_st, vIs_st, vIs_st, vIs_st, vIs_st, vIs_st, vIs_st, vOne_grown hnB, vOn1_st, trivial⟩) (by decide) (grown_drew (grown_refl _ _)) ⟨HF6.out.ow, (Below.refl _ _).drew⟩ ?_ ?_)
                        · refine ⟨?_, ?_, ?_, ?_, ?_, ?_, ?_, ?_, ?_, trivial⟩
                          · intro a W hG hG1 hO hp
                            have h7 := hO.slot 7 (by kernel_rfl)
                            have c0 := hG.cell cT (HLN.out T.tb hT.tB)
                            refine wp_yields (v := .func (.func 80) #[] (tpC T)) ?_ ⟨_, rfl, rfl, newer_refl _, hG, fun _ h => h⟩
                            simp [slotOf] at h7
                            simp [execOp, go_sem, h7, c0]
                          · intro a W hG hG1 hO hp
                            have h5 := hO.slot 5 (by kernel_rfl)
                            have c0 := hG.cell cX (HLN.out T.xb hxB)
                            refine wp_yields (v := .pointer (some ⟨T.qb, 0, none⟩)) ?_ ⟨_, rfl, rfl, newer_refl _, hG, fun _ h => h⟩
                            simp [slotOf] at h5
                            simp [execOp, go_sem, h5, c0]
                          · intro a W hG hG1 hO hp
                            have h9 := hO.slot 9 (by kernel_rfl)
                            exact wp_yields (v := .agg (stC s)) (exec_load rfl ((eval_slot a 9).trans h9) (load_run (HF6.out.sx.grown hG HF6.out.sne))) ⟨_, rfl, rfl, newer_refl _, hG, fun _ h => h⟩
                          · intro a W hG hG1 hO hp
                            have h12 := hO.slot 12 (by kernel_rfl)
                            refine wp_yields (v := vi (x.d.first + (k : Int))) ?_ ⟨_, rfl, rfl, newer_refl _, hG, fun _ h => h⟩
                            simp [slotOf] at h12
                            simp [execOp, go_sem, h12]
                          · intro a W hG hG1 hO hp
                            have h99 : slotOf a 99 = .pointer (some ⟨T.qb, 0, none⟩) := hp.1
                            have h100 : slotOf a 100 = .agg (stC s) := hp.2.1
                            have h101 : slotOf a 101 = vi (x.d.first + (k : Int)) := hp.2.2.1
                            refine wp_enters (f := 83) (args := #[.pointer (some ⟨T.qb, 0, none⟩), .agg (stC s), vi (x.d.first + (k : Int))]) ?_ ((HBD.out (x.d.first + (k : Int)) W (.inr HY.out) ((HF6.out.tm.grown hT hG (own_ge HF6.out.ow) (fun k hk => HF6.out.pn k hk)).pm.ok (Nat.le_trans (HF6.out.tm.lt hT) hG.size)) ((HF6.out.tm.grown hT hG (own_ge HF6.out.ow) (fun k hk => HF6.out.pn k hk)).q)).mono ?_)
                            · simp [slotOf] at h99 h100 h101
                              simp [go_sem, h99, h100, h101]
                            · rintro e w' ⟨rfl, hb⟩
                              exact ⟨_, rfl, _, rfl, rfl, hb, grown_below hG hb, fun _ h => ⟨own_below h.1 hb, newer_trans h.2 hb⟩⟩
                          · intro a W hG hG1 hO hp
                            have h10 := hO.slot 10 (by kernel_rfl)
                            have c0 := hG.cell cL HF6.out.lne
                            refine wp_yields (v := .slice A n c) ?_ ⟨_, rfl, rfl, newer_refl _, hG, fun _ h => h⟩
                            simp [slotOf] at h10
                            simp [execOp, go_sem, h10, c0]
                          · intro a W hG hG1 hO hp
                            have h12 := hO.slot 12 (by kernel_rfl)
                            refine wp_yields (v := vi (x.d.first + (k : Int))) ?_ ⟨_, rfl, rfl, newer_refl _, hG, fun _ h => h⟩
                            simp [slotOf] at h12
                            simp [execOp, go_sem, h12]
                          · intro a W hG hG1 hO hp
                            have h104 : slotOf a 104 = vi (x.d.first + (k : Int)) := hp.1
                            refine wp_makes (v := .slice (some ⟨W.heap.size, 0, none⟩) 1 1) (W' := W.alloc (.cells #[vi (x.d.first + (k : Int))] 3)) ?_ ⟨_, rfl, ⟨_, rfl, hG.size, Whole.made _ _ _⟩, newer_allocH _ _, grown_alloc hG _, fun _ h => ⟨own_below h.1 (newer_allocH _ _), newer_trans h.2 (newer_allocH _ _)⟩⟩
                            simp [slotOf] at h104
                            simp [execOp, go_sem, h104]
                          · intro a W hG hG1 hO hp
                            have h103 : slotOf a 103 = .slice A n c := hp.1
                            have h105 := hp.2.1
                            obtain ⟨nb, h105, hnb, hW⟩ := h105
                            obtain ⟨ho, hnw⟩ := hG1 rfl
                            obtain ⟨hi0, hz0, hz1, hz2⟩ := HI.out
                            have hsz := HSZ.out
                            refine wp_append_one (.tmp 103) (.tmp 105) 25 rfl T.base 3 i0 (.int .i64 0) 8 Try.underlying25 hi0 hz0 hz1 hz2 rfl A n c (l.map vi) ((eval_slot a 103).trans h103) ho ⟨nb, 0, none⟩ 1 (vi (x.d.first + (k : Int))) ((eval_slot a 105).trans h105) (hW.at 0 rfl) rfl (by unfold maxLen; omega) (by omega) (Nat.le_trans hsz.2 hG.size) ?_
                            intro g c' w1 hown hon0
                            have hon : Onto1 A c g c' W w1 := hon0
                            exact ⟨_, rfl, ⟨g, c', rfl, hown, hon.ahead hnw⟩, hon.grown, grown_trans' hG hon.grown, fun e => absurd rfl e⟩
                        · intro W hG
                          rintro _ rfl _ rfl _ rfl _ rfl _ rfl _ rfl _ rfl _ hv105 _ ⟨g, c2, rfl, hown, hon⟩
                          change wpList _ _ _ _ _ _
                          simp only [Act.put, List.setIfInBounds_toArray, List.set_cons_zero, List.set_cons_succ, List.drop_succ_cons, List.drop_zero]
                          obtain ⟨s3, hs3⟩ : ∃ s3, s3 = bldS T.p.pj s (x.d.first + (k : Int)) := ⟨_, rfl⟩
                          have HCC := Lib.hid (child_call hT HIR.out HF6.out HX.out.1 hgo hr HS.out.2.2.1 HS.out.2.2.2 HS3.out.1 (x.d.first + (k : Int)) hon hown)
                          rw [← hs3] at HCC ⊢
                          have HS4 := Lib.hid hs3
                          clear hon hown hs3 hG cX cT cL hnB hv105
                          obtain ⟨ar, har⟩ : ∃ ar, ar = #[Value.agg (stC s3), .slice (some ⟨g, 0, none⟩) (n + 1) c2] ++ tpC T := ⟨_, rfl⟩
                          rw [← har] at HCC
                          refine wpList_plain rfl fun K1 hK1 => wp_enters (f := 80) (args := ar) ?_ ((HCC.out).mono ?_)
                          · rw [har]
                            simp [go_sem]
                          rintro e w8 ⟨⟨v, rfl⟩, lp4, pv4, hs4, hf4, hp4, hm4⟩
                          refine ⟨_, rfl, hK1 _ _ ?_⟩
                          clear hK1 HCC
                          simp only [Act.put]
                          have hbase : T.base ≤ ybk := by have := HF6.out.le; have := HF6.out.hl; omega
                          have hfar : ∀ q, lb < q → some q ≠ (Value.slice A n c).ownBlock := fun q hq e => by have := HF6.out.ol q e.symm; have := HF6.out.hl; omega
                          have hD := (Array.getElem?_eq_some_iff.1 HJ.out.lo).1
                          have k2 := hT.mx
                          have k3 := hT.xf
                          have k4 := hT.fp
                          have k5 := hT.pc'
                          have k6 := hT.co
                          have k7 := hT.oy
                          have k8 := hT.yt
                          have k9 := hT.tB
                          have hyb8 : YrJ T s l n A c x pv sb lb ybk w6.heap.size (busyOf r0) w (stY T r' s l x.d st1 (k + 1)) w8 := by
                            refine ⟨⟨lp4, pv4, ?_, ?_, HS3.out.2.trans hp4 HF6.out.mv.size⟩, hm4.high hT HJ.out.yb hbase (hfar _ (by omega)), ?_, ?_⟩
                            · rw [stY_succ, ← HS4.out]
                              exact hs4
                            · rw [stY_succ, ← HS4.out]
                              exact hf4
                            · exact (hm4.block _ (by omega) (by omega) (by omega) (by omega) (by omega) (hfar _ (by omega))).trans HJ.out.df
                            · exact (hm4.block _ (by omega) (by omega) (by omega) (by omega) (by omega) (hfar _ (by omega))).trans HJ.out.lo
                          have HX8 := Lib.hid (And.intro hyb8.lo (hyb8.put hT (by omega) (by omega) r0))
                          clear hyb8 hbase hfar hD k2 k3 k4 k5 k6 k7 k8 k9 hm4 hp4 hf4 hs4
                          go_wp2_with fail
                          refine onlyN_intro ?_
                          gi_wp2_with fail
                          exact ⟨HX8.out.1, rfl, HX8.out.2⟩
                      · rintro e W ⟨⟨v, rfl⟩, hj⟩
                        refine ⟨⟨_, rfl⟩, .inl ⟨hj.lo, ?_⟩⟩
                        have HJ := Lib.hid (hj.put hT (by omega) (by omega) (overOf r0))
                        clear hj r1 r2 r3 r4 r5 r6
                        go_wp2_with fail
                        refine ⟨by simp, .inl ⟨_, _, rfl, run_takeDeferred HJ.out.df, ?_⟩⟩
                        obtain ⟨⟨lp3, pv3, h1, h2, h3⟩, h4, h5, h6⟩ := HJ.out
                        have h7 := h2.side hT h5 (fun _ _ _ e => by cases e) (grown_putL _ _ (.deferred none)) (by omega)
                        refine ⟨_, by simp [results, Try.results80, go_sem]; rfl, ⟨_, rfl⟩, lp3, pv3, ?_⟩
                        rw [tryP_kids HCB.out HX.out.1, if_neg HNE.out, ← HS1.out, ← HST.out]
                        exact ⟨h1, h7.tm, h7.ow, h3, h7.mv⟩
/-- The search, whatever is left. -/
theorem try_any (T : TP) (hT : TpOk T) : ∀ r, TryC T r
  | 0 => try_step T hT 0 (fun _ h => by omega)
  | r + 1 => try_step T hT (r + 1) (fun r' h => by
    have e : r = r' := by omega
    exact e ▸ try_any T hT r)
end Go.Proofs.Ytpnpnfjhjjdmgaa
