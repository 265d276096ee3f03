/- What the last text of this chain needs: WkR, WkT, WkV, WkW, WkX, WkY. -/
import Derived.Test.YtcdhhfgpdokkoaaZH03
namespace Go.Proofs.Ytcdhhfgpdokkoaa
section
open Go.RowKit Go.Deep
open Go.ChangeMaps (setBlock)
theorem zero4 (W : World) : (zeroValue 4).run Try.prog W = .ok (.bool false) W := by
 obtain ⟨i0, hi0, hz⟩ := Option.map_eq_some_iff.1 (show (Try.prog.info? 4).map (fun i => i.zero) = some (some (.bool false)) by kernel_rfl)
 simp [zeroValue, typeInfo, hi0, hz]
structure TrF (T : TP) (s : Sx) (l : List Int) (n : Nat) (A : Option Addr) (c : Nat) (lp : List (SxK × Bool)) (b : Option (List Int × Int)) (pv : Value) (sb lb : Nat) (w W : World) : Prop where
 hs : sb = w.heap.size
 hl : lb = w.heap.size + 1
 le : T.base <= w.heap.size
 ol : ∀ k, (Value.slice A n c).ownBlock = some k -> k < w.heap.size
 tm : TryM T lp b pv W
 sx : Whole W sb 137 (stC s)
 lx : Whole W lb 26 #[.slice A n c]
 ow : W.ownsRow T.base 3 1 (.slice A n c) n (l.map vi)
 pn : PNe pv (.slice A n c)
 mv : Moved T (Value.slice A n c).ownBlock w W
section
variable {T : TP} {s : Sx} {l : List Int} {n : Nat} {A : Option Addr} {c : Nat} {lp : List (SxK × Bool)} {b : Option (List Int × Int)} {pv : Value} {sb lb : Nat} {w W W' : World}
theorem TrF.next (hT : TpOk T) (h : TrF T s l n A c lp b pv sb lb w W) (hb : newer W W') : TrF T s l n A c lp b pv sb lb w W' :=
 ⟨h.hs, h.hl, h.le, h.ol, h.tm.next hT hb, h.sx.below hb h.sx.lt, h.lx.below hb h.lx.lt, own_below h.ow hb, h.pn, h.mv.next hb⟩
theorem TrF.put (hT : TpOk T) (h : TrF T s l n A c lp b pv sb lb w W) (lp' : List (SxK × Bool)) : TrF T s l n A c lp' b pv sb lb w (setBlock W T.mb (.map (ents ekS evB lp') lp'.length)) := by
 have h1 := h.hs
 have h2 := h.hl
 have h3 := h.le
 have k2 := hT.mx
 have k3 := hT.xf
 have k4 := hT.fp
 have k5 := hT.pc'
 have k6 := hT.co
 have k7 := hT.oy
 have k8 := hT.yt
 have k9 := hT.tB
 exact ⟨h1, h2, h3, h.ol, h.tm.put hT lp', h.sx.setBlock (by omega) _, h.lx.setBlock (by omega) _, (Moved.setBlock (Moved.refl T none W) _).own hT h.ow (by simp), h.pn, h.mv.setBlock _⟩
theorem TrF.sne (h : TrF T s l n A c lp b pv sb lb w W) : some sb ≠ (Value.slice A n c).ownBlock := fun e => by have := h.ol _ e.symm; have := h.hs; omega
theorem TrF.lne (h : TrF T s l n A c lp b pv sb lb w W) : some lb ≠ (Value.slice A n c).ownBlock := fun e => by have := h.ol _ e.symm; have := h.hl; omega
theorem TrF.lone (h : TrF T s l n A c lp b pv sb lb w W) (k : Nat) (hk : k < T.base) : some k ≠ (Value.slice A n c).ownBlock := fun e => by have := own_ge h.ow _ e.symm; omega
theorem TrF.back (hT : TpOk T) (h : TrF T s l n A c lp b pv sb lb w W) {W1 : World} {g c' : Nat} {y : Int} (hon : Onto1 A c g c' W W1) {lp2 : List (SxK × Bool)} {b2 : Option (List Int × Int)} {pv2 : Value} (hm : Moved T (some g) W1 W')
  (ho2 : W'.ownsRow T.base 3 1 (.slice (some ⟨g, 0, none⟩) (n + 1) c') (n + 1) (l.map vi ++ [vi y])) (ht2 : TryM T lp2 b2 pv2 W') (hp2 : pvNew pv pv2 W1) : TrF T s l n A c lp2 b2 pv2 sb lb w W' := by
 obtain ⟨h1, h2⟩ := hon.back hT h.ow hm ho2
 have k1 := h.hs
 have k2 := h.hl
 have k3 := h.le
 have hsz : W.heap.size <= W1.heap.size := by rcases hon with ⟨_, _, q⟩ | ⟨_, q⟩ <;> exact q.size
 refine ⟨k1, k2, k3, h.ol, ht2, h2.high hT h.sx (by omega) h.sne, h2.high hT h.lx (by omega) h.lne, h1, ?_, h.mv.trans h2⟩
 exact h.pn.of hp2 fun k hk => by
  have := h.ol k hk
  have := h.mv.size
  omega
theorem TrF.side (hT : TpOk T) (h : TrF T s l n A c lp b pv sb lb w W) {d : Nat} {o : Obj} (hd : W.heap[d]? = some o) (ho : ∀ cs t z, o ≠ .cells cs t z) (hg : W.grownBy W' (some d)) (hlb : lb < d) : TrF T s l n A c lp b pv sb lb w W' := by
 have k1 := h.hs
 have k2 := h.hl
 have k3 := h.le
 have own : ∀ {v : Value} {m : Nat} {xs : List Value}, W.ownsRow T.base 3 1 v m xs -> ∀ k, v.ownBlock = some k -> k ≠ d := by
  intro v m xs hv k hk e
  rcases hv.2 with ⟨rfl, _⟩ | ⟨q, cap, cur, rfl, _, hh, _⟩
  ·simp [Value.ownBlock] at hk
  ·have e1 : q = k := by simpa [Value.ownBlock] using hk
   rw [e1, e, hd] at hh
   exact ho _ _ _ (Option.some.inj hh)
 obtain ⟨m, xs, hpl⟩ := h.tm.plan.own
 refine ⟨k1, k2, k3, h.ol, h.tm.grown hT hg (fun k hk => by injection hk with hk; omega) (fun k hk e => own hpl k hk (by injection e with e; exact e.symm)), h.sx.grown hg (by intro e; injection e with e; omega), h.lx.grown hg (by intro e; injection e with e; omega), h.ow.kept hg ?_, h.pn, ?_⟩
 ·rcases Option.eq_none_or_eq_some (Value.slice A n c).ownBlock with e | ⟨k, e⟩
  ·exact .inl e
  ·exact .inr fun e2 => own h.ow k e (by rw [e] at e2; injection e2)
 ·have m := h.mv
  exact ⟨hg.os.trans m.os, hg.tape.trans m.tape, hg.output.trans m.output, Nat.le_trans m.size hg.size, fun i hi h1 h2 h3 h4 h5 => (hg.block i (Nat.lt_of_lt_of_le hi m.size) (by rw [Ne, Option.some.injEq]; omega)).trans (m.block i hi h1 h2 h3 h4 h5)⟩
end
def TryC (T : TP) (r : Nat) : Prop := ∀ (s : Sx) (l : List Int) (n : Nat) (A : Option Addr) (c : Nat) (lp : List (SxK × Bool)) (M : List Sx) (b : Option (List Int × Int)) (pv : Value) (W : World),
 T.p.ws.length - s.n = r -> SxGo T.p s -> s.n = n -> l.length = n -> Seen lp M -> TryM T lp b pv W -> W.ownsRow T.base 3 1 (.slice A n c) n (l.map vi) -> (l = [] -> A = none) -> PNe pv (.slice A n c) ->
 Calls Try.prog 58 (#[.agg (stC s), .slice A n c] ++ tpC T) W fun e W' => (∃ v, e = .returned v) /\ ∃ lp' pv', Seen lp' (tryP (srch T.p.pj T.wo) T.fst r s l (M, b)).1 /\ TryM T lp' (tryP (srch T.p.pj T.wo) T.fst r s l (M, b)).2 pv' W' /\
  W'.ownsRow T.base 3 1 (.slice A n c) n (l.map vi) /\ pvNew pv pv' W /\ Moved T (Value.slice A n c).ownBlock W W'
def cutB (T : TP) (M : List Sx) (b : Option (List Int × Int)) (s : Sx) : Bool := T.fst && b.isSome || b.isSome && decide (costOf b <= s.p.sum) || decide (s ∈ M) || !paidB T.p.ps s.p
theorem cutB_is (T : TP) (M : List Sx) (b : Option (List Int × Int)) (s : Sx) : (!imp T.fst b ((srch T.p.pj T.wo).cost s) || decide (s ∈ M) || (srch T.p.pj T.wo).cut s) = cutB T M b s := by
 unfold cutB
 congr 2
 cases b with
 | none => simp [imp]
 | some q =>
  have e : (srch T.p.pj T.wo).cost s = s.p.sum := rfl
  rw [e]
  simp only [imp, costOf, Option.isSome_some, Bool.and_true, Bool.true_and, Bool.not_and, Bool.not_not]
  congr 1
  by_cases h : s.p.sum < q.2
  ·have : ¬ q.2 <= s.p.sum := by omega
   simp [h, this]
  ·have : q.2 <= s.p.sum := by omega
   simp [h, this]
theorem tryP_cut {T : TP} {M : List Sx} {b : Option (List Int × Int)} {s : Sx} (h : cutB T M b s = true) (r : Nat) (l : List Int) : tryP (srch T.p.pj T.wo) T.fst r s l (M, b) = (M, b) := by
 unfold tryP
 rw [cutB_is, h, if_pos rfl]
theorem tryP_end {T : TP} {M : List Sx} {b : Option (List Int × Int)} {s : Sx} (h : cutB T M b s = false) (l : List Int) : tryP (srch T.p.pj T.wo) T.fst 0 s l (M, b) = (s :: M, if enoughB T.p.ns s.a then some (l, s.p.sum) else b) := by
 unfold tryP
 rw [cutB_is, h, if_neg (by decide)]
 rfl
theorem tryP_go {T : TP} {M : List Sx} {b : Option (List Int × Int)} {s : Sx} (h : cutB T M b s = false) (r : Nat) (l : List Int) : tryP (srch T.p.pj T.wo) T.fst (r + 1) s l (M, b) = (kidsS T.p.pj T.wo s).foldl (fun st y => tryP (srch T.p.pj T.wo) T.fst r (bldS T.p.pj s y) (l ++ [y]) st) (s :: M, b) := by
 conv => lhs; unfold tryP
 rw [cutB_is, h, if_neg (by decide)]
 rfl
theorem clone_n (T : TP) (l : List Int) (n : Nat) (hln : l.length = n) (hn : n <= 1000) (A : Option Addr) (c : Nat) (W : World) (hB : T.base <= W.heap.size) (ho : W.ownsRow T.base 3 1 (.slice A n c) n (l.map vi)) (h0 : l = [] -> A = none) :
  Calls Try.prog 62 #[.slice A n c] W fun e w' => (∃ v, e = .returned v /\ vClo T.base n l W.heap.size v w') /\ newer W w' := by
 subst hln
 refine (clone_any l A c T.base W hn ho h0).mono ?_
 rintro e w' ⟨B, c', rfl, h1, h2, h3⟩
 exact ⟨⟨_, rfl, B, c', rfl, own_more h1 hB, h3, own_ge h1⟩, h2⟩
section
variable {T : TP} {s : Sx} {l : List Int} {n : Nat} {A : Option Addr} {c : Nat} {lp : List (SxK × Bool)} {b : Option (List Int × Int)} {pv : Value} {sb lb : Nat} {w wv W : World}
theorem child_call (hT : TpOk T) {r' : Nat} (ih : TryC T r') (hf : TrF T s l n A c lp b pv sb lb w wv) {x : Wk} (hx : T.p.ws[s.n]? = some x) (hgo : SxGo T.p s) (hr : T.p.ws.length - s.n = r' + 1) (hsn : s.n = n) (hln : l.length = n) {M : List Sx} (hseen : Seen lp M) (y : Int)
  {g c' : Nat} (hon : Onto1 A c g c' wv W) (hown : W.ownsRow T.base 3 1 (.slice (some ⟨g, 0, none⟩) (n + 1) c') (n + 1) (l.map vi ++ [vi y])) :
  Calls Try.prog 58 (#[.agg (stC (bldS T.p.pj s y)), .slice (some ⟨g, 0, none⟩) (n + 1) c'] ++ tpC T) W fun e w2 => (∃ v, e = .returned v) /\ ∃ lp2 pv2, Seen lp2 (tryP (srch T.p.pj T.wo) T.fst r' (bldS T.p.pj s y) (l ++ [y]) (M, b)).1 /\
   TrF T s l n A c lp2 (tryP (srch T.p.pj T.wo) T.fst r' (bldS T.p.pj s y) (l ++ [y]) (M, b)).2 pv2 sb lb w w2 /\ pvNew pv pv2 wv /\ Moved T (Value.slice A n c).ownBlock wv w2 := by
 have hlen : s.n < T.p.pj.works.length := by
  have := (List.getElem?_eq_some_iff.1 hx).1
  simpa [Pm.pj] using this
 have hbn := bldS_n T.p.pj s y hlen
 have hgr := hon.grown (n := n)
 obtain ⟨m, xs, hpl⟩ := hf.tm.plan.own
 refine (ih (bldS T.p.pj s y) (l ++ [y]) (n + 1) (some ⟨g, 0, none⟩) c' lp M b pv W (by rw [hbn]; omega) (hgo.bld hT.p hx y) (by rw [hbn, hsn]) (by rw [List.length_append, hln]; rfl) hseen (hf.tm.grown hT hgr (own_ge hf.ow) (fun k hk => hf.pn k hk)) (by rw [List.map_append]; exact hown) (fun h => by simp at h) (hon.pne hf.pn (own_lt hpl))).mono ?_
 rintro e w2 ⟨hv, lp2, pv2, hs2, ht2, ho2, hp2, hm2⟩
 rw [List.map_append] at ho2
 have hsz : wv.heap.size <= W.heap.size := hgr.size
 refine ⟨hv, lp2, pv2, hs2, hf.back hT hon hm2 ho2 ht2 hp2, hp2.imp id (fun h k hk => Nat.le_trans hsz (h k hk)), (hon.back hT hf.ow hm2 ho2).2⟩
end
structure YrJ (T : TP) (s : Sx) (l : List Int) (n : Nat) (A : Option Addr) (c : Nat) (x : Wk) (pv0 : Value) (sb lb yb D : Nat) (r0 : Loop) (w : World) (st : List Sx × Option (List Int × Int)) (W : World) : Prop where
 ex : ∃ lp pv, Seen lp st.1 /\ TrF T s l n A c lp st.2 pv sb lb w W /\ pvNew pv0 pv w
 yb : Whole W yb 78 (wkC x)
 df : W.heap[D]? = some (.deferred (some []))
 lo : W.heap[D + 1]? = some (.loop r0)
section
variable {T : TP} {s : Sx} {l : List Int} {n : Nat} {A : Option Addr} {c : Nat} {x : Wk} {pv0 : Value} {sb lb yb D : Nat} {r0 : Loop} {w : World} {st : List Sx × Option (List Int × Int)} {W : World}
theorem YrJ.put (hT : TpOk T) (h : YrJ T s l n A c x pv0 sb lb yb D r0 w st W) (hlb : lb < D) (hyb : yb < D) (r' : Loop) : YrJ T s l n A c x pv0 sb lb yb D r' w st (W.putObj (D + 1) (.loop r')) := by
 obtain ⟨⟨lp, pv, h1, h2, h3⟩, h4, h5, h6⟩ := h
 exact ⟨⟨lp, pv, h1, h2.side hT h6 (fun _ _ _ e => by cases e) (grown_putL _ _ _) (by omega), h3⟩, h4.put (by omega) _, (World.putObj_heap_other (by omega)).trans h5, World.putObj_heap_same (Array.getElem?_eq_some_iff.1 h6).1⟩
end
def stY (T : TP) (r' : Nat) (s : Sx) (l : List Int) (x : Wd) (st : List Sx × Option (List Int × Int)) (k : Nat) : List Sx × Option (List Int × Int) := ((List.range k).map fun (j : Nat) => x.first + (j : Int)).foldl (fun st y => tryP (srch T.p.pj T.wo) T.fst r' (bldS T.p.pj s y) (l ++ [y]) st) st
theorem stY_succ (T : TP) (r' : Nat) (s : Sx) (l : List Int) (x : Wd) (st : List Sx × Option (List Int × Int)) (k : Nat) : stY T r' s l x st (k + 1) = tryP (srch T.p.pj T.wo) T.fst r' (bldS T.p.pj s (x.first + (k : Int))) (l ++ [x.first + (k : Int)]) (stY T r' s l x st k) := by
 unfold stY
 rw [List.range_succ, List.map_append, List.foldl_append]
 rfl
theorem tryP_kids {T : TP} {M : List Sx} {b : Option (List Int × Int)} {s : Sx} {x : Wk} (h : cutB T M b s = false) (hx : T.p.ws[s.n]? = some x) (r : Nat) (l : List Int) : tryP (srch T.p.pj T.wo) T.fst (r + 1) s l (M, b) =
  if (decide ((s.n : Int) = T.wo) || !agreeB T.p.vs x.d) = true then tryP (srch T.p.pj T.wo) T.fst r (bldS T.p.pj s (-1)) (l ++ [-1]) (s :: M, b) else stY T r s l x.d (tryP (srch T.p.pj T.wo) T.fst r (bldS T.p.pj s (-1)) (l ++ [-1]) (s :: M, b)) (yearsN x.d) := by
 have hxd : T.p.pj.works[s.n]? = some x.d := by simp [Pm.pj, hx]
 rw [tryP_go h]
 unfold kidsS
 rw [hxd]
 dsimp only
 rw [List.foldl_cons]
 have e : T.p.pj.villages = T.p.vs := rfl
 rw [e]
 split <;> rfl
set_option maxRecDepth 100000 in
set_option maxHeartbeats 4000000 in
theorem try_step (T : TP) (hT : TpOk T) (r : Nat) (IH : ∀ r', r = r' + 1 -> TryC T r') : TryC T r := by
 intro s l n A c lp M b pv w hr hgo hsn hln hseen htm how hA hpn
 have HIH := Lib.hid IH
 have HS := Lib.hid (And.intro hseen (And.intro hA (And.intro hsn hln)))
 have HP9 := Lib.hid (hgo.p9 hT.p)
 have HF := Lib.hid (show TrF T s l n A c lp b pv w.heap.size (w.heap.size + 1) w ((w.alloc (.cells (stC s) 137)).alloc (.cells #[.slice A n c] 26)) from by
  have h1 := newer_trans (newer_allocH w (.cells (stC s) 137)) (newer_allocH (w.alloc (.cells (stC s) 137)) (.cells #[.slice A n c] 26))
  have h2 := Whole.made (w.alloc (.cells (stC s) 137)) 26 #[.slice A n c]
  simp only [World.size_alloc] at h2
  exact ⟨rfl, rfl, htm.le, own_lt how, htm.next hT h1, (Whole.made w 137 (stC s)).alloc _, h2, own_below how h1, hpn, .ofNewer T _ h1⟩)
 clear IH hseen hA hpn htm how hln hsn
 refine callsIn_wide.1 (callsIn_of_wp_marks (n := 9) Try.func58 rfl trivial ?_ rfl)
 simp only [Try.ntmps58, List.size_toArray, List.length_cons, List.length_nil, Nat.reduceAdd, Nat.reduceSub, Array.replicate_succ, Array.replicate_zero, List.push_toArray, List.append_toArray, List.nil_append, List.cons_append]
 refine wpIn_wide.2 ?_
 go_upto_region 1 with fail
 refine genQ (TrF T s l n A c lp b pv w.heap.size (w.heap.size + 1) w) HF.out ?_
 clear HF
 obtain ⟨sb, hsb⟩ : ∃ sb, sb = w.heap.size := ⟨_, rfl⟩
 rw [<- hsb]
 obtain ⟨lb, hlb⟩ : ∃ lb, lb = sb + 1 := ⟨_, rfl⟩
 rw [<- hlb]
 clear hsb hlb
 intro wv hfv
 go_cut [43] from 13 (fun s43 wx => s43 = .bool (cutB T M b s) /\ TrF T s l n A c lp b pv sb lb w wx)
 case first =>
  obtain ⟨F, hF⟩ : ∃ F, F = T.fst := ⟨_, rfl⟩
  obtain ⟨f, hfb⟩ : ∃ f, f = b.isSome := ⟨_, rfl⟩
  obtain ⟨cc, hcc⟩ : ∃ cc, cc = costOf b := ⟨_, rfl⟩
  obtain ⟨g, hg⟩ : ∃ g, g = decide (costOf b <= s.p.sum) := ⟨_, rfl⟩
  obtain ⟨m, hm⟩ : ∃ m, m = decide (s ∈ M) := ⟨_, rfl⟩
  obtain ⟨pd, hpd⟩ : ∃ pd, pd = paidB T.p.ps s.p := ⟨_, rfl⟩
  have HEQ : Hid ((F && f || f && g || m || !pd) = cutB T M b s) := Lib.hid (by unfold cutB; rw [<- hF, <- hfb, <- hg, <- hm, <- hpd])
  rw [<- hcc] at hg
  have hge : decide (cc <= s.p.sum) = g := hg.symm
  have hf := hfv
  have cF := hf.tm.fb.at 0 (v := .bool T.fst) rfl
  have cO := hf.tm.ob.at 0 (v := .bool b.isSome) rfl
  have cC := hf.tm.cb.at 0 (v := vi (costOf b)) rfl
  rw [<- hF] at cF
  rw [<- hfb] at cO
  rw [<- hcc] at cC
  have cX := hf.tm.xb.at 0 (v := .pointer (some ⟨T.qb, 0, none⟩)) rfl
  have q0 := hf.tm.q.at 0 (v := vi T.p.years) rfl
  have q1 := hf.tm.q.at 1 (v := vi T.p.slopes) rfl
  have q2 := hf.tm.q.at 2 (v := .slice T.p.wa T.p.ws.length T.p.wc) rfl
  have q3 := hf.tm.q.at 3 (v := .slice T.p.na T.p.ns.length T.p.nc) rfl
  have q4 := hf.tm.q.at 4 (v := .slice T.p.va T.p.vs.length T.p.vc) rfl
  have q5 := hf.tm.q.at 5 (v := .slice T.p.pa T.p.ps.length T.p.pc) rfl
  have q6 := hf.tm.q.at 6 (v := vi T.wo) rfl
  have q7 := hf.tm.q.at 7 (v := .map (some T.mb)) rfl
  have s21 := hf.sx.at 21 (v := vi (iAt s.p 0)) rfl
  have s22 := hf.sx.at 22 (v := vi (iAt s.p 1)) rfl
  have s23 := hf.sx.at 23 (v := vi (iAt s.p 2)) rfl
  have s24 := hf.sx.at 24 (v := vi (iAt s.p 3)) rfl
  have s25 := hf.sx.at 25 (v := vi (iAt s.p 4)) rfl
  have HLK : Hid (((atR (⟨s, hgo.inn hT.p⟩ : SxK) lp 0).map fun p => evB p.2).getD (.bool false) = .bool m) := Lib.hid (by rw [hm]; exact HS.out.1.look ⟨s, hgo.inn hT.p⟩)
  have HF := Lib.hid hf
  have HPD : Hid (∀ W, newer wv W -> Calls Try.prog 60 #[pmV T.p, .agg (sp5 s.p)] W fun e w' => e = .returned (.bool pd) /\ newer W w') := Lib.hid (fun W hW => by
   have h5 := hT.p.pn
   have h6 := hT.p.years
   rw [hpd]
   exact paid_any T.p s.p W ((HF.out.tm.next hT hW).pm.ok ((HF.out.tm.next hT hW).lt hT)) (by omega) hgo.ok.p HP9.out (fun x hx => by have := hT.p.ps x hx; omega) hT.pc)
  clear hf hfv hm hpd hg hF hfb hcc
  refine wp_words (by kernel_rfl) (region_told_u 30 (by kernel_rfl) (by kernel_rfl) [false, false, (!F), false, false, (F && f), (F && f), ((F && f) || !f), ((F && f) || !f), ((F && f) || !f), ((F && f) || !f), (F && f), false, false, (F && f || f && g), (F && f || f && g), (F && f || f && g), (F && f || f && g), (F && f || f && g), (F && f || f && g), false, false, (F && f || f && g || m), (F && f || f && g || m), (F && f || f && g || m), (F && f || f && g || m), (F && f || f && g || m), (F && f || f && g || m), (F && f || f && g || m), (F && f || f && g || m), false] (fun W => Below wv.heap.size wv W) newer [vIs (.bool F), vIs (.bool F), vIs ((bif (!F) then undef else .bool f)), vIs (.bool (F && f)), vIs (.bool (F && f)), vIs ((bif (F && f) then undef else .bool f)), vIs ((bif (F && f) then undef else .bool f)), vIs ((bif ((F && f) || !f) then undef else .agg (stC s))), vIs ((bif ((F && f) || !f) then undef else vi s.p.sum)), vIs ((bif ((F && f) || !f) then undef else vi cc)), vIs ((bif ((F && f) || !f) then undef else .bool g)), vIs ((bif (F && f) then undef else .bool (f && g))), vIs (.bool (F && f || f && g)), vIs (.bool (F && f || f && g)), vIs ((bif (F && f || f && g) then undef else .pointer (some ⟨T.qb, 0, none⟩))), vIs ((bif (F && f || f && g) then undef else .pointer (some ⟨T.qb, 0, none⟩))), vIs ((bif (F && f || f && g) then undef else .pointer (some ⟨T.qb, 7, none⟩))), vIs ((bif (F && f || f && g) then undef else .map (some T.mb))), vIs ((bif (F && f || f && g) then undef else .agg (stC s))), vIs ((bif (F && f || f && g) then undef else .bool m)), vIs (.bool (F && f || f && g || m)), vIs (.bool (F && f || f && g || m)), vIs ((bif (F && f || f && g || m) then undef else .pointer (some ⟨T.qb, 0, none⟩))), vIs ((bif (F && f || f && g || m) then undef else .pointer (some ⟨T.qb, 0, none⟩))), vIs ((bif (F && f || f && g || m) then undef else .pointer (some ⟨T.qb, 0, none⟩))), vIs ((bif (F && f || f && g || m) then undef else pmV T.p)), vIs ((bif (F && f || f && g || m) then undef else .pointer (some ⟨sb, 21, none⟩))), vIs ((bif (F && f || f && g || m) then undef else .agg (sp5 s.p))), vIs ((bif (F && f || f && g || m) then undef else .bool pd)), vIs ((bif (F && f || f && g || m) then undef else .bool (!pd)))] ⟨rfl, rfl, (fun v W h => by obtain rfl : v = _ := h; exact gdT F), rfl, rfl, (fun v W h => by obtain rfl : v = _ := h; exact gdF (F && f)), (fun v W h => by obtain rfl : v = _ := h; exact gdF (F && f)), (fun v W h => by obtain rfl : v = _ := h; exact gdN (F && f) f), (fun v W h => by obtain rfl : v = _ := h; exact gdN (F && f) f), (fun v W h => by obtain rfl : v = _ := h; exact gdN (F && f) f), (fun v W h => by obtain rfl : v = _ := h; exact gdN (F && f) f), (fun v W h => by obtain rfl : v = _ := h; exact gdF (F && f)), rfl, rfl, (fun v W h => by obtain rfl : v = _ := h; exact gdF (F && f || f && g)), (fun v W h => by obtain rfl : v = _ := h; exact gdF (F && f || f && g)), (fun v W h => by obtain rfl : v = _ := h; exact gdF (F && f || f && g)), (fun v W h => by obtain rfl : v = _ := h; exact gdF (F && f || f && g)), (fun v W h => by obtain rfl : v = _ := h; exact gdF (F && f || f && g)), (fun v W h => by obtain rfl : v = _ := h; exact gdF (F && f || f && g)), rfl, rfl, (fun v W h => by obtain rfl : v = _ := h; exact gdF (F && f || f && g || m)), (fun v W h => by obtain rfl : v = _ := h; exact gdF (F && f || f && g || m)), (fun v W h => by obtain rfl : v = _ := h; exact gdF (F && f || f && g || m)), (fun v W h => by obtain rfl : v = _ := h; exact gdF (F && f || f && g || m)), (fun v W h => by obtain rfl : v = _ := h; exact gdF (F && f || f && g || m)), (fun v W h => by obtain rfl : v = _ := h; exact gdF (F && f || f && g || m)), (fun v W h => by obtain rfl : v = _ := h; exact gdF (F && f || f && g || m)), (fun v W h => by obtain rfl : v = _ := h; exact gdF (F && f || f && g || m)), trivial⟩ ⟨(fun h => Bool.noConfusion (show false = true from h)), (fun h => Bool.noConfusion (show false = true from h)), (fun h W => skw h W), (fun h => Bool.noConfusion (show false = true from h)), (fun h => Bool.noConfusion (show false = true from h)), (fun h W => skw h W), (fun h W => skw h W), (fun h W => skw h W), (fun h W => skw h W), (fun h W => skw h W), (fun h W => skw h W), (fun h W => skw h W), (fun h => Bool.noConfusion (show false = true from h)), (fun h => Bool.noConfusion (show false = true from h)), (fun h W => skw h W), (fun h W => skw h W), (fun h W => skw h W), (fun h W => skw h W), (fun h W => skw h W), (fun h W => skw h W), (fun h => Bool.noConfusion (show false = true from h)), (fun h => Bool.noConfusion (show false = true from h)), (fun h W => skw h W), (fun h W => skw h W), (fun h W => skw h W), (fun h W => skw h W), (fun h W => skw h W), (fun h W => skw h W), (fun h W => skw h W), (fun h W => skw h W), trivial⟩ (fun h k => newer_trans h k) (pickD_stable _ (by repeat' first | refine And.intro ?_ ?_ | exact trivial | exact vIs_st)) (Below.refl _ wv).drew (Below.refl _ _) ?_ ?_)
  ·refine ⟨?_, ?_, ?_, ?_, ?_, ?_, ?_, ?_, ?_, ?_, ?_, ?_, ?_, ?_, ?_, ?_, ?_, ?_, ?_, ?_, ?_, ?_, ?_, ?_, ?_, ?_, ?_, ?_, ?_, ?_, trivial⟩
   ·refine .inr ?_
    intro a W hG hR hO hp
    have h2 := hO.slot 2 (by kernel_rfl)
    have c0 := keep_cell cF hG
    refine wp_yields (v := .bool F) ?_ ⟨_, rfl, rfl, Below.refl _ _, hG⟩
    simp [slotOf] at h2
    simp [execOp, go_sem, h2, c0]
   ·refine .inr ?_
    intro a W hG hR hO hp
    have h13 : slotOf a 13 = .bool F := hp.1
    refine wp_yields (v := .bool F) ?_ ⟨_, rfl, rfl, Below.refl _ _, hG⟩
    simp [slotOf] at h13
    simp [execOp, go_sem, h13]
   ·rcases Bool.eq_false_or_eq_true ((!F)) with hs | hs
    ·exact .inl hs
    refine .inr ?_
    intro a W hG hR hO hp
    have h3 := hO.slot 3 (by kernel_rfl)
    have c0 := keep_cell cO hG
    refine wp_yields (v := .bool f) ?_ ⟨_, rfl, (by rw [hs]; rfl), Below.refl _ _, hG⟩
    simp [slotOf] at h3
    simp [execOp, go_sem, h3, c0]
   ·refine .inr ?_
    intro a W hG hR hO hp
    have h14 : slotOf a 14 = .bool F := hp.1
    have h15 : slotOf a 15 = (bif (!F) then undef else .bool f) := hp.2.1
    refine wp_yields (v := .bool (F && f)) ?_ ⟨_, rfl, rfl, Below.refl _ _, hG⟩
    cases F <;> simp [slotOf] at h14 h15 <;> simp [execOp, go_sem, h14, h15]
   ·refine .inr ?_
    intro a W hG hR hO hp
    have h16 : slotOf a 16 = .bool (F && f) := hp.1
    refine wp_yields (v := .bool (F && f)) ?_ ⟨_, rfl, rfl, Below.refl _ _, hG⟩
    simp [slotOf] at h16
    simp [execOp, go_sem, h16]
   ·rcases Bool.eq_false_or_eq_true ((F && f)) with hs | hs
    ·exact .inl hs
    refine .inr ?_
    intro a W hG hR hO hp
    have h3 := hO.slot 3 (by kernel_rfl)
    have c0 := keep_cell cO hG
    refine wp_yields (v := .bool f) ?_ ⟨_, rfl, (by rw [hs]; rfl), Below.refl _ _, hG⟩
    simp [slotOf] at h3
    simp [execOp, go_sem, h3, c0]
   ·rcases Bool.eq_false_or_eq_true ((F && f)) with hs | hs
    ·exact .inl hs
    refine .inr ?_
    intro a W hG hR hO hp
    have h18 : slotOf a 18 = (bif (F && f) then undef else .bool f) := hp.1
    rw [hs, cond_false] at h18
    refine wp_yields (v := .bool f) ?_ ⟨_, rfl, (by rw [hs]; rfl), Below.refl _ _, hG⟩
    simp [slotOf] at h18
    simp [execOp, go_sem, h18]
   ·rcases Bool.eq_false_or_eq_true (((F && f) || !f)) with hs | hs
    ·exact .inl hs
    refine .inr ?_
    intro a W hG hR hO hp
    have h9 := hO.slot 9 (by kernel_rfl)
    exact wp_yields (v := .agg (stC s)) (exec_load rfl ((eval_slot a 9).trans h9) (load_run (HF.out.sx.below hG HF.out.sx.lt))) ⟨_, rfl, (by rw [hs]; rfl), Below.refl _ _, hG⟩
   ·rcases Bool.eq_false_or_eq_true (((F && f) || !f)) with hs | hs
    ·exact .inl hs
    refine .inr ?_
    intro a W hG hR hO hp
    have h20 : slotOf a 20 = (bif ((F && f) || !f) then undef else .agg (stC s)) := hp.1
    rw [hs, cond_false] at h20
    refine wp_enters (f := 59) (args := #[.agg (stC s)]) ?_ ((cost_anyW s W hgo.ok HP9.out).mono ?_)
    ·simp [slotOf] at h20
     simp [go_sem, h20]
    ·rintro e w' ⟨rfl, hb⟩
     exact ⟨_, rfl, _, rfl, (by rw [hs]; rfl), hb, below_next hG hb⟩
   ·rcases Bool.eq_false_or_eq_true (((F && f) || !f)) with hs | hs
    ·exact .inl hs
    refine .inr ?_
    intro a W hG hR hO hp
    have h4 := hO.slot 4 (by kernel_rfl)
    have c0 := keep_cell cC hG
    refine wp_yields (v := vi cc) ?_ ⟨_, rfl, (by rw [hs]; rfl), Below.refl _ _, hG⟩
    simp [slotOf] at h4
    simp [execOp, go_sem, h4, c0]
   ·rcases Bool.eq_false_or_eq_true (((F && f) || !f)) with hs | hs
    ·exact .inl hs
    refine .inr ?_
    intro a W hG hR hO hp
    have h21 : slotOf a 21 = (bif ((F && f) || !f) then undef else vi s.p.sum) := hp.1
    rw [hs, cond_false] at h21
    have h22 : slotOf a 22 = (bif ((F && f) || !f) then undef else vi cc) := hp.2.1
    rw [hs, cond_false] at h22
    refine wp_yields (v := .bool g) ?_ ⟨_, rfl, (by rw [hs]; rfl), Below.refl _ _, hG⟩
    simp [slotOf] at h21 h22
    simp [execOp, go_sem, h21, h22, hge]
   ·rcases Bool.eq_false_or_eq_true ((F && f)) with hs | hs
    ·exact .inl hs
    refine .inr ?_
    intro a W hG hR hO hp
    have h19 : slotOf a 19 = (bif (F && f) then undef else .bool f) := hp.1
    rw [hs, cond_false] at h19
    have h23 : slotOf a 23 = (bif ((F && f) || !f) then undef else .bool g) := hp.2.1
    refine wp_yields (v := .bool (f && g)) ?_ ⟨_, rfl, (by rw [hs]; rfl), Below.refl _ _, hG⟩
    cases F <;> cases f <;> first | (exfalso; revert hs; decide) | (simp [slotOf] at h19 h23 <;> simp [execOp, go_sem, h19, h23])
   ·refine .inr ?_
    intro a W hG hR hO hp
    have h17 : slotOf a 17 = .bool (F && f) := hp.1
    have h24 : slotOf a 24 = (bif (F && f) then undef else .bool (f && g)) := hp.2.1
    refine wp_yields (v := .bool (F && f || f && g)) ?_ ⟨_, rfl, rfl, Below.refl _ _, hG⟩
    cases F <;> cases f <;> simp [slotOf] at h17 h24 <;> simp [execOp, go_sem, h17, h24]
   ·refine .inr ?_
    intro a W hG hR hO hp
    have h25 : slotOf a 25 = .bool (F && f || f && g) := hp.1
    refine wp_yields (v := .bool (F && f || f && g)) ?_ ⟨_, rfl, rfl, Below.refl _ _, hG⟩
    simp [slotOf] at h25
    simp [execOp, go_sem, h25]
   ·rcases Bool.eq_false_or_eq_true ((F && f || f && g)) with hs | hs
    ·exact .inl hs
    refine .inr ?_
    intro a W hG hR hO hp
    have h5 := hO.slot 5 (by kernel_rfl)
    have c0 := keep_cell cX hG
    refine wp_yields (v := .pointer (some ⟨T.qb, 0, none⟩)) ?_ ⟨_, rfl, (by rw [hs]; rfl), Below.refl _ _, hG⟩
    simp [slotOf] at h5
    simp [execOp, go_sem, h5, c0]
   ·rcases Bool.eq_false_or_eq_true ((F && f || f && g)) with hs | hs
    ·exact .inl hs
    refine .inr ?_
    intro a W hG hR hO hp
    have h27 : slotOf a 27 = (bif (F && f || f && g) then undef else .pointer (some ⟨T.qb, 0, none⟩)) := hp.1
    rw [hs, cond_false] at h27
    refine wp_yields (v := .pointer (some ⟨T.qb, 0, none⟩)) ?_ ⟨_, rfl, (by rw [hs]; rfl), Below.refl _ _, hG⟩
    simp [slotOf] at h27
    simp [execOp, go_sem, h27]
   ·rcases Bool.eq_false_or_eq_true ((F && f || f && g)) with hs | hs
    ·exact .inl hs
    refine .inr ?_
    intro a W hG hR hO hp
    have h28 : slotOf a 28 = (bif (F && f || f && g) then undef else .pointer (some ⟨T.qb, 0, none⟩)) := hp.1
    rw [hs, cond_false] at h28
    refine wp_yields (v := .pointer (some ⟨T.qb, 7, none⟩)) ?_ ⟨_, rfl, (by rw [hs]; rfl), Below.refl _ _, hG⟩
    simp [slotOf] at h28
    simp [execOp, go_sem, h28]
   ·rcases Bool.eq_false_or_eq_true ((F && f || f && g)) with hs | hs
    ·exact .inl hs
    refine .inr ?_
    intro a W hG hR hO hp
    have h29 : slotOf a 29 = (bif (F && f || f && g) then undef else .pointer (some ⟨T.qb, 7, none⟩)) := hp.1
    rw [hs, cond_false] at h29
    have c0 := keep_cell q7 hG
    refine wp_yields (v := .map (some T.mb)) ?_ ⟨_, rfl, (by rw [hs]; rfl), Below.refl _ _, hG⟩
    simp [slotOf] at h29
    simp [execOp, go_sem, h29, c0]
   ·rcases Bool.eq_false_or_eq_true ((F && f || f && g)) with hs | hs
    ·exact .inl hs
    refine .inr ?_
    intro a W hG hR hO hp
    have h9 := hO.slot 9 (by kernel_rfl)
    exact wp_yields (v := .agg (stC s)) (exec_load rfl ((eval_slot a 9).trans h9) (load_run (HF.out.sx.below hG HF.out.sx.lt))) ⟨_, rfl, (by rw [hs]; rfl), Below.refl _ _, hG⟩
   ·rcases Bool.eq_false_or_eq_true ((F && f || f && g)) with hs | hs
    ·exact .inl hs
    refine .inr ?_
    intro a W hG hR hO hp
    have h30 : slotOf a 30 = (bif (F && f || f && g) then undef else .map (some T.mb)) := hp.1
    rw [hs, cond_false] at h30
    have h31 : slotOf a 31 = (bif (F && f || f && g) then undef else .agg (stC s)) := hp.2.1
    rw [hs, cond_false] at h31
    refine wp_lookup_r (.tmp 30) (.tmp 31) 130 false rfl st_key Try.underlying130 (zero4 _) T.mb lp ((eval_slot a 30).trans h30) (HF.out.tm.map.next hG) ⟨s, hgo.inn hT.p⟩ ((eval_slot a 31).trans h31) ?_
    simp only [Bool.false_eq_true, if_false]
    rw [HLK.out]
    exact ⟨_, rfl, (by rw [hs]; rfl), Below.refl _ _, hG⟩
   ·refine .inr ?_
    intro a W hG hR hO hp
    have h26 : slotOf a 26 = .bool (F && f || f && g) := hp.1
    have h32 : slotOf a 32 = (bif (F && f || f && g) then undef else .bool m) := hp.2.1
    refine wp_yields (v := .bool (F && f || f && g || m)) ?_ ⟨_, rfl, rfl, Below.refl _ _, hG⟩
    (obtain ⟨z, hz⟩ : ∃ z, z = (F && f || f && g) := ⟨_, rfl⟩; rw [<- hz] at h26 h32 ⊢; cases z <;> simp [slotOf] at h26 h32 <;> simp [execOp, go_sem, h26, h32])
   ·refine .inr ?_
    intro a W hG hR hO hp
    have h33 : slotOf a 33 = .bool (F && f || f && g || m) := hp.1
    refine wp_yields (v := .bool (F && f || f && g || m)) ?_ ⟨_, rfl, rfl, Below.refl _ _, hG⟩
    simp [slotOf] at h33
    simp [execOp, go_sem, h33]
   ·rcases Bool.eq_false_or_eq_true ((F && f || f && g || m)) with hs | hs
    ·exact .inl hs
    refine .inr ?_
    intro a W hG hR hO hp
    have h5 := hO.slot 5 (by kernel_rfl)
    have c0 := keep_cell cX hG
    refine wp_yields (v := .pointer (some ⟨T.qb, 0, none⟩)) ?_ ⟨_, rfl, (by rw [hs]; rfl), Below.refl _ _, hG⟩
    simp [slotOf] at h5
    simp [execOp, go_sem, h5, c0]
   ·rcases Bool.eq_false_or_eq_true ((F && f || f && g || m)) with hs | hs
    ·exact .inl hs
    refine .inr ?_
    intro a W hG hR hO hp
    have h35 : slotOf a 35 = (bif (F && f || f && g || m) then undef else .pointer (some ⟨T.qb, 0, none⟩)) := hp.1
    rw [hs, cond_false] at h35
    refine wp_yields (v := .pointer (some ⟨T.qb, 0, none⟩)) ?_ ⟨_, rfl, (by rw [hs]; rfl), Below.refl _ _, hG⟩
    simp [slotOf] at h35
    simp [execOp, go_sem, h35]
   ·rcases Bool.eq_false_or_eq_true ((F && f || f && g || m)) with hs | hs
    ·exact .inl hs
    refine .inr ?_
    intro a W hG hR hO hp
    have h36 : slotOf a 36 = (bif (F && f || f && g || m) then undef else .pointer (some ⟨T.qb, 0, none⟩)) := hp.1
    rw [hs, cond_false] at h36
    refine wp_yields (v := .pointer (some ⟨T.qb, 0, none⟩)) ?_ ⟨_, rfl, (by rw [hs]; rfl), Below.refl _ _, hG⟩
    simp [slotOf] at h36
    simp [execOp, go_sem, h36]
   ·rcases Bool.eq_false_or_eq_true ((F && f || f && g || m)) with hs | hs
    ·exact .inl hs
    refine .inr ?_
    intro a W hG hR hO hp
    have h37 : slotOf a 37 = (bif (F && f || f && g || m) then undef else .pointer (some ⟨T.qb, 0, none⟩)) := hp.1
    rw [hs, cond_false] at h37
    have c0 := keep_cell q0 hG
    have c1 := keep_cell q1 hG
    have c2 := keep_cell q2 hG
    have c3 := keep_cell q3 hG
    have c4 := keep_cell q4 hG
    have c5 := keep_cell q5 hG
    refine wp_yields (v := pmV T.p) ?_ ⟨_, rfl, (by rw [hs]; rfl), Below.refl _ _, hG⟩
    simp [slotOf] at h37
    simp [execOp, go_sem, h37, c0, c1, c2, c3, c4, c5]
   ·rcases Bool.eq_false_or_eq_true ((F && f || f && g || m)) with hs | hs
    ·exact .inl hs
    refine .inr ?_
    intro a W hG hR hO hp
    have h9 := hO.slot 9 (by kernel_rfl)
    refine wp_yields (v := .pointer (some ⟨sb, 21, none⟩)) ?_ ⟨_, rfl, (by rw [hs]; rfl), Below.refl _ _, hG⟩
    simp [slotOf] at h9
    simp [execOp, go_sem, h9]
   ·rcases Bool.eq_false_or_eq_true ((F && f || f && g || m)) with hs | hs
    ·exact .inl hs
    refine .inr ?_
    intro a W hG hR hO hp
    have h39 : slotOf a 39 = (bif (F && f || f && g || m) then undef else .pointer (some ⟨sb, 21, none⟩)) := hp.1
    rw [hs, cond_false] at h39
    have c0 := keep_cell s21 hG
    have c1 := keep_cell s22 hG
    have c2 := keep_cell s23 hG
    have c3 := keep_cell s24 hG
    have c4 := keep_cell s25 hG
    refine wp_yields (v := .agg (sp5 s.p)) ?_ ⟨_, rfl, (by rw [hs]; rfl), Below.refl _ _, hG⟩
    simp [slotOf] at h39
    simp [execOp, go_sem, h39, c0, c1, c2, c3, c4]
   ·rcases Bool.eq_false_or_eq_true ((F && f || f && g || m)) with hs | hs
    ·exact .inl hs
    refine .inr ?_
    intro a W hG hR hO hp
    have h38 : slotOf a 38 = (bif (F && f || f && g || m) then undef else pmV T.p) := hp.1
    rw [hs, cond_false] at h38
    have h40 : slotOf a 40 = (bif (F && f || f && g || m) then undef else .agg (sp5 s.p)) := hp.2.1
    rw [hs, cond_false] at h40
    refine wp_enters (f := 60) (args := #[pmV T.p, .agg (sp5 s.p)]) ?_ ((HPD.out W hG).mono ?_)
    ·simp [slotOf] at h38 h40
     simp [go_sem, h38, h40]
    ·rintro e w' ⟨rfl, hb⟩
     exact ⟨_, rfl, _, rfl, (by rw [hs]; rfl), hb, below_next hG hb⟩
   ·rcases Bool.eq_false_or_eq_true ((F && f || f && g || m)) with hs | hs
    ·exact .inl hs
    refine .inr ?_
    intro a W hG hR hO hp
    have h41 : slotOf a 41 = (bif (F && f || f && g || m) then undef else .bool pd) := hp.1
    rw [hs, cond_false] at h41
    refine wp_yields (v := .bool (!pd)) ?_ ⟨_, rfl, (by rw [hs]; rfl), Below.refl _ _, hG⟩
    simp [slotOf] at h41
    simp [execOp, go_sem, h41]
  ·intro W hG hR
   rintro _ rfl _ rfl _ rfl _ rfl _ rfl _ rfl _ rfl _ rfl _ rfl _ rfl _ rfl _ rfl _ rfl _ rfl _ rfl _ rfl _ rfl _ rfl _ rfl _ rfl _ rfl _ rfl _ rfl _ rfl _ rfl _ rfl _ rfl _ rfl _ rfl _ rfl
   change wpList _ _ _ _ _ _
   simp only [Act.put, List.setIfInBounds_toArray, List.set_cons_zero, List.set_cons_succ, List.drop_succ_cons, List.drop_zero]
   clear cF cO cC cX q0 q1 q2 q3 q4 q5 q6 q7 s21 s22 s23 s24 s25 hR
   obtain ⟨z, hz⟩ : ∃ z, z = (F && f || f && g || m) := ⟨_, rfl⟩
   rw [<- hz] at HEQ ⊢
   clear hz
   cases z
   ·go_wp2_with fail
    go_meet
    exact ⟨by rw [<- HEQ.out]; rfl, HF.out.next hT hG⟩
   ·go_wp2_with fail
    go_meet
    exact ⟨by rw [<- HEQ.out]; rfl, HF.out.next hT hG⟩
 case rest =>
  obtain ⟨h43, hf⟩ := hcut
  subst h43
  have HF := Lib.hid hf
  clear hf
  cases hcb : cutB T M b s
  case true =>
   have HCB := Lib.hid hcb
   clear hcb
   go_wp2_with fail
   refine ⟨_, by simp [results, Try.results58, go_sem]; rfl, ⟨_, rfl⟩, lp, pv, ?_⟩
   rw [tryP_cut HCB.out]
   exact ⟨HS.out.1, HF.out.tm, HF.out.ow, .inl rfl, HF.out.mv⟩
  case false =>
   have HCB := Lib.hid hcb
   clear hcb
   go_upto_region 2 with fail
   have cX := HF.out.tm.xb.at 0 (v := .pointer (some ⟨T.qb, 0, none⟩)) rfl
   have q7 := HF.out.tm.q.at 7 (v := .map (some T.mb)) rfl
   refine wp_words (by kernel_rfl) (region_told 5 (by kernel_rfl) (by kernel_rfl) (fun W => Below wc.heap.size wc W) newer (pickD [vIs (.pointer (some ⟨T.qb, 0, none⟩)), vIs (.pointer (some ⟨T.qb, 0, none⟩)), vIs (.pointer (some ⟨T.qb, 7, none⟩)), vIs (.map (some T.mb)), vIs (.agg (stC s))]) (fun h k => newer_trans h k) (pickD_stable _ ⟨vIs_st, vIs_st, vIs_st, vIs_st, vIs_st, trivial⟩) (Below.refl _ wc).drew (Below.refl _ _) ?_ ?_)
   ·refine ⟨?_, ?_, ?_, ?_, ?_, trivial⟩
    ·intro a W hG hR hO hp; have h5 := hO.slot 5 (by kernel_rfl); have c0 := keep_cell cX hG; refine wp_yields (v := .pointer (some ⟨T.qb, 0, none⟩)) ?_ ⟨_, rfl, rfl, Below.refl _ _, hG⟩; simp [slotOf] at h5; simp [execOp, go_sem, h5, c0]
    ·intro a W hG hR hO hp; have h44 : slotOf a 44 = .pointer (some ⟨T.qb, 0, none⟩) := hp.1; refine wp_yields (v := .pointer (some ⟨T.qb, 0, none⟩)) ?_ ⟨_, rfl, rfl, Below.refl _ _, hG⟩; simp [slotOf] at h44; simp [execOp, go_sem, h44]
    ·intro a W hG hR hO hp; have h45 : slotOf a 45 = .pointer (some ⟨T.qb, 0, none⟩) := hp.1; refine wp_yields (v := .pointer (some ⟨T.qb, 7, none⟩)) ?_ ⟨_, rfl, rfl, Below.refl _ _, hG⟩; simp [slotOf] at h45; simp [execOp, go_sem, h45]
    ·intro a W hG hR hO hp; have h46 : slotOf a 46 = .pointer (some ⟨T.qb, 7, none⟩) := hp.1; have c0 := keep_cell q7 hG; refine wp_yields (v := .map (some T.mb)) ?_ ⟨_, rfl, rfl, Below.refl _ _, hG⟩; simp [slotOf] at h46; simp [execOp, go_sem, h46, c0]
    ·intro a W hG hR hO hp; have h9 := hO.slot 9 (by kernel_rfl); exact wp_yields (v := .agg (stC s)) (exec_load rfl ((eval_slot a 9).trans h9) (load_run (HF.out.sx.below hG HF.out.sx.lt))) ⟨_, rfl, rfl, Below.refl _ _, hG⟩
   ·intro W hG hR
    rintro _ rfl _ rfl _ rfl _ rfl _ rfl
    change wpList _ _ _ _ _ _
    simp only [Act.put, List.setIfInBounds_toArray, List.set_cons_zero, List.set_cons_succ, List.drop_succ_cons, List.drop_zero]
    refine wpList_update_r _ rfl (.tmp 47) (.tmp 48) (.const (.bool true)) 130 rfl st_key Try.underlying130 T.mb lp rfl (HF.out.tm.map.next hG) ⟨s, hgo.inn hT.p⟩ true rfl rfl ?_
    obtain ⟨lp1, hlp1⟩ : ∃ lp1, lp1 = putR (⟨s, hgo.inn hT.p⟩ : SxK) true lp := ⟨_, rfl⟩
    have HSM : Hid (Seen lp1 (s :: M)) := Lib.hid (by
     rw [hlp1]
     refine HS.out.1.put ⟨s, hgo.inn hT.p⟩ ?_
     have h := HCB.out
     unfold cutB at h
     rw [Bool.or_eq_false_iff, Bool.or_eq_false_iff] at h
     exact of_decide_eq_false h.1.2)
    rw [<- hlp1]
    have hf1 := (HF.out.next hT hG).put hT lp1
    have HF1 := Lib.hid hf1
    clear hlp1 hG hR cX q7 hf1
    go_upto_region 3 with fail
    refine genQ (TrF T s l n A c lp1 b pv sb lb w) HF1.out ?_
    clear HF1 HF hfv
    intro wv hf
    have HF := Lib.hid hf
    have cX := hf.tm.xb.at 0 (v := .pointer (some ⟨T.qb, 0, none⟩)) rfl
    have q2 := hf.tm.q.at 2 (v := .slice T.p.wa T.p.ws.length T.p.wc) rfl
    have s0 := hf.sx.at 0 (v := vi (s.n : Int)) rfl
    clear hf
    refine wp_words (by kernel_rfl) (region_told 8 (by kernel_rfl) (by kernel_rfl) (fun W => Below wv.heap.size wv W) newer (pickD [vIs (.pointer (some ⟨sb, 0, none⟩)), vIs (vi (s.n : Int)), vIs (.pointer (some ⟨T.qb, 0, none⟩)), vIs (.pointer (some ⟨T.qb, 0, none⟩)), vIs (.pointer (some ⟨T.qb, 0, none⟩)), vIs (.pointer (some ⟨T.qb, 2, none⟩)), vIs (.slice T.p.wa T.p.ws.length T.p.wc), vIs (vi (T.p.ws.length : Int))]) (fun h k => newer_trans h k) (pickD_stable _ ⟨vIs_st, vIs_st, vIs_st, vIs_st, vIs_st, vIs_st, vIs_st, vIs_st, trivial⟩) (Below.refl _ wv).drew (Below.refl _ _) ?_ ?_)
    ·refine ⟨?_, ?_, ?_, ?_, ?_, ?_, ?_, ?_, trivial⟩
     ·intro a W hG hR hO hp; have h9 := hO.slot 9 (by kernel_rfl); refine wp_yields (v := .pointer (some ⟨sb, 0, none⟩)) ?_ ⟨_, rfl, rfl, Below.refl _ _, hG⟩; simp [slotOf] at h9; simp [execOp, go_sem, h9]
     ·intro a W hG hR hO hp; have h49 : slotOf a 49 = .pointer (some ⟨sb, 0, none⟩) := hp.1; have c0 := keep_cell s0 hG; refine wp_yields (v := vi (s.n : Int)) ?_ ⟨_, rfl, rfl, Below.refl _ _, hG⟩; simp [slotOf] at h49; simp [execOp, go_sem, h49, c0]
     ·intro a W hG hR hO hp; have h5 := hO.slot 5 (by kernel_rfl); have c0 := keep_cell cX hG; refine wp_yields (v := .pointer (some ⟨T.qb, 0, none⟩)) ?_ ⟨_, rfl, rfl, Below.refl _ _, hG⟩; simp [slotOf] at h5; simp [execOp, go_sem, h5, c0]
     ·intro a W hG hR hO hp; have h51 : slotOf a 51 = .pointer (some ⟨T.qb, 0, none⟩) := hp.1; refine wp_yields (v := .pointer (some ⟨T.qb, 0, none⟩)) ?_ ⟨_, rfl, rfl, Below.refl _ _, hG⟩; simp [slotOf] at h51; simp [execOp, go_sem, h51]
     ·intro a W hG hR hO hp; have h52 : slotOf a 52 = .pointer (some ⟨T.qb, 0, none⟩) := hp.1; refine wp_yields (v := .pointer (some ⟨T.qb, 0, none⟩)) ?_ ⟨_, rfl, rfl, Below.refl _ _, hG⟩; simp [slotOf] at h52; simp [execOp, go_sem, h52]
     ·intro a W hG hR hO hp; have h53 : slotOf a 53 = .pointer (some ⟨T.qb, 0, none⟩) := hp.1; refine wp_yields (v := .pointer (some ⟨T.qb, 2, none⟩)) ?_ ⟨_, rfl, rfl, Below.refl _ _, hG⟩; simp [slotOf] at h53; simp [execOp, go_sem, h53]
     ·intro a W hG hR hO hp; have h54 : slotOf a 54 = .pointer (some ⟨T.qb, 2, none⟩) := hp.1; have c0 := keep_cell q2 hG; refine wp_yields (v := .slice T.p.wa T.p.ws.length T.p.wc) ?_ ⟨_, rfl, rfl, Below.refl _ _, hG⟩; simp [slotOf] at h54; simp [execOp, go_sem, h54, c0]
     ·intro a W hG hR hO hp; have h55 : slotOf a 55 = .slice T.p.wa T.p.ws.length T.p.wc := hp.1; refine wp_yields (v := vi (T.p.ws.length : Int)) ?_ ⟨_, rfl, rfl, Below.refl _ _, hG⟩; simp [slotOf] at h55; simp [go_sem, h55]
    ·intro W hG hR
     rintro _ rfl _ rfl _ rfl _ rfl _ rfl _ rfl _ rfl _ rfl
     change wpList _ _ _ _ _ _
     simp only [Act.put, List.setIfInBounds_toArray, List.set_cons_zero, List.set_cons_succ, List.drop_succ_cons, List.drop_zero]
     have HF2 := Lib.hid (HF.out.next hT hG)
     clear hG hR HF cX q2 s0
     by_cases hend : s.n = T.p.ws.length
     ·have hb : ((s.n : Int) == T.p.ws.length) = true := by rw [beq_iff_eq]; omega
      have HE := Lib.hid hend
      clear hend
      have cX := HF2.out.tm.xb.at 0 (v := .pointer (some ⟨T.qb, 0, none⟩)) rfl
      go_wp2_with (refine wpList_load_s (s := s) rfl (.tmp 9) rfl sb rfl HF2.out.sx ?_)
      refine (enough_anyW T.p T.wo T.mb T.qb s _ (HF2.out.tm.pm.ok (HF2.out.tm.lt hT)) HF2.out.tm.q hgo.ok hT.p.nn).mono ?_
      rintro e w1 ⟨rfl, hb1⟩
      have HF3 := Lib.hid (HF2.out.next hT hb1)
      clear hb1 HF2 cX hb
      cases hen : enoughB T.p.ns s.a
      case false =>
       have HEN := Lib.hid hen
       clear hen
       go_wp2_with fail
       refine ⟨_, by simp [results, Try.results58, go_sem]; rfl, ⟨_, rfl⟩, lp1, pv, ?_⟩
       have hr0 : r = 0 := by have := HE.out; omega
       subst hr0
       rw [tryP_end HCB.out, HEN.out]
       exact ⟨HSM.out, HF3.out.tm, HF3.out.ow, .inl rfl, HF3.out.mv⟩
      case true =>
       have HEN := Lib.hid hen
       clear hen
       go_upto_region 5 with fail
       have cL := HF3.out.lx.at 0 (v := .slice A n c) rfl
       refine wp_words (by kernel_rfl) (region_told 4 (by kernel_rfl) (by kernel_rfl) (fun W => Below w1.heap.size w1 W) newer (pickD [vIs (.slice A n c), vClo T.base n l w1.heap.size, vIs (.agg (stC s)), vIs (vi s.p.sum)]) (fun h k => newer_trans h k) (pickD_stable _ ⟨vIs_st, vClo_st, vIs_st, vIs_st, trivial⟩) (Below.refl _ w1).drew (Below.refl _ _) ?_ ?_)
       ·refine ⟨?_, ?_, ?_, ?_, trivial⟩
        ·intro a W hG hR hO hp; have h10 := hO.slot 10 (by kernel_rfl); have c0 := keep_cell cL hG; refine wp_yields (v := .slice A n c) ?_ ⟨_, rfl, rfl, Below.refl _ _, hG⟩; simp [slotOf] at h10; simp [execOp, go_sem, h10, c0]
        ·intro a W hG hR hO hp
         have h61 : slotOf a 61 = .slice A n c := hp.1
         have h61 : slotOf a 61 = .slice A n c := hp.1
         have hn8 := hgo.n
         have hw8 := hT.p.wn
         refine wp_enters (f := 62) (args := #[.slice A n c]) ?_ ((clone_n T l n HS.out.2.2.2 (by have := HS.out.2.2.1; omega) A c W ((HF3.out.next hT hG).tm.le) (HF3.out.next hT hG).ow HS.out.2.1).mono ?_)
         ·simp [slotOf] at h61
          simp [go_sem, h61]
         ·rintro e w' ⟨⟨v, rfl, hv⟩, hb⟩
          obtain ⟨B, c', e1, e2, e3, e4⟩ := hv
          exact ⟨_, rfl, _, rfl, ⟨B, c', e1, e2, e3, fun k hk => Nat.le_trans hG.size (e4 k hk)⟩, hb, below_next hG hb⟩
        ·intro a W hG hR hO hp; have h9 := hO.slot 9 (by kernel_rfl); exact wp_yields (v := .agg (stC s)) (exec_load rfl ((eval_slot a 9).trans h9) (load_run (HF3.out.sx.below hG HF3.out.sx.lt))) ⟨_, rfl, rfl, Below.refl _ _, hG⟩
        ·intro a W hG hR hO hp
         have h63 : slotOf a 63 = .agg (stC s) := hp.1
         refine wp_enters (f := 59) (args := #[.agg (stC s)]) ?_ ((cost_anyW s W hgo.ok HP9.out).mono ?_)
         ·simp [slotOf] at h63
          simp [go_sem, h63]
         ·rintro e w' ⟨rfl, hb⟩
          exact ⟨_, rfl, _, rfl, rfl, hb, below_next hG hb⟩
       ·intro W hG hR
        rintro _ rfl _ ⟨B, cB, rfl, hcl⟩ _ rfl _ rfl
        change wpList _ _ _ _ _ _
        simp only [Act.put, List.setIfInBounds_toArray, List.set_cons_zero, List.set_cons_succ, List.drop_succ_cons, List.drop_zero]
        have HF4 := Lib.hid (HF3.out.next hT hG)
        have HCL := Lib.hid hcl
        have hsz := HF3.out.mv.size
        have hcge : ∀ k, (Value.slice B n cB).ownBlock = some k -> w.heap.size <= k := fun k hk => Nat.le_trans hsz (hcl.2.2 k hk)
        have HGE := Lib.hid hcge
        clear hG hR cL hcl hcge hsz
        refine wpList_plain rfl fun K1 hK1 => wp_stores (W' := W.setCell ⟨T.pb, 0, none⟩ (.slice B n cB)) ?_ (hK1 _ _ ?_)
        ·have p0 := HF4.out.tm.pb.at 0 (v := pv) rfl
         have p1 := HF4.out.tm.pb.free 0
         simp [execOp, go_sem, p0, p1]
        refine wpList_plain rfl fun K2 hK2 => wp_stores (W' := (W.setCell ⟨T.pb, 0, none⟩ (.slice B n cB)).setCell ⟨T.cb, 0, none⟩ (vi s.p.sum)) ?_ (hK2 _ _ ?_)
        ·have h9 := HF4.out.tm.cb.far (p := ⟨T.pb, 0, none⟩) (by have := hT.pc'; dsimp only; omega) (.slice B n cB)
         have p0 := h9.at 0 (v := vi (costOf b)) rfl
         have p1 := h9.free 0
         simp [execOp, go_sem, p0, p1]
        refine wpList_plain rfl fun K3 hK3 => wp_stores (W' := ((W.setCell ⟨T.pb, 0, none⟩ (.slice B n cB)).setCell ⟨T.cb, 0, none⟩ (vi s.p.sum)).setCell ⟨T.ob, 0, none⟩ (.bool true)) ?_ (hK3 _ _ ?_)
        ·have h9 := (HF4.out.tm.ob.far (p := ⟨T.pb, 0, none⟩) (by have := hT.pc'; have := hT.co; dsimp only; omega) (.slice B n cB)).far (p := ⟨T.cb, 0, none⟩) (by have := hT.co; dsimp only; omega) (vi s.p.sum)
         have p0 := h9.at 0 (v := .bool b.isSome) rfl
         have p1 := h9.free 0
         simp [execOp, go_sem, p0, p1]
        simp only [Act.put]
        go_wp2_with fail
        refine ⟨_, by simp [results, Try.results58, go_sem]; rfl, ⟨_, rfl⟩, lp1, .slice B n cB, ?_⟩
        have hr0 : r = 0 := by have := HE.out; omega
        subst hr0
        rw [tryP_end HCB.out, HEN.out, if_pos rfl]
        have hln := HS.out.2.2.2
        have hfd := HF4.out.tm.found hT l s.p.sum (A := B) (ca := cB) HCL.out.2.1 (by rw [hln]; exact HCL.out.1)
        rw [hln] at hfd
        have hmv : Moved T (Value.slice A n c).ownBlock W _ := (((Moved.refl T _ W).set (p := ⟨T.pb, 0, none⟩) (.inl rfl) (.slice B n cB)).set (p := ⟨T.cb, 0, none⟩) (.inr (.inl rfl)) (vi s.p.sum)).set (p := ⟨T.ob, 0, none⟩) (.inr (.inr (.inl rfl))) (.bool true)
        have hmn : Moved T none W _ := (((Moved.refl T none W).set (p := ⟨T.pb, 0, none⟩) (.inl rfl) (.slice B n cB)).set (p := ⟨T.cb, 0, none⟩) (.inr (.inl rfl)) (vi s.p.sum)).set (p := ⟨T.ob, 0, none⟩) (.inr (.inr (.inl rfl))) (.bool true)
        exact ⟨HSM.out, hfd, hmn.own hT HF4.out.ow (by simp), .inr HGE.out, HF4.out.mv.trans hmv⟩
     ·have hb : ((s.n : Int) == T.p.ws.length) = false := by rw [beq_eq_false_iff_ne]; omega
      go_upto_region 6 with fail
      refine genQ (TrF T s l n A c lp1 b pv sb lb w) HF2.out ?_
      clear HF2
      intro wy hfy
      have HF2 := Lib.hid hfy
      clear hfy
      have hlt : s.n < T.p.ws.length := by have := hgo.n; omega
      obtain ⟨x, hx⟩ := get_of_lt hlt
      obtain ⟨r', rfl⟩ : ∃ r', r = r' + 1 := ⟨r - 1, by omega⟩
      have hwp := wdB_parts (hT.p.ws x (List.mem_of_getElem? hx))
      have HX := Lib.hid (And.intro hx hwp)
      have HIR := Lib.hid (HIH.out r' rfl)
      have hnB : ∀ k, (Value.slice A n c).ownBlock = some k -> k < wy.heap.size := fun k hk => Nat.lt_of_lt_of_le (HF2.out.ol k hk) HF2.out.mv.size
      have cX := HF2.out.tm.xb.at 0 (v := .pointer (some ⟨T.qb, 0, none⟩)) rfl
      have cT := HF2.out.tm.tb.at 0 (v := .func (.func 58) #[] (tpC T)) rfl
      have cL := HF2.out.lx.at 0 (v := .slice A n c) rfl
      have HLN : Hid (∀ k, k < T.base -> some k ≠ (Value.slice A n c).ownBlock) := Lib.hid HF2.out.lone
      have hxB : T.xb < T.base := by have := hT.xf; have := hT.fp; have := hT.pc'; have := hT.co; have := hT.oy; have := hT.yt; have := hT.tB; omega
      have HSZ := Lib.hid (show n <= 1000 /\ T.base <= wy.heap.size from ⟨by have := HS.out.2.2.1; have := hT.p.wn; omega, HF2.out.tm.le⟩)
      have HBD : Hid (∀ (y : Int) (V : World), (y = -1 ∨ (0 <= y /\ y <= 4)) -> PmOk T.p V -> Whole V T.qb 132 (plC T.p T.wo T.mb) -> Calls Try.prog 63 #[.pointer (some ⟨T.qb, 0, none⟩), .agg (stC s), vi y] V fun e w' => e = .returned (.agg (stC (bldS T.p.pj s y))) /\ newer V w') := Lib.hid (fun y V hy hV hQ => by
       have hxd : T.p.pj.works[s.n]? = some x.d := by simp [Pm.pj, hx]
       rw [bldS_at y hxd]
       exact build_any T.p T.wo T.mb T.qb s y x V hV hT.p hQ hgo.ok hx hy hgo.a6 HP9.out)
      obtain ⟨i0, hi0, hz0, hz1, hz2⟩ := info_parts Try.info3w
      have HI := Lib.hid (And.intro hi0 (And.intro hz0 (And.intro hz1 hz2)))
      clear hend hb hx hwp hi0 hz0 hz1 hz2
      refine wp_words (by kernel_rfl) (region_tale 7 (by kernel_rfl) (by kernel_rfl) 6 (fun W => wy.grownBy W (Value.slice A n c).ownBlock) (fun W => W.ownsRow T.base 3 1 (.slice A n c) n (l.map vi) /\ newer wy W) (relAt 6 (fun W W' => W.grownBy W' (Value.slice A n c).ownBlock)) (pickD [vIs (.func (.func 58) #[] (tpC T)), vIs (.pointer (some ⟨T.qb, 0, none⟩)), vIs (.agg (stC s)), vIs (.agg (stC (bldS T.p.pj s (-1)))), vIs (.slice A n c), vOne wy.heap.size 3 #[vi (-1)], vOn1 T.base A n c l (-1) wy]) (allBut_ok (fun _ _ h => grown_of_newer h _) _ ⟨vIs_st, vIs_st, vIs_st, vIs_st, vIs_st, vOne_grown hnB, vOn1_st, trivial⟩) (by decide) (grown_drew (grown_refl _ _)) ⟨HF2.out.ow, (Below.refl _ _).drew⟩ ?_ ?_)
      ·refine ⟨?_, ?_, ?_, ?_, ?_, ?_, ?_, trivial⟩
       ·intro a W hG hG1 hO hp; have h7 := hO.slot 7 (by kernel_rfl); have c0 := hG.cell cT (HLN.out T.tb hT.tB); refine wp_yields (v := .func (.func 58) #[] (tpC T)) ?_ ⟨_, rfl, rfl, newer_refl _, hG, fun _ h => h⟩; simp [slotOf] at h7; simp [execOp, go_sem, h7, c0]
       ·intro a W hG hG1 hO hp; have h5 := hO.slot 5 (by kernel_rfl); have c0 := hG.cell cX (HLN.out T.xb hxB); refine wp_yields (v := .pointer (some ⟨T.qb, 0, none⟩)) ?_ ⟨_, rfl, rfl, newer_refl _, hG, fun _ h => h⟩; simp [slotOf] at h5; simp [execOp, go_sem, h5, c0]
       ·intro a W hG hG1 hO hp; have h9 := hO.slot 9 (by kernel_rfl); exact wp_yields (v := .agg (stC s)) (exec_load rfl ((eval_slot a 9).trans h9) (load_run (HF2.out.sx.grown hG HF2.out.sne))) ⟨_, rfl, rfl, newer_refl _, hG, fun _ h => h⟩
       ·intro a W hG hG1 hO hp
        have h66 : slotOf a 66 = .pointer (some ⟨T.qb, 0, none⟩) := hp.1
        have h67 : slotOf a 67 = .agg (stC s) := hp.2.1
        refine wp_enters (f := 63) (args := #[.pointer (some ⟨T.qb, 0, none⟩), .agg (stC s), vi (-1)]) ?_ ((HBD.out (-1) W (.inl rfl) ((HF2.out.tm.grown hT hG (own_ge HF2.out.ow) (fun k hk => HF2.out.pn k hk)).pm.ok (Nat.le_trans (HF2.out.tm.lt hT) hG.size)) ((HF2.out.tm.grown hT hG (own_ge HF2.out.ow) (fun k hk => HF2.out.pn k hk)).q)).mono ?_)
        ·simp [slotOf] at h66 h67
         simp [go_sem, h66, h67]
        ·rintro e w' ⟨rfl, hb⟩
         exact ⟨_, rfl, _, rfl, rfl, hb, grown_below hG hb, fun _ h => ⟨own_below h.1 hb, newer_trans h.2 hb⟩⟩
       ·intro a W hG hG1 hO hp; have h10 := hO.slot 10 (by kernel_rfl); have c0 := hG.cell cL HF2.out.lne; refine wp_yields (v := .slice A n c) ?_ ⟨_, rfl, rfl, newer_refl _, hG, fun _ h => h⟩; simp [slotOf] at h10; simp [execOp, go_sem, h10, c0]
       ·intro a W hG hG1 hO hp; refine wp_makes (v := .slice (some ⟨W.heap.size, 0, none⟩) 1 1) (W' := W.alloc (.cells #[vi (-1)] 3)) ?_ ⟨_, rfl, ⟨_, rfl, hG.size, Whole.made _ _ _⟩, newer_allocH _ _, grown_alloc hG _, fun _ h => ⟨own_below h.1 (newer_allocH _ _), newer_trans h.2 (newer_allocH _ _)⟩⟩; simp [execOp, go_sem]
       ·intro a W hG hG1 hO hp; have h69 : slotOf a 69 = .slice A n c := hp.1; have h70 := hp.2.1; obtain ⟨nb, h70, hnb, hW⟩ := h70; obtain ⟨ho, hnw⟩ := hG1 rfl; obtain ⟨hi0, hz0, hz1, hz2⟩ := HI.out; have hsz := HSZ.out; refine wp_append_one (.tmp 69) (.tmp 70) 26 rfl T.base 3 i0 (.int .i64 0) 8 Try.underlying26 hi0 hz0 hz1 hz2 rfl A n c (l.map vi) ((eval_slot a 69).trans h69) ho ⟨nb, 0, none⟩ 1 (vi (-1)) ((eval_slot a 70).trans h70) (hW.at 0 rfl) rfl (by unfold maxLen; omega) (by omega) (Nat.le_trans hsz.2 hG.size) ?_; intro g c' w1 hown hon0; have hon : Onto1 A c g c' W w1 := hon0; exact ⟨_, rfl, ⟨g, c', rfl, hown, hon.ahead hnw⟩, hon.grown, grown_trans' hG hon.grown, fun e => absurd rfl e⟩
      ·intro W hG
       rintro _ rfl _ rfl _ rfl _ rfl _ rfl _ hv70 _ ⟨g, c2, rfl, hown, hon⟩
       change wpList _ _ _ _ _ _
       simp only [Act.put, List.setIfInBounds_toArray, List.set_cons_zero, List.set_cons_succ, List.drop_succ_cons, List.drop_zero]
       obtain ⟨s1, hs1⟩ : ∃ s1, s1 = bldS T.p.pj s (-1) := ⟨_, rfl⟩
       have HCC := Lib.hid (child_call hT HIR.out HF2.out HX.out.1 hgo hr HS.out.2.2.1 HS.out.2.2.2 HSM.out (-1) hon hown)
       rw [<- hs1] at HCC ⊢
       have HS1 := Lib.hid hs1
       clear hon hown hs1 hG cX cT cL hnB hv70
       obtain ⟨ar, har⟩ : ∃ ar, ar = #[Value.agg (stC s1), .slice (some ⟨g, 0, none⟩) (n + 1) c2] ++ tpC T := ⟨_, rfl⟩
       rw [<- har] at HCC
       refine wpList_plain rfl fun K1 hK1 => wp_enters (f := 58) (args := ar) ?_ ((HCC.out).mono ?_)
       ·rw [har]
        simp [go_sem]
       rintro e w2 ⟨⟨v, rfl⟩, lp2, pv2, hs2, hf2, hp2, -⟩
       refine ⟨_, rfl, hK1 _ _ ?_⟩
       clear hK1 HCC
       simp only [Act.put]
       obtain ⟨st1, hst1⟩ : ∃ st1, st1 = tryP (srch T.p.pj T.wo) T.fst r' s1 (l ++ [-1]) (s :: M, b) := ⟨_, rfl⟩
       rw [<- hst1] at hs2 hf2
       have HST := Lib.hid hst1
       have HSS : Hid (Seen lp2 st1.1 /\ pvNew pv pv2 w) := Lib.hid ⟨hs2, hp2.imp id (fun h k hk => Nat.le_trans HF2.out.mv.size (h k hk))⟩
       have HF3 := Lib.hid hf2
       clear hst1 hs2 hf2 hp2 HF2
       go_upto_region 7 with fail
       refine genQ (TrF T s l n A c lp2 st1.2 pv2 sb lb w) HF3.out ?_
       clear HF3
       intro w3 hf
       have q2 := hf.tm.q.at 2 (v := .slice T.p.wa T.p.ws.length T.p.wc) rfl
       obtain ⟨b2, o2, e2, _, d0, d1, d2, d3, d4, d5⟩ := row6 (hf.tm.pm.ok (hf.tm.lt hT)).ws HX.out.1
       rw [e2] at q2
       clear e2
       have cX := hf.tm.xb.at 0 (v := .pointer (some ⟨T.qb, 0, none⟩)) rfl
       have s0 := hf.sx.at 0 (v := vi (s.n : Int)) rfl
       have hsni : (s.n : Int) < T.p.ws.length := by omega
       have HF3 := Lib.hid hf
       clear hf
       refine wp_words (by kernel_rfl) (region_told 10 (by kernel_rfl) (by kernel_rfl) (fun W => Below w3.heap.size w3 W) newer (pickD [vIs (.pointer (some ⟨T.qb, 0, none⟩)), vIs (.pointer (some ⟨T.qb, 0, none⟩)), vIs (.pointer (some ⟨T.qb, 0, none⟩)), vIs (.pointer (some ⟨T.qb, 2, none⟩)), vIs (.slice (some ⟨b2, o2, none⟩) T.p.ws.length T.p.wc), vIs (.pointer (some ⟨sb, 0, none⟩)), vIs (vi (s.n : Int)), vIs (.pointer (some ⟨b2, o2 + s.n * 6, none⟩)), vIs (wkV x), vNew w3.heap.size 78 #[vi 0, vi 0, vi 0, vi 0, vi 0, .slice none 0 0]]) (fun h k => newer_trans h k) (pickD_stable _ ⟨vIs_st, vIs_st, vIs_st, vIs_st, vIs_st, vIs_st, vIs_st, vIs_st, vIs_st, vNew_st, trivial⟩) (Below.refl _ w3).drew (Below.refl _ _) ?_ ?_)
       ·refine ⟨?_, ?_, ?_, ?_, ?_, ?_, ?_, ?_, ?_, ?_, trivial⟩
        ·intro a W hG hR hO hp; have h5 := hO.slot 5 (by kernel_rfl); have c0 := keep_cell cX hG; refine wp_yields (v := .pointer (some ⟨T.qb, 0, none⟩)) ?_ ⟨_, rfl, rfl, Below.refl _ _, hG⟩; simp [slotOf] at h5; simp [execOp, go_sem, h5, c0]
        ·intro a W hG hR hO hp; have h73 : slotOf a 73 = .pointer (some ⟨T.qb, 0, none⟩) := hp.1; refine wp_yields (v := .pointer (some ⟨T.qb, 0, none⟩)) ?_ ⟨_, rfl, rfl, Below.refl _ _, hG⟩; simp [slotOf] at h73; simp [execOp, go_sem, h73]
        ·intro a W hG hR hO hp; have h74 : slotOf a 74 = .pointer (some ⟨T.qb, 0, none⟩) := hp.1; refine wp_yields (v := .pointer (some ⟨T.qb, 0, none⟩)) ?_ ⟨_, rfl, rfl, Below.refl _ _, hG⟩; simp [slotOf] at h74; simp [execOp, go_sem, h74]
        ·intro a W hG hR hO hp; have h75 : slotOf a 75 = .pointer (some ⟨T.qb, 0, none⟩) := hp.1; refine wp_yields (v := .pointer (some ⟨T.qb, 2, none⟩)) ?_ ⟨_, rfl, rfl, Below.refl _ _, hG⟩; simp [slotOf] at h75; simp [execOp, go_sem, h75]
        ·intro a W hG hR hO hp; have h76 : slotOf a 76 = .pointer (some ⟨T.qb, 2, none⟩) := hp.1; have c0 := keep_cell q2 hG; refine wp_yields (v := .slice (some ⟨b2, o2, none⟩) T.p.ws.length T.p.wc) ?_ ⟨_, rfl, rfl, Below.refl _ _, hG⟩; simp [slotOf] at h76; simp [execOp, go_sem, h76, c0]
        ·intro a W hG hR hO hp; have h9 := hO.slot 9 (by kernel_rfl); refine wp_yields (v := .pointer (some ⟨sb, 0, none⟩)) ?_ ⟨_, rfl, rfl, Below.refl _ _, hG⟩; simp [slotOf] at h9; simp [execOp, go_sem, h9]
        ·intro a W hG hR hO hp; have h78 : slotOf a 78 = .pointer (some ⟨sb, 0, none⟩) := hp.1; have c0 := keep_cell s0 hG; refine wp_yields (v := vi (s.n : Int)) ?_ ⟨_, rfl, rfl, Below.refl _ _, hG⟩; simp [slotOf] at h78; simp [execOp, go_sem, h78, c0]
        ·intro a W hG hR hO hp; have h77 : slotOf a 77 = .slice (some ⟨b2, o2, none⟩) T.p.ws.length T.p.wc := hp.1; have h79 : slotOf a 79 = vi (s.n : Int) := hp.2.1; refine wp_yields (v := .pointer (some ⟨b2, o2 + s.n * 6, none⟩)) ?_ ⟨_, rfl, rfl, Below.refl _ _, hG⟩; simp [slotOf] at h77 h79; simp [execOp, go_sem, h77, h79, hsni]
        ·intro a W hG hR hO hp; have h80 : slotOf a 80 = .pointer (some ⟨b2, o2 + s.n * 6, none⟩) := hp.1; have c0 := keep_cell d0 hG; have c1 := keep_cell d1 hG; have c2 := keep_cell d2 hG; have c3 := keep_cell d3 hG; have c4 := keep_cell d4 hG; have c5 := keep_cell d5 hG; refine wp_yields (v := wkV x) ?_ ⟨_, rfl, rfl, Below.refl _ _, hG⟩; simp [slotOf] at h80; simp [execOp, go_sem, h80, c0, c1, c2, c3, c4, c5]
        ·intro a W hG hR hO hp; refine wp_makes (v := .pointer (some ⟨W.heap.size, 0, none⟩)) (W' := W.alloc (.cells #[vi 0, vi 0, vi 0, vi 0, vi 0, .slice none 0 0] 78)) ?_ ⟨_, rfl, ⟨_, rfl, hG.size, Whole.made _ _ _⟩, (Below.refl _ _).alloc (Nat.le_refl _) _, hG.alloc hG.size _⟩; skip; simp [execOp, go_sem]
       ·intro W hG hR
        rintro _ rfl _ rfl _ rfl _ rfl _ rfl _ rfl _ rfl _ rfl _ rfl _ ⟨xb, rfl, hxb, hwx⟩
        change wpList _ _ _ _ _ _
        simp only [Act.put, List.setIfInBounds_toArray, List.set_cons_zero, List.set_cons_succ, List.drop_succ_cons, List.drop_zero]
        have HF4 := Lib.hid (HF3.out.next hT hG)
        have HG := Lib.hid (And.intro hG hxb)
        have HWX := Lib.hid hwx
        have b0 := hwx.at 0 rfl
        have b1 := hwx.at 1 rfl
        have b2 := hwx.at 2 rfl
        have b3 := hwx.at 3 rfl
        have b4 := hwx.at 4 rfl
        have b5 := hwx.at 5 rfl
        have f0 := hwx.free 0
        have f1 := hwx.free 1
        have f2 := hwx.free 2
        have f3 := hwx.free 3
        have f4 := hwx.free 4
        have f5 := hwx.free 5
        clear hG hR hxb hwx cX q2 s0 d0 d1 d2 d3 d4 d5
        go_upto_region 8 with fail
        have HNB := Lib.hid (((((((HG.out.1).setCell (p := ⟨xb, 0, none⟩) HG.out.2 (vi x.d.price)).setCell (p := ⟨xb, 1, none⟩) HG.out.2 (vi x.d.first)).setCell (p := ⟨xb, 2, none⟩) HG.out.2 (vi x.d.last)).setCell (p := ⟨xb, 3, none⟩) HG.out.2 (vi x.d.age)).setCell (p := ⟨xb, 4, none⟩) HG.out.2 (vi x.d.village)).setCell (p := ⟨xb, 5, none⟩) HG.out.2 (.slice x.a x.d.adds.length x.cp))
        refine genQ (fun X => TrF T s l n A c lp2 st1.2 pv2 sb lb w X /\ Whole X xb 78 (wkC x)) ⟨HF3.out.next hT HNB.out, ((((((HWX.out).set 0 _).set 1 _).set 2 _).set 3 _).set 4 _).set 5 _⟩ ?_
        have HXB := Lib.hid (show w.heap.size <= xb from Nat.le_trans HF3.out.mv.size HG.out.2)
        clear HG HWX HF3 HF4 HNB b0 b1 b2 b3 b4 b5 f0 f1 f2 f3 f4 f5
        rintro w4 ⟨hf, hwx⟩
        have s0 := hf.sx.at 0 (v := vi (s.n : Int)) rfl
        have cX := hf.tm.xb.at 0 (v := .pointer (some ⟨T.qb, 0, none⟩)) rfl
        have q6 := hf.tm.q.at 6 (v := vi T.wo) rfl
        have cY := hf.tm.yb.at 0 (v := .func (.func 57) #[pmV T.p] #[]) rfl
        have x0 := hwx.at 0 (v := vi x.d.price) rfl
        have x1 := hwx.at 1 (v := vi x.d.first) rfl
        have x2 := hwx.at 2 (v := vi x.d.last) rfl
        have x3 := hwx.at 3 (v := vi x.d.age) rfl
        have x4 := hwx.at 4 (v := vi x.d.village) rfl
        have x5 := hwx.at 5 (v := .slice x.a x.d.adds.length x.cp) rfl
        have HF3 := Lib.hid (And.intro hf hwx)
        obtain ⟨e, he⟩ : ∃ e, e = decide ((s.n : Int) = T.wo) := ⟨_, rfl⟩
        obtain ⟨ag, hag⟩ : ∃ ag, ag = agreeB T.p.vs x.d := ⟨_, rfl⟩
        have hee : ((s.n : Int) == T.wo) = e := by rw [he]; rfl
        have HEQ : Hid ((e || !ag) = (decide ((s.n : Int) = T.wo) || !agreeB T.p.vs x.d)) := Lib.hid (by rw [<- he, <- hag])
        have HAG : Hid (∀ V, newer w4 V -> Calls Try.prog 57 #[pmV T.p, wkV x] V fun e w' => e = .returned (.bool ag) /\ newer V w') := Lib.hid (fun V hV => by
         rw [hag]
         have h4 := HX.out.2.2.2.2.1
         exact agreed_any T.p x V ((HF3.out.1.next hT hV).tm.pm.ok ((HF3.out.1.next hT hV).tm.lt hT)) (by simp only [inB, Bool.and_eq_true, decide_eq_true_eq]; exact h4))
        clear hf hwx he hag
        refine wp_words (by kernel_rfl) (region_told_u 12 (by kernel_rfl) (by kernel_rfl) [false, false, false, false, false, false, false, false, e, e, e, e] (fun W => Below w4.heap.size w4 W) newer [vIs (.pointer (some ⟨sb, 0, none⟩)), vIs (vi (s.n : Int)), vIs (.pointer (some ⟨T.qb, 0, none⟩)), vIs (.pointer (some ⟨T.qb, 0, none⟩)), vIs (.pointer (some ⟨T.qb, 6, none⟩)), vIs (vi T.wo), vIs (.bool e), vIs (.bool e), vIs ((bif e then undef else .func (.func 57) #[pmV T.p] #[])), vIs ((bif e then undef else wkV x)), vIs ((bif e then undef else .bool ag)), vIs ((bif e then undef else .bool (!ag)))] ⟨rfl, rfl, rfl, rfl, rfl, rfl, rfl, rfl, (fun v W h => by obtain rfl : v = _ := h; exact gdF e), (fun v W h => by obtain rfl : v = _ := h; exact gdF e), (fun v W h => by obtain rfl : v = _ := h; exact gdF e), (fun v W h => by obtain rfl : v = _ := h; exact gdF e), trivial⟩ ⟨(fun h => Bool.noConfusion (show false = true from h)), (fun h => Bool.noConfusion (show false = true from h)), (fun h => Bool.noConfusion (show false = true from h)), (fun h => Bool.noConfusion (show false = true from h)), (fun h => Bool.noConfusion (show false = true from h)), (fun h => Bool.noConfusion (show false = true from h)), (fun h => Bool.noConfusion (show false = true from h)), (fun h => Bool.noConfusion (show false = true from h)), (fun h W => skw h W), (fun h W => skw h W), (fun h W => skw h W), (fun h W => skw h W), trivial⟩ (fun h k => newer_trans h k) (pickD_stable _ (by repeat' first | refine And.intro ?_ ?_ | exact trivial | exact vIs_st)) (Below.refl _ w4).drew (Below.refl _ _) ?_ ?_)
        ·refine ⟨?_, ?_, ?_, ?_, ?_, ?_, ?_, ?_, ?_, ?_, ?_, ?_, trivial⟩
         ·refine .inr ?_
          intro a W hG hR hO hp
          have h9 := hO.slot 9 (by kernel_rfl)
          refine wp_yields (v := .pointer (some ⟨sb, 0, none⟩)) ?_ ⟨_, rfl, rfl, Below.refl _ _, hG⟩
          simp [slotOf] at h9
          simp [execOp, go_sem, h9]
         ·refine .inr ?_
          intro a W hG hR hO hp
          have h82 : slotOf a 82 = .pointer (some ⟨sb, 0, none⟩) := hp.1
          have c0 := keep_cell s0 hG
          refine wp_yields (v := vi (s.n : Int)) ?_ ⟨_, rfl, rfl, Below.refl _ _, hG⟩
          simp [slotOf] at h82
          simp [execOp, go_sem, h82, c0]
         ·refine .inr ?_
          intro a W hG hR hO hp
          have h5 := hO.slot 5 (by kernel_rfl)
          have c0 := keep_cell cX hG
          refine wp_yields (v := .pointer (some ⟨T.qb, 0, none⟩)) ?_ ⟨_, rfl, rfl, Below.refl _ _, hG⟩
          simp [slotOf] at h5
          simp [execOp, go_sem, h5, c0]
         ·refine .inr ?_
          intro a W hG hR hO hp
          have h84 : slotOf a 84 = .pointer (some ⟨T.qb, 0, none⟩) := hp.1
          refine wp_yields (v := .pointer (some ⟨T.qb, 0, none⟩)) ?_ ⟨_, rfl, rfl, Below.refl _ _, hG⟩
          simp [slotOf] at h84
          simp [execOp, go_sem, h84]
         ·refine .inr ?_
          intro a W hG hR hO hp
          have h85 : slotOf a 85 = .pointer (some ⟨T.qb, 0, none⟩) := hp.1
          refine wp_yields (v := .pointer (some ⟨T.qb, 6, none⟩)) ?_ ⟨_, rfl, rfl, Below.refl _ _, hG⟩
          simp [slotOf] at h85
          simp [execOp, go_sem, h85]
         ·refine .inr ?_
          intro a W hG hR hO hp
          have h86 : slotOf a 86 = .pointer (some ⟨T.qb, 6, none⟩) := hp.1
          have c0 := keep_cell q6 hG
          refine wp_yields (v := vi T.wo) ?_ ⟨_, rfl, rfl, Below.refl _ _, hG⟩
          simp [slotOf] at h86
          simp [execOp, go_sem, h86, c0]
         ·refine .inr ?_
          intro a W hG hR hO hp
          have h83 : slotOf a 83 = vi (s.n : Int) := hp.1
          have h87 : slotOf a 87 = vi T.wo := hp.2.1
          refine wp_yields (v := .bool e) ?_ ⟨_, rfl, rfl, Below.refl _ _, hG⟩
          simp [slotOf] at h83 h87
          simp [execOp, go_sem, h83, h87, hee]
         ·refine .inr ?_
          intro a W hG hR hO hp
          have h88 : slotOf a 88 = .bool e := hp.1
          refine wp_yields (v := .bool e) ?_ ⟨_, rfl, rfl, Below.refl _ _, hG⟩
          simp [slotOf] at h88
          simp [execOp, go_sem, h88]
         ·rcases Bool.eq_false_or_eq_true (e) with hs | hs
          ·exact .inl hs
          refine .inr ?_
          intro a W hG hR hO hp
          have h8 := hO.slot 8 (by kernel_rfl)
          have c0 := keep_cell cY hG
          refine wp_yields (v := .func (.func 57) #[pmV T.p] #[]) ?_ ⟨_, rfl, (by rw [hs]; rfl), Below.refl _ _, hG⟩
          simp [slotOf] at h8
          simp [execOp, go_sem, h8, c0]
         ·rcases Bool.eq_false_or_eq_true (e) with hs | hs
          ·exact .inl hs
          refine .inr ?_
          intro a W hG hR hO hp
          have h11 := hO.slot 11 (by kernel_rfl)
          have c0 := keep_cell x0 hG
          have c1 := keep_cell x1 hG
          have c2 := keep_cell x2 hG
          have c3 := keep_cell x3 hG
          have c4 := keep_cell x4 hG
          have c5 := keep_cell x5 hG
          refine wp_yields (v := wkV x) ?_ ⟨_, rfl, (by rw [hs]; rfl), Below.refl _ _, hG⟩
          simp [slotOf] at h11
          simp [execOp, go_sem, h11, c0, c1, c2, c3, c4, c5]
         ·rcases Bool.eq_false_or_eq_true (e) with hs | hs
          ·exact .inl hs
          refine .inr ?_
          intro a W hG hR hO hp
          have h90 : slotOf a 90 = (bif e then undef else .func (.func 57) #[pmV T.p] #[]) := hp.1
          rw [hs, cond_false] at h90
          have h91 : slotOf a 91 = (bif e then undef else wkV x) := hp.2.1
          rw [hs, cond_false] at h91
          refine wp_enters (f := 57) (args := #[pmV T.p, wkV x]) ?_ ((HAG.out W hG).mono ?_)
          ·simp [slotOf] at h90 h91
           simp [execOp, go_sem, h90, h91]
          ·rintro e w' ⟨rfl, hb⟩
           exact ⟨_, rfl, _, rfl, (by rw [hs]; rfl), hb, below_next hG hb⟩
         ·rcases Bool.eq_false_or_eq_true (e) with hs | hs
          ·exact .inl hs
          refine .inr ?_
          intro a W hG hR hO hp
          have h92 : slotOf a 92 = (bif e then undef else .bool ag) := hp.1
          rw [hs, cond_false] at h92
          refine wp_yields (v := .bool (!ag)) ?_ ⟨_, rfl, (by rw [hs]; rfl), Below.refl _ _, hG⟩
          simp [slotOf] at h92
          simp [execOp, go_sem, h92]
        ·intro W hG hR
         rintro _ rfl _ rfl _ rfl _ rfl _ rfl _ rfl _ rfl _ rfl _ rfl _ rfl _ rfl _ rfl
         change wpList _ _ _ _ _ _
         simp only [Act.put, List.setIfInBounds_toArray, List.set_cons_zero, List.set_cons_succ, List.drop_succ_cons, List.drop_zero]
         have HF4 := Lib.hid (And.intro (HF3.out.1.next hT hG) (HF3.out.2.below hG HF3.out.2.lt))
         clear cX q6 cY s0 x0 x1 x2 x3 x4 x5 hR hee
         clear hG
         cases e
         case true =>
          go_wp2_with fail
          refine ⟨_, by simp [results, Try.results58, go_sem]; rfl, ⟨_, rfl⟩, lp2, pv2, ?_⟩
          rw [tryP_kids HCB.out HX.out.1, if_pos (HEQ.out.symm.trans (show (true || !ag) = true from rfl)), <- HS1.out, <- HST.out]
          exact ⟨HSS.out.1, HF4.out.1.tm, HF4.out.1.ow, HSS.out.2, HF4.out.1.mv⟩
         case false =>
          cases ag
          case false =>
           go_wp2_with fail
           refine ⟨_, by simp [results, Try.results58, go_sem]; rfl, ⟨_, rfl⟩, lp2, pv2, ?_⟩
           rw [tryP_kids HCB.out HX.out.1, if_pos (HEQ.out.symm.trans (show (false || !false) = true from rfl)), <- HS1.out, <- HST.out]
           exact ⟨HSS.out.1, HF4.out.1.tm, HF4.out.1.ow, HSS.out.2, HF4.out.1.mv⟩
          case true =>
           have HNE : Hid (¬ (decide ((s.n : Int) = T.wo) || !agreeB T.p.vs x.d) = true) := Lib.hid (by rw [<- HEQ.out]; decide)
           go_upto_region 9 with fail
           refine genQ (fun X => TrF T s l n A c lp2 st1.2 pv2 sb lb w X /\ Whole X xb 78 (wkC x)) HF4.out ?_
           clear HF4 HF3 HEQ HAG
           rintro w5 ⟨hf, hwx⟩
           have x0 := hwx.at 0 (v := vi x.d.price) rfl
           have x1 := hwx.at 1 (v := vi x.d.first) rfl
           have x2 := hwx.at 2 (v := vi x.d.last) rfl
           have x3 := hwx.at 3 (v := vi x.d.age) rfl
           have x4 := hwx.at 4 (v := vi x.d.village) rfl
           have x5 := hwx.at 5 (v := .slice x.a x.d.adds.length x.cp) rfl
           have HF3 := Lib.hid (And.intro hf hwx)
           clear hf hwx
           go_wp2_with fail
           refine (years_any x _).mono ?_
           rintro e w6 ⟨rfl, hw6⟩
           have HF5 : Hid (TrF T s l n A c lp2 st1.2 pv2 sb lb w w6 /\ Whole w6 w5.heap.size 78 (wkC x) /\ lb < w5.heap.size /\ w5.heap.size < w6.heap.size) := Lib.hid (by
            have h1 : newer w5 w6 := hw6 ▸ newer_allocH w5 _
            have h2 : Whole w6 w5.heap.size 78 (wkC x) := hw6 ▸ Whole.made w5 78 (wkC x)
            exact ⟨HF3.out.1.next hT h1, h2, HF3.out.1.lx.lt, h2.lt⟩)
           obtain ⟨ybk, hyb⟩ : ∃ ybk, ybk = w5.heap.size := ⟨_, rfl⟩
           rw [<- hyb] at HF5 ⊢
           clear hyb hw6 HF3 x0 x1 x2 x3 x4 x5
           go_wp2_with fail
           refine (wpIn_wide (n := 9)).1 (range_law (gf := 91) (lb := #[.pointer (some ⟨ybk, 0, none⟩)]) rfl (enters_of Try.func91 (by kernel_rfl) rfl) ?_)
           intro r0 r1 r2 r3 r4 r5 r6
           have hyl := HF5.out.2.2.1
           have hyw := HF5.out.2.2.2
           refine (callsIn_wide.1 (years_in 8 (w6.heap.size + 1) ybk x HX.out.2.2.1.1 HX.out.2.2.1.2.1 (by have := HX.out.2.2.1.2.2; have := hT.p.years; omega) (fun k W => YrJ T s l n A c x pv sb lb ybk w6.heap.size r0 w (stY T r' s l x.d st1 k) W) ?hJ ?hY _ ?h0)).mono ?_
           case hJ => exact fun k W hj => hj.yb
           case h0 =>
            have h1 := newer_trans (newer_allocH w6 (.deferred (some []))) (newer_allocH (w6.alloc (.deferred (some []))) (.loop r0))
            refine ⟨⟨lp2, pv2, HSS.out.1, HF5.out.1.next hT h1, HSS.out.2⟩, HF5.out.2.1.below h1 HF5.out.2.1.lt, ?_, ?_⟩
            ·simp only [heap_if, World.size_alloc]
             repeat rw [if_neg (by omega)]
             rfl
            ·simp only [heap_if, World.size_alloc]
             repeat rw [if_neg (by omega)]
             rfl
           case hY =>
            intro k W hk hj
            refine yield_round (r := r0) hj.lo r1 r2 (by rw [r4]; rfl) ?_
            rw [r3, r4, r5, r6]
            simp only [List.zip_toArray, List.zip_cons_cons, List.zip_nil_right, List.foldl_toArray, List.foldl_cons, List.foldl_nil, List.setIfInBounds_toArray, List.set_cons_zero, List.set_cons_succ]
            gi_wp2_with fail
            refine ⟨hj.lo, ?_⟩
            have hj5 := hj.put hT (by omega) (by omega) (busyOf r0)
            obtain ⟨w7, hw7⟩ : ∃ w7, w7 = W.putObj (w6.heap.size + 1) (.loop (busyOf r0)) := ⟨_, rfl⟩
            rw [<- hw7] at hj5 ⊢
            clear hw7 hj W
            have HJ := Lib.hid hj5
            obtain ⟨⟨lp3, pv3, hs3, hf3, hp3⟩, -, -, -⟩ := hj5
            have HF6 := Lib.hid hf3
            have HS3 := Lib.hid (And.intro hs3 hp3)
            have hnB : ∀ k, (Value.slice A n c).ownBlock = some k -> k < w7.heap.size := fun k hk => Nat.lt_of_lt_of_le (hf3.ol k hk) hf3.mv.size
            have cX := hf3.tm.xb.at 0 (v := .pointer (some ⟨T.qb, 0, none⟩)) rfl
            have cT := hf3.tm.tb.at 0 (v := .func (.func 58) #[] (tpC T)) rfl
            have cL := hf3.lx.at 0 (v := .slice A n c) rfl
            have HSZ2 := Lib.hid (show n <= 1000 /\ T.base <= w7.heap.size from ⟨HSZ.out.1, hf3.tm.le⟩)
            have HY : Hid (0 <= x.d.first + (k : Int) /\ x.d.first + (k : Int) <= 4) := Lib.hid (by
             have h1 := HX.out.2.2.1
             have h2 := hT.p.years
             have h3 : (k : Int) < x.d.last + 1 - x.d.first := by unfold yearsN at hk; omega
             omega)
            clear HSZ
            have HSZ := HSZ2
            clear HSZ2 hs3 hf3 hp3 r1 r2 r3 r4 r5 r6
            gi_wp2_with fail
            refine round_words (by kernel_rfl) (by kernel_rfl) (fun _ _ h => h) (region_tale 9 (by kernel_rfl) (by kernel_rfl) 8 (fun W => w7.grownBy W (Value.slice A n c).ownBlock) (fun W => W.ownsRow T.base 3 1 (.slice A n c) n (l.map vi) /\ newer w7 W) (relAt 8 (fun W W' => W.grownBy W' (Value.slice A n c).ownBlock)) (pickD [vIs (.func (.func 58) #[] (tpC T)), vIs (.pointer (some ⟨T.qb, 0, none⟩)), vIs (.agg (stC s)), vIs (vi (x.d.first + (k : Int))), vIs (.agg (stC (bldS T.p.pj s (x.d.first + (k : Int))))), vIs (.slice A n c), vIs (vi (x.d.first + (k : Int))), vOne w7.heap.size 3 #[vi (x.d.first + (k : Int))], vOn1 T.base A n c l (x.d.first + (k : Int)) w7]) (allBut_ok (fun _ _ h => grown_of_newer h _) _ ⟨vIs_st, vIs_st, vIs_st, vIs_st, vIs_st, vIs_st, vIs_st, vOne_grown hnB, vOn1_st, trivial⟩) (by decide) (grown_drew (grown_refl _ _)) ⟨HF6.out.ow, (Below.refl _ _).drew⟩ ?_ ?_)
            ·refine ⟨?_, ?_, ?_, ?_, ?_, ?_, ?_, ?_, ?_, trivial⟩
             ·intro a W hG hG1 hO hp; have h7 := hO.slot 7 (by kernel_rfl); have c0 := hG.cell cT (HLN.out T.tb hT.tB); refine wp_yields (v := .func (.func 58) #[] (tpC T)) ?_ ⟨_, rfl, rfl, newer_refl _, hG, fun _ h => h⟩; simp [slotOf] at h7; simp [execOp, go_sem, h7, c0]
             ·intro a W hG hG1 hO hp; have h5 := hO.slot 5 (by kernel_rfl); have c0 := hG.cell cX (HLN.out T.xb hxB); refine wp_yields (v := .pointer (some ⟨T.qb, 0, none⟩)) ?_ ⟨_, rfl, rfl, newer_refl _, hG, fun _ h => h⟩; simp [slotOf] at h5; simp [execOp, go_sem, h5, c0]
             ·intro a W hG hG1 hO hp; have h9 := hO.slot 9 (by kernel_rfl); exact wp_yields (v := .agg (stC s)) (exec_load rfl ((eval_slot a 9).trans h9) (load_run (HF6.out.sx.grown hG HF6.out.sne))) ⟨_, rfl, rfl, newer_refl _, hG, fun _ h => h⟩
             ·intro a W hG hG1 hO hp; have h12 := hO.slot 12 (by kernel_rfl); refine wp_yields (v := vi (x.d.first + (k : Int))) ?_ ⟨_, rfl, rfl, newer_refl _, hG, fun _ h => h⟩; simp [slotOf] at h12; simp [execOp, go_sem, h12]
             ·intro a W hG hG1 hO hp
              have h99 : slotOf a 99 = .pointer (some ⟨T.qb, 0, none⟩) := hp.1
              have h100 : slotOf a 100 = .agg (stC s) := hp.2.1
              have h101 : slotOf a 101 = vi (x.d.first + (k : Int)) := hp.2.2.1
              refine wp_enters (f := 63) (args := #[.pointer (some ⟨T.qb, 0, none⟩), .agg (stC s), vi (x.d.first + (k : Int))]) ?_ ((HBD.out (x.d.first + (k : Int)) W (.inr HY.out) ((HF6.out.tm.grown hT hG (own_ge HF6.out.ow) (fun k hk => HF6.out.pn k hk)).pm.ok (Nat.le_trans (HF6.out.tm.lt hT) hG.size)) ((HF6.out.tm.grown hT hG (own_ge HF6.out.ow) (fun k hk => HF6.out.pn k hk)).q)).mono ?_)
              ·simp [slotOf] at h99 h100 h101
               simp [go_sem, h99, h100, h101]
              ·rintro e w' ⟨rfl, hb⟩
               exact ⟨_, rfl, _, rfl, rfl, hb, grown_below hG hb, fun _ h => ⟨own_below h.1 hb, newer_trans h.2 hb⟩⟩
             ·intro a W hG hG1 hO hp; have h10 := hO.slot 10 (by kernel_rfl); have c0 := hG.cell cL HF6.out.lne; refine wp_yields (v := .slice A n c) ?_ ⟨_, rfl, rfl, newer_refl _, hG, fun _ h => h⟩; simp [slotOf] at h10; simp [execOp, go_sem, h10, c0]
             ·intro a W hG hG1 hO hp; have h12 := hO.slot 12 (by kernel_rfl); refine wp_yields (v := vi (x.d.first + (k : Int))) ?_ ⟨_, rfl, rfl, newer_refl _, hG, fun _ h => h⟩; simp [slotOf] at h12; simp [execOp, go_sem, h12]
             ·intro a W hG hG1 hO hp; have h104 : slotOf a 104 = vi (x.d.first + (k : Int)) := hp.1; refine wp_makes (v := .slice (some ⟨W.heap.size, 0, none⟩) 1 1) (W' := W.alloc (.cells #[vi (x.d.first + (k : Int))] 3)) ?_ ⟨_, rfl, ⟨_, rfl, hG.size, Whole.made _ _ _⟩, newer_allocH _ _, grown_alloc hG _, fun _ h => ⟨own_below h.1 (newer_allocH _ _), newer_trans h.2 (newer_allocH _ _)⟩⟩; simp [slotOf] at h104; simp [execOp, go_sem, h104]
             ·intro a W hG hG1 hO hp; have h103 : slotOf a 103 = .slice A n c := hp.1; have h105 := hp.2.1; obtain ⟨nb, h105, hnb, hW⟩ := h105; obtain ⟨ho, hnw⟩ := hG1 rfl; obtain ⟨hi0, hz0, hz1, hz2⟩ := HI.out; have hsz := HSZ.out; refine wp_append_one (.tmp 103) (.tmp 105) 26 rfl T.base 3 i0 (.int .i64 0) 8 Try.underlying26 hi0 hz0 hz1 hz2 rfl A n c (l.map vi) ((eval_slot a 103).trans h103) ho ⟨nb, 0, none⟩ 1 (vi (x.d.first + (k : Int))) ((eval_slot a 105).trans h105) (hW.at 0 rfl) rfl (by unfold maxLen; omega) (by omega) (Nat.le_trans hsz.2 hG.size) ?_; intro g c' w1 hown hon0; have hon : Onto1 A c g c' W w1 := hon0; exact ⟨_, rfl, ⟨g, c', rfl, hown, hon.ahead hnw⟩, hon.grown, grown_trans' hG hon.grown, fun e => absurd rfl e⟩
            ·intro W hG
             rintro _ rfl _ rfl _ rfl _ rfl _ rfl _ rfl _ rfl _ hv105 _ ⟨g, c2, rfl, hown, hon⟩
             change wpList _ _ _ _ _ _
             simp only [Act.put, List.setIfInBounds_toArray, List.set_cons_zero, List.set_cons_succ, List.drop_succ_cons, List.drop_zero]
             obtain ⟨s3, hs3⟩ : ∃ s3, s3 = bldS T.p.pj s (x.d.first + (k : Int)) := ⟨_, rfl⟩
             have HCC := Lib.hid (child_call hT HIR.out HF6.out HX.out.1 hgo hr HS.out.2.2.1 HS.out.2.2.2 HS3.out.1 (x.d.first + (k : Int)) hon hown)
             rw [<- hs3] at HCC ⊢
             have HS4 := Lib.hid hs3
             clear hon hown hs3 hG cX cT cL hnB hv105
             obtain ⟨ar, har⟩ : ∃ ar, ar = #[Value.agg (stC s3), .slice (some ⟨g, 0, none⟩) (n + 1) c2] ++ tpC T := ⟨_, rfl⟩
             rw [<- har] at HCC
             refine wpList_plain rfl fun K1 hK1 => wp_enters (f := 58) (args := ar) ?_ ((HCC.out).mono ?_)
             ·rw [har]
              simp [go_sem]
             rintro e w8 ⟨⟨v, rfl⟩, lp4, pv4, hs4, hf4, hp4, hm4⟩
             refine ⟨_, rfl, hK1 _ _ ?_⟩
             clear hK1 HCC
             simp only [Act.put]
             have hbase : T.base <= ybk := by have := HF6.out.le; have := HF6.out.hl; omega
             have hfar : ∀ q, lb < q -> some q ≠ (Value.slice A n c).ownBlock := fun q hq e => by have := HF6.out.ol q e.symm; have := HF6.out.hl; omega
             have hD := (Array.getElem?_eq_some_iff.1 HJ.out.lo).1
             have k2 := hT.mx
             have k3 := hT.xf
             have k4 := hT.fp
             have k5 := hT.pc'
             have k6 := hT.co
             have k7 := hT.oy
             have k8 := hT.yt
             have k9 := hT.tB
             have hyb8 : YrJ T s l n A c x pv sb lb ybk w6.heap.size (busyOf r0) w (stY T r' s l x.d st1 (k + 1)) w8 := by
              refine ⟨⟨lp4, pv4, ?_, ?_, HS3.out.2.trans hp4 HF6.out.mv.size⟩, hm4.high hT HJ.out.yb hbase (hfar _ (by omega)), ?_, ?_⟩
              ·rw [stY_succ, <- HS4.out]
               exact hs4
              ·rw [stY_succ, <- HS4.out]
               exact hf4
              ·exact (hm4.block _ (by omega) (by omega) (by omega) (by omega) (by omega) (hfar _ (by omega))).trans HJ.out.df
              ·exact (hm4.block _ (by omega) (by omega) (by omega) (by omega) (by omega) (hfar _ (by omega))).trans HJ.out.lo
             have HX8 := Lib.hid (And.intro hyb8.lo (hyb8.put hT (by omega) (by omega) r0))
             clear hyb8 hbase hfar hD k2 k3 k4 k5 k6 k7 k8 k9 hm4 hp4 hf4 hs4
             go_wp2_with fail
             refine onlyN_intro ?_
             gi_wp2_with fail
             exact ⟨HX8.out.1, rfl, HX8.out.2⟩
           ·rintro e W ⟨⟨v, rfl⟩, hj⟩
            refine ⟨⟨_, rfl⟩, .inl ⟨hj.lo, ?_⟩⟩
            have HJ := Lib.hid (hj.put hT (by omega) (by omega) (overOf r0))
            clear hj r1 r2 r3 r4 r5 r6
            go_wp2_with fail
            refine ⟨by simp, .inl ⟨_, _, rfl, run_takeDeferred HJ.out.df, ?_⟩⟩
            obtain ⟨⟨lp3, pv3, h1, h2, h3⟩, h4, h5, h6⟩ := HJ.out
            have h7 := h2.side hT h5 (fun _ _ _ e => by cases e) (grown_putL _ _ (.deferred none)) (by omega)
            refine ⟨_, by simp [results, Try.results58, go_sem]; rfl, ⟨_, rfl⟩, lp3, pv3, ?_⟩
            rw [tryP_kids HCB.out HX.out.1, if_neg HNE.out, <- HS1.out, <- HST.out]
            exact ⟨h1, h7.tm, h7.ow, h3, h7.mv⟩
theorem try_any (T : TP) (hT : TpOk T) : ∀ r, TryC T r
 | 0 => try_step T hT 0 (fun _ h => by omega)
 | r + 1 => try_step T hT (r + 1) (fun r' h => by
  have e : r = r' := by omega
  exact e ▸ try_any T hT r)
end

section
open Go.RowKit Go.Deep
open Go.ChangeMaps (setBlock)
def bestD (first : Bool) (q : Pj) (wo : Int) : Option (List Int × Int) := (tryP (srch q wo) first (q.works.length - sx0.n) sx0 [] ([], none)).2
set_option maxRecDepth 100000 in
set_option maxHeartbeats 2000000 in
theorem plans_any (p : Pm) (wo : Int) (w : World) :
  Calls Try.prog 28 #[pmV p, vi wo] w fun e w' => ∃ qb mb, e = .returned (.pointer (some ⟨qb, 0, none⟩)) /\ newer w w' /\ Whole w' qb 132 (plC p wo mb) /\ RMap ekS evB mb [] w' /\ w.heap.size <= mb /\ w.heap.size <= qb /\ qb ≠ mb := by
 have h0 := Whole.made w 55 (pmC p)
 have q0 := h0.at 0 (v := vi p.years) rfl
 have q1 := h0.at 1 (v := vi p.slopes) rfl
 have q2 := h0.at 2 (v := .slice p.wa p.ws.length p.wc) rfl
 have q3 := h0.at 3 (v := .slice p.na p.ns.length p.nc) rfl
 have q4 := h0.at 4 (v := .slice p.va p.vs.length p.vc) rfl
 have q5 := h0.at 5 (v := .slice p.pa p.ps.length p.pc) rfl
 clear h0
 go_enter Try.func28, Try.ntmps28
 go_wp2_with fail
 rw [run_makeMap]
 obtain ⟨w1, hw1⟩ : ∃ w1, w1 = (w.alloc (.cells (pmC p) 55)).alloc (.map #[] 0) := ⟨_, rfl⟩
 have hs : (w.alloc (.cells (pmC p) 55)).heap.size = w.heap.size + 1 := by simp
 rw [<- hw1, hs]
 go_wp2_with fail
 go_ret
 have h1 : newer w ((w.alloc (.cells (pmC p) 55)).alloc (.map #[] 0)) := newer_trans (newer_allocH w _) (newer_allocH _ _)
 have h2 := RMap.made ekS evB (w.alloc (.cells (pmC p) 55))
 have h3 := Whole.made ((w.alloc (.cells (pmC p) 55)).alloc (.map #[] 0)) 132 (plC p wo (w.heap.size + 1))
 simp only [World.size_alloc] at h2 h3
 exact ⟨w.heap.size + 1 + 1, w.heap.size + 1, rfl, newer_trans h1 (newer_allocH _ _), h3, h2.next (newer_allocH _ _), by omega, by omega, by omega⟩
abbrev tpOf (p : Pm) (wo : Int) (fst : Bool) (B qb mb s : Nat) : TP := ⟨p, wo, fst, B, qb, mb, s, s + 1, s + 1 + 1, s + 1 + 1 + 1, s + 1 + 1 + 1 + 1, s + 1 + 1 + 1 + 1 + 1, s + 1 + 1 + 1 + 1 + 1 + 1, s + 1 + 1 + 1 + 1 + 1 + 1 + 1⟩
set_option maxRecDepth 100000 in
set_option maxHeartbeats 2000000 in
theorem best_any (p : Pm) (wo : Int) (fst : Bool) (B qb mb : Nat) (w : World) (hp : PjOk p) (hpc : p.ps.length <= p.pc) (hB : B <= qb /\ B <= mb /\ qb ≠ mb) (hpm : PmAt p w B) (hq : Whole w qb 132 (plC p wo mb)) (hm : RMap ekS evB mb [] w) :
  Calls Try.prog 29 #[.pointer (some ⟨qb, 0, none⟩), .bool fst] w fun e w' => (∃ v, e = .returned (.tuple #[v, vi (costOf (bestD fst p.pj wo)), .bool (bestD fst p.pj wo).isSome]) /\ planIn w.heap.size (bestD fst p.pj wo) v w') /\ w.grownBy w' (some mb) := by
 have hql := hq.lt
 have hml := hm.lt
 have hT : TpOk (tpOf p wo fst B qb mb w.heap.size) := ⟨hp, hpc, hB.1, hB.2.1, hB.2.2, hql, hml, by simp, by simp, by simp, by simp, by simp, by simp, by simp⟩
 have HT := Lib.hid hT
 have HI := Lib.hid (And.intro hpm (And.intro hq hm))
 have HTR := Lib.hid (try_any _ hT (p.ws.length - sx0.n))
 have HG0 := Lib.hid (sx0_go p)
 obtain ⟨s, hs⟩ : ∃ s, s = w.heap.size := ⟨_, rfl⟩
 rw [<- hs] at HT HTR hql hml
 have HW : Hid (newer w ((((((w).alloc (.cells #[.pointer (some ⟨qb, 0, none⟩)] 100)).alloc (.cells #[.bool fst] 4)).alloc (.cells #[.slice none 0 0] 26)).alloc (.cells #[vi 0] 3)).alloc (.cells #[.bool false] 4)) /\ ((((((w).alloc (.cells #[.pointer (some ⟨qb, 0, none⟩)] 100)).alloc (.cells #[.bool fst] 4)).alloc (.cells #[.slice none 0 0] 26)).alloc (.cells #[vi 0] 3)).alloc (.cells #[.bool false] 4)).heap.size = s + 1 + 1 + 1 + 1 + 1 /\ Whole ((((((w).alloc (.cells #[.pointer (some ⟨qb, 0, none⟩)] 100)).alloc (.cells #[.bool fst] 4)).alloc (.cells #[.slice none 0 0] 26)).alloc (.cells #[vi 0] 3)).alloc (.cells #[.bool false] 4)) (s) 100 #[.pointer (some ⟨qb, 0, none⟩)] /\ Whole ((((((w).alloc (.cells #[.pointer (some ⟨qb, 0, none⟩)] 100)).alloc (.cells #[.bool fst] 4)).alloc (.cells #[.slice none 0 0] 26)).alloc (.cells #[vi 0] 3)).alloc (.cells #[.bool false] 4)) (s + 1) 4 #[.bool fst] /\ Whole ((((((w).alloc (.cells #[.pointer (some ⟨qb, 0, none⟩)] 100)).alloc (.cells #[.bool fst] 4)).alloc (.cells #[.slice none 0 0] 26)).alloc (.cells #[vi 0] 3)).alloc (.cells #[.bool false] 4)) (s + 1 + 1) 26 #[.slice none 0 0] /\ Whole ((((((w).alloc (.cells #[.pointer (some ⟨qb, 0, none⟩)] 100)).alloc (.cells #[.bool fst] 4)).alloc (.cells #[.slice none 0 0] 26)).alloc (.cells #[vi 0] 3)).alloc (.cells #[.bool false] 4)) (s + 1 + 1 + 1) 3 #[vi 0] /\ Whole ((((((w).alloc (.cells #[.pointer (some ⟨qb, 0, none⟩)] 100)).alloc (.cells #[.bool fst] 4)).alloc (.cells #[.slice none 0 0] 26)).alloc (.cells #[vi 0] 3)).alloc (.cells #[.bool false] 4)) (s + 1 + 1 + 1 + 1) 4 #[.bool false]) := Lib.hid (by
  refine ⟨newer_trans (newer_trans (newer_trans (newer_trans (newer_allocH w _) (newer_allocH _ _)) (newer_allocH _ _)) (newer_allocH _ _)) (newer_allocH _ _), by simp [hs], ?_⟩
  have m0 := ((((Whole.made (w) 100 #[.pointer (some ⟨qb, 0, none⟩)]).alloc (.cells #[.bool fst] 4)).alloc (.cells #[.slice none 0 0] 26)).alloc (.cells #[vi 0] 3)).alloc (.cells #[.bool false] 4)
  have m1 := (((Whole.made ((w).alloc (.cells #[.pointer (some ⟨qb, 0, none⟩)] 100)) 4 #[.bool fst]).alloc (.cells #[.slice none 0 0] 26)).alloc (.cells #[vi 0] 3)).alloc (.cells #[.bool false] 4)
  have m2 := ((Whole.made (((w).alloc (.cells #[.pointer (some ⟨qb, 0, none⟩)] 100)).alloc (.cells #[.bool fst] 4)) 26 #[.slice none 0 0]).alloc (.cells #[vi 0] 3)).alloc (.cells #[.bool false] 4)
  have m3 := (Whole.made ((((w).alloc (.cells #[.pointer (some ⟨qb, 0, none⟩)] 100)).alloc (.cells #[.bool fst] 4)).alloc (.cells #[.slice none 0 0] 26)) 3 #[vi 0]).alloc (.cells #[.bool false] 4)
  have m4 := Whole.made (((((w).alloc (.cells #[.pointer (some ⟨qb, 0, none⟩)] 100)).alloc (.cells #[.bool fst] 4)).alloc (.cells #[.slice none 0 0] 26)).alloc (.cells #[vi 0] 3)) 4 #[.bool false]
  simp only [World.size_alloc, <- hs] at m0 m1 m2 m3 m4
  exact ⟨m0, m1, m2, m3, m4⟩)
 clear hT hp hpc hB hpm hm hq
 go_enter Try.func29, Try.ntmps29
 go_upto_region 1 with fail
 rw [<- hs]
 have HSE := Lib.hid hs
 clear hs
 refine genQ (fun X => newer w X /\ X.heap.size = s + 1 + 1 + 1 + 1 + 1 /\ Whole X (s) 100 #[.pointer (some ⟨qb, 0, none⟩)] /\ Whole X (s + 1) 4 #[.bool fst] /\ Whole X (s + 1 + 1) 26 #[.slice none 0 0] /\ Whole X (s + 1 + 1 + 1) 3 #[vi 0] /\ Whole X (s + 1 + 1 + 1 + 1) 4 #[.bool false]) HW.out ?_
 clear HW
 rintro w1 ⟨hn, hsz, m0, m1, m2, m3, m4⟩
 have HQ := Lib.hid (HI.out.2.1.below hn (by have := HSE.out; omega))
 have HM := Lib.hid (And.intro hn (And.intro m0 (And.intro m1 (And.intro m2 (And.intro m3 m4)))))
 have c0 := m0.at 0 (v := .pointer (some ⟨qb, 0, none⟩)) rfl
 have q0 := HQ.out.at 0 (v := vi p.years) rfl
 have q1 := HQ.out.at 1 (v := vi p.slopes) rfl
 have q2 := HQ.out.at 2 (v := .slice p.wa p.ws.length p.wc) rfl
 have q3 := HQ.out.at 3 (v := .slice p.na p.ns.length p.nc) rfl
 have q4 := HQ.out.at 4 (v := .slice p.va p.vs.length p.vc) rfl
 have q5 := HQ.out.at 5 (v := .slice p.pa p.ps.length p.pc) rfl
 clear m0 m1 m2 m3 m4 hn
 go_upto_region 4 with fail
 have HTM : Hid (TryM (tpOf p wo fst B qb mb s) [] none (.slice none 0 0) ((w1.alloc (.cells #[.func (.func 57) #[pmV p] #[]] 127)).alloc (.cells #[.func (.func 58) #[] (tpC (tpOf p wo fst B qb mb s))] 133)) /\ newer w ((w1.alloc (.cells #[.func (.func 57) #[pmV p] #[]] 127)).alloc (.cells #[.func (.func 58) #[] (tpC (tpOf p wo fst B qb mb s))] 133))) := Lib.hid (by
  have n2 : newer w1 ((w1.alloc (.cells #[.func (.func 57) #[pmV p] #[]] 127)).alloc (.cells #[.func (.func 58) #[] (tpC (tpOf p wo fst B qb mb s))] 133)) := newer_trans (newer_allocH w1 _) (newer_allocH _ _)
  obtain ⟨hn, m0, m1, m2, m3, m4⟩ := HM.out
  have y1 := (Whole.made w1 127 #[.func (.func 57) #[pmV p] #[]]).alloc (.cells #[.func (.func 58) #[] (tpC (tpOf p wo fst B qb mb s))] 133)
  have y2 := Whole.made (w1.alloc (.cells #[.func (.func 57) #[pmV p] #[]] 127)) 133 #[.func (.func 58) #[] (tpC (tpOf p wo fst B qb mb s))]
  simp only [World.size_alloc] at y2
  rw [hsz] at y1 y2
  have hw := newer_trans hn n2
  have hb := HT.out.hq
  refine ⟨⟨HQ.out.below n2 HQ.out.lt, HI.out.1.keep (fun q hq => hw.cell (by have := HI.out.2.1.lt; dsimp only at hb; omega)), HI.out.2.2.next hw, m0.below n2 m0.lt, m1.below n2 m1.lt, m2.below n2 m2.lt, m3.below n2 m3.lt, m4.below n2 m4.lt, y1, y2, rfl, ?_⟩, hw⟩
  simp only [World.size_alloc]
  omega)
 refine genQ (fun X => TryM (tpOf p wo fst B qb mb s) [] none (.slice none 0 0) X /\ newer w X) HTM.out ?_
 clear HTM c0 q0 q1 q2 q3 q4 q5 HM HQ hsz w1
 rintro w1 ⟨htm, hnw⟩
 have c0 := htm.tb.at 0 (v := .func (.func 58) #[] (tpC (tpOf p wo fst B qb mb s))) rfl
 have HTM := Lib.hid (And.intro htm hnw)
 have HC := Lib.hid (HTR.out sx0 [] 0 none 0 [] [] none (.slice none 0 0) w1 rfl HG0.out rfl rfl .nil htm (World.ownsRow_nil w1 _ 3 1) (fun _ => rfl) (fun k h => by simp [Value.ownBlock] at h))
 clear htm hnw HTR
 go_wp2_with fail
 refine (HC.out).mono ?_
 rintro e w2 ⟨⟨vr, rfl⟩, lp', pv, -, htm, -, -, hmv⟩
 obtain ⟨b, hb⟩ : ∃ b, b = (tryP (srch (tpOf p wo fst B qb mb s).p.pj (tpOf p wo fst B qb mb s).wo) (tpOf p wo fst B qb mb s).fst (p.ws.length - sx0.n) sx0 [] ([], none)).2 := ⟨_, rfl⟩
 have hbd : bestD fst p.pj wo = b := by
  rw [hb]
  unfold bestD
  simp only [Pm.pj, List.length_map]
 rw [<- hb] at htm
 obtain ⟨mp, xs, hpo⟩ := htm.plan.own
 obtain ⟨Ap, cp, rfl⟩ := own_form hpo
 clear hpo
 have HBD := Lib.hid hbd
 have HT2 := Lib.hid (And.intro htm hmv)
 have cP := htm.pb.at 0 (v := .slice Ap mp cp) rfl
 have cC := htm.cb.at 0 (v := vi (costOf b)) rfl
 have cO := htm.ob.at 0 (v := .bool b.isSome) rfl
 have fP := htm.pb.free 0
 have fC := htm.cb.free 0
 clear HC hb hbd htm hmv c0
 go_upto_region 5 with fail
 refine wp_words (by kernel_rfl) (region_told 5 (by kernel_rfl) (by kernel_rfl) (fun W => Below w2.heap.size w2 W) newer (pickD [vIs (.slice Ap mp cp), vIs (vi (costOf b)), vIs (.bool b.isSome), fun _ _ => True, fun _ _ => True]) (fun h k => newer_trans h k) (pickD_stable _ ⟨vIs_st, vIs_st, vIs_st, fun _ _ _ h _ => h, fun _ _ _ h _ => h, trivial⟩) (Below.refl _ w2).drew (Below.refl _ _) ?_ ?_)
 ·refine ⟨?_, ?_, ?_, ?_, ?_, trivial⟩
  ·intro a W hG hR hO hp; have h4 := hO.slot 4 (by kernel_rfl); have c0 := keep_cell cP hG; refine wp_yields (v := .slice Ap mp cp) ?_ ⟨_, rfl, rfl, Below.refl _ _, hG⟩; simp [slotOf] at h4; simp [execOp, go_sem, h4, c0]
  ·intro a W hG hR hO hp; have h5 := hO.slot 5 (by kernel_rfl); have c0 := keep_cell cC hG; refine wp_yields (v := vi (costOf b)) ?_ ⟨_, rfl, rfl, Below.refl _ _, hG⟩; simp [slotOf] at h5; simp [execOp, go_sem, h5, c0]
  ·intro a W hG hR hO hp; have h6 := hO.slot 6 (by kernel_rfl); have c0 := keep_cell cO hG; refine wp_yields (v := .bool b.isSome) ?_ ⟨_, rfl, rfl, Below.refl _ _, hG⟩; simp [slotOf] at h6; simp [execOp, go_sem, h6, c0]
  ·intro a W hG hR hO hp; have h4 := hO.slot 4 (by kernel_rfl); have h18 : slotOf a 18 = .slice Ap mp cp := hp.1; have m0 := keep_cell cP hG; have m1 := keep_frozen fP cP hG; refine wp_skips (W' := W) ?_ ⟨undef, rfl, trivial, Below.refl _ _, hG⟩; simp [slotOf] at h4 h18; simp [execOp, go_sem, h4, h18, m0, m1]; exact setCell_same m0
  ·intro a W hG hR hO hp; have h5 := hO.slot 5 (by kernel_rfl); have h19 : slotOf a 19 = vi (costOf b) := hp.1; have m0 := keep_cell cC hG; have m1 := keep_frozen fC cC hG; refine wp_skips (W' := W) ?_ ⟨undef, rfl, trivial, Below.refl _ _, hG⟩; simp [slotOf] at h5 h19; simp [execOp, go_sem, h5, h19, m0, m1]; exact setCell_same m0
 ·intro W hG hR
  rintro _ rfl _ rfl _ rfl
  change wpList _ _ _ _ _ _
  simp only [Act.put, List.setIfInBounds_toArray, List.set_cons_zero, List.set_cons_succ, List.drop_succ_cons, List.drop_zero]
  have h3 := HT2.out.1.next HT.out hG
  have p0 := h3.pb.at 0 (v := .slice Ap mp cp) rfl
  have p2 := h3.cb.at 0 (v := vi (costOf b)) rfl
  have p4 := h3.ob.at 0 (v := .bool b.isSome) rfl
  have p5 := h3.ob.free 0
  refine wpList_plain rfl fun K3 hK3 => wp_skips (W' := W) ?_ (hK3 _ _ ?_)
  ·simp [execOp, go_sem, p4, p5]
   exact setCell_same p4
  simp only [Act.put]
  have HR : Hid (planIn w.heap.size b (.slice Ap mp cp) W /\ w.grownBy W (some mb)) := Lib.hid (by
   have hse := HSE.out
   refine ⟨?_, ?_⟩
   ·have hpl := h3.plan
    cases b with
    | none => exact hpl
    | some q => exact ⟨hpl.1, own_more hpl.2 (by dsimp only [tpOf]; omega)⟩
   ·have m := HT2.out.2
    have n1 := HTM.out.2
    refine ⟨hG.os.trans (m.os.trans n1.os), hG.tape.trans (m.tape.trans n1.tape), hG.output.trans (m.output.trans n1.output), Nat.le_trans n1.size (Nat.le_trans m.size hG.size), fun k hk hne => ?_⟩
    have s1 := n1.size
    have s2 := m.size
    refine (hG.block k (by omega)).trans ((m.block k (by omega) (fun e => hne (by rw [e])) ?_ ?_ ?_ (by simp [Value.ownBlock])).trans (n1.block k hk))
    ·dsimp only [tpOf]
     omega
    ·dsimp only [tpOf]
     omega
    ·dsimp only [tpOf]
     omega)
  clear hG hR HT2 HTM cP cC cO fP fC p5 h3
  go_wp2_with fail
  refine bodyPost_ret (v := .tuple #[.slice Ap mp cp, vi (costOf b), .bool b.isSome]) (by simp [results, Try.results29, go_sem, p0, p2, p4]) rfl ⟨⟨.slice Ap mp cp, ?_, ?_⟩, HR.out.2⟩
  ·rw [HBD.out]
  ·rw [HBD.out]
   exact HR.out.1
theorem tried_any (p : Pm) (wo : Int) (fst : Bool) (w : World) (hok : PmOk p w) (hp : PjOk p) (hpc : p.ps.length <= p.pc) (qb mb : Nat) (W : World) (hn : newer w W) (hq : Whole W qb 132 (plC p wo mb)) (hm : RMap ekS evB mb [] W) (h1 : w.heap.size <= mb) (h2 : w.heap.size <= qb) (h3 : qb ≠ mb) :
  Calls Try.prog 29 #[.pointer (some ⟨qb, 0, none⟩), .bool fst] W fun e w' => (∃ v, e = .returned (.tuple #[v, vi (costOf (bestD fst p.pj wo)), .bool (bestD fst p.pj wo).isSome]) /\ planIn w.heap.size (bestD fst p.pj wo) v w') /\ newer w w' := by
 refine (best_any p wo fst w.heap.size qb mb W hp hpc ⟨h2, h1, h3⟩ (hok.at.keep fun q hq => hn.cell hq) hq hm).mono ?_
 rintro e w' ⟨⟨v, rfl, hv⟩, hg⟩
 refine ⟨⟨v, rfl, ?_⟩, hg.os.trans hn.os, hg.tape.trans hn.tape, hg.output.trans hn.output, Nat.le_trans hn.size hg.size, fun k hk => (hg.block k (Nat.lt_of_lt_of_le hk hn.size) (by rw [Ne, Option.some.injEq]; omega)).trans (hn.block k hk)⟩
 cases hb : bestD fst p.pj wo with
 | none => rw [hb] at hv; exact hv
 | some q => rw [hb] at hv; exact ⟨hv.1, own_more hv.2 hn.size⟩
def bestR (q : Pj) : Option (List Int × Int) := if faultN q = 0 then bestD false q (-1) else none
def bestE (q : Pj) : Int := if faultN q = 0 then (if (bestD false q (-1)).isSome = true then 0 else 9) else faultN q
set_option maxRecDepth 100000 in
set_option maxHeartbeats 2000000 in
theorem worksBest_any (p : Pm) (w : World) (hok : PmOk p w) (few : PmFew p) (hpc : p.ps.length <= p.pc) :
  Calls Try.prog 11 #[pmV p] w fun e w' => (∃ v, e = .returned (.tuple #[v, vi (costOf (bestR p.pj)), vi (bestE p.pj)]) /\ planIn w.heap.size (bestR p.pj) v w') /\ newer w w' := by
 have hnw := newer_allocH w (.cells (pmC p) 55)
 have HCK := Lib.hid (checkProject_any p _ (hok.next hnw) few)
 have HB := Lib.hid (And.intro hnw (Whole.made w 55 (pmC p)))
 obtain ⟨w0, hw0⟩ : ∃ w0, w0 = w.alloc (.cells (pmC p) 55) := ⟨_, rfl⟩
 have q0 := HB.out.2.at 0 (v := vi p.years) rfl
 have q1 := HB.out.2.at 1 (v := vi p.slopes) rfl
 have q2 := HB.out.2.at 2 (v := .slice p.wa p.ws.length p.wc) rfl
 have q3 := HB.out.2.at 3 (v := .slice p.na p.ns.length p.nc) rfl
 have q4 := HB.out.2.at 4 (v := .slice p.va p.vs.length p.vc) rfl
 have q5 := HB.out.2.at 5 (v := .slice p.pa p.ps.length p.pc) rfl
 have HOK := Lib.hid hok
 clear hnw hok
 unfold bestR bestE
 by_cases hf : faultN p.pj = 0
 ·rw [if_pos hf, if_pos hf]
  rw [hf] at HCK
  have HP := Lib.hid (fault_ok hf)
  obtain ⟨b, hb⟩ : ∃ b, b = bestD false p.pj (-1) := ⟨_, rfl⟩
  rw [<- hb]
  have HBQ := Lib.hid hb
  clear hf hb
  go_enter Try.func11, Try.ntmps11
  go_wp2_with fail
  refine (HCK.out).mono ?_
  rintro e w1 ⟨rfl, hb⟩
  rw [<- hw0] at HB hb
  have HB1 := Lib.hid (And.intro (newer_trans HB.out.1 hb) (HB.out.2.below hb HB.out.2.lt))
  clear hb HB HCK q0 q1 q2 q3 q4 q5 hw0 w0
  have q0 := HB1.out.2.at 0 (v := vi p.years) rfl
  have q1 := HB1.out.2.at 1 (v := vi p.slopes) rfl
  have q2 := HB1.out.2.at 2 (v := .slice p.wa p.ws.length p.wc) rfl
  have q3 := HB1.out.2.at 3 (v := .slice p.na p.ns.length p.nc) rfl
  have q4 := HB1.out.2.at 4 (v := .slice p.va p.vs.length p.vc) rfl
  have q5 := HB1.out.2.at 5 (v := .slice p.pa p.ps.length p.pc) rfl
  go_wp2_with fail
  refine (plans_any p (-1) w1).mono ?_
  rintro e w2 ⟨qb, mb, rfl, hn, hq, hm, h1, h2, h3⟩
  have HT := Lib.hid (tried_any p (-1) false w1 (HOK.out.next HB1.out.1) HP.out hpc qb mb w2 hn hq hm h1 h2 h3)
  clear hn hq hm h1 h2 h3 q0 q1 q2 q3 q4 q5
  rw [<- HBQ.out] at HT
  go_wp2_with fail
  refine (HT.out).mono ?_
  rintro e w3 ⟨⟨v, rfl, hv⟩, hn⟩
  have HV := Lib.hid (And.intro hv (newer_trans HB1.out.1 hn))
  have HSZ := Lib.hid HB1.out.1.size
  clear hv hn HT HB1
  cases b with
  | none =>
   go_wp2_with fail
   exact bodyPost_ret (v := .tuple #[.slice none 0 0, vi 0, vi 9]) (by simp [results, Try.results11, go_sem]) rfl ⟨⟨_, rfl, rfl⟩, HV.out.2⟩
  | some q =>
   go_wp2_with fail
   exact bodyPost_ret (v := .tuple #[v, vi q.2, vi 0]) (by simp [results, Try.results11, go_sem, costOf]) rfl ⟨⟨_, rfl, HV.out.1.1, own_more HV.out.1.2 HSZ.out⟩, HV.out.2⟩
 ·rw [if_neg hf, if_neg hf]
  obtain ⟨er, her⟩ : ∃ er, er = faultN p.pj := ⟨_, rfl⟩
  rw [<- her] at hf HCK ⊢
  have hfb : (er == 0) = false := by simpa using hf
  have hfn : (er != 0) = true := by simpa using hf
  clear her hf
  go_enter Try.func11, Try.ntmps11
  go_wp2_with fail
  refine (HCK.out).mono ?_
  rintro e w1 ⟨rfl, hb⟩
  have HN := Lib.hid (newer_trans HB.out.1 hb)
  clear hb
  go_wp2_with fail
  exact bodyPost_ret (v := .tuple #[.slice none 0 0, vi 0, vi er]) (by simp [results, Try.results11, go_sem]) rfl ⟨⟨_, rfl, rfl⟩, HN.out⟩
end

section
open Go.RowKit Go.Shelf Go.Deep
attribute [local go_sem] Oper.semAt_some
def worthK (x : Wd) (y : Int) (ns : List Nd) (sh : List Int) : Nat -> Int
 | 0 => 0
 | k + 1 => worthK x y ns sh k + (match ns[k]? with
  | some n => iAt sh k * mnI n.due (addsN x y n.year (rAt x.adds n.slope.toNat).lo)
  | none => 0)
theorem worthK_at {x : Wd} {y : Int} {ns : List Nd} {sh : List Int} {k : Nat} {n : Nd} (h : ns[k]? = some n) : worthK x y ns sh (k + 1) = worthK x y ns sh k + iAt sh k * mnI n.due (addsN x y n.year (rAt x.adds n.slope.toNat).lo) := by
 simp only [worthK, h]
theorem rAt_bd {x : Wd} {k : Nat} (hx : ∀ r ∈ x.adds, 0 <= r.lo /\ r.lo <= r.hi /\ r.hi <= 10000) : 0 <= (rAt x.adds k).lo /\ (rAt x.adds k).lo <= 10000 := by
 cases hr : x.adds[k]? with
 | none => unfold rAt; rw [hr]; decide
 | some r =>
  rw [rAt_of hr]
  have := hx r (List.mem_of_getElem? hr)
  omega
end

section
open Go.RowKit Go.Shelf Go.Deep
def dueK (ns : List Nd) (sh : List Int) : Nat -> Int
 | 0 => 0
 | k + 1 => dueK ns sh k + (match ns[k]? with
  | some n => iAt sh k * n.due
  | none => 0)
def yearOk (q : Pj) (sh : List Int) (x : Wd) (j : Nat) : Bool := decide (worthK x (x.first + (j : Int)) q.needs sh q.needs.length <= 1000 * x.price)
def workOk (q : Pj) (sh : List Int) (x : Wd) : Bool := !agreeB q.villages x || (List.range (yearsN x)).all (yearOk q sh x)
def boundB (q : Pj) (sh : List Int) (bound : Int) : Bool :=
 decide (faultN q = 0) && decide (sh.length = q.needs.length) && sh.all (fun s => inB s 0 1000000000) && q.works.all (workOk q sh) && decide (bound = (dueK q.needs sh q.needs.length + 999) / 1000)

attribute [local go_sem] Oper.semAt_some
end

section
open Go.RowKit Go.Deep
def thinP (p : Pj) : Bool := p.works.all (fun x => decide (x.adds.length <= 10)) && decide (p.works.length <= 10) && decide (p.needs.length <= 25) && decide (p.villages.length <= 8) && decide (p.purses.length <= 10)
theorem thin_few {p : Pm} (h : thinP p.pj = true) : PmFew p := by
 unfold thinP at h
 simp only [Bool.and_eq_true, decide_eq_true_eq] at h
 obtain ⟨⟨⟨⟨h1, h2⟩, h3⟩, h4⟩, h5⟩ := h
 have h2 : p.ws.length <= 10 := by simpa [Pm.pj] using h2
 have h3 : p.ns.length <= 25 := h3
 have h4 : p.vs.length <= 8 := h4
 have h5 : p.ps.length <= 10 := h5
 refine ⟨by omega, fun x hx => ?_, by omega, by omega, by omega⟩
 have := List.all_eq_true.1 h1 x.d (List.mem_map.2 ⟨x, hx, rfl⟩)
 simp only [decide_eq_true_eq] at this
 omega
set_option maxRecDepth 100000 in
set_option maxHeartbeats 4000000 in
theorem lawThinW (p : Pm) (w : World) (hok : PmOk p w) : Calls Try.prog 4 #[pmV p] w fun e w' => e = .returned (.bool (thinP p.pj)) /\ newer w w' := by
 have hbx := Whole.made w 28 (pmC p)
 have hnw := newer_allocH w (.cells (pmC p) 28)
 have H0 := Lib.hid (And.intro hnw hbx)
 have HOK := Lib.hid hok
 obtain ⟨res, hres⟩ : ∃ res, res = thinP p.pj := ⟨_, rfl⟩
 have HRS := Lib.hid hres
 rw [<- hres]
 clear hnw hbx hok hres
 go_enter Try.func4, Try.ntmps4
 go_wp2_with fail
 go_loopw [3] (fun s3 wr => ∃ k : Nat, k <= p.ws.length /\ k <= 11 /\ s3 = .int .i64 k /\ newer w wr /\ Whole wr w.heap.size 28 (pmC p) /\ early (fun x => !decide (x.d.adds.length <= 10)) p.ws k) (fun s3 _ => p.ws.length - (intOf s3).toNat)
 case atStart => exact ⟨0, Nat.zero_le _, by omega, rfl, H0.out.1, H0.out.2, early_zero _ _⟩
 case round =>
  obtain ⟨k, hk, hk11, rfl, hbw, hbx, he⟩ := hrel
  clear H0
  have HE := Lib.hid he
  have x2 := hbx.at 2 (v := .slice p.wa p.ws.length p.wc) rfl
  have x3 := hbx.at 3 (v := .slice p.na p.ns.length p.nc) rfl
  have x4 := hbx.at 4 (v := .slice p.va p.vs.length p.vc) rfl
  have x5 := hbx.at 5 (v := .slice p.pa p.ps.length p.pc) rfl
  clear he
  by_cases hlt : k < p.ws.length
  ·have hkn : (k : Int) < p.ws.length := by omega
   by_cases h10 : 10 < k
   ·have hki : (10 : Int) < k := by omega
    have hrf : res = false := by
     rw [HRS.out]
     unfold thinP
     have : ¬ p.pj.works.length <= 10 := by simp only [Pm.pj, List.length_map]; omega
     simp [this]
    have HN := Lib.hid (And.intro hrf hbw)
    clear hbx hbw hrf
    go_wp2_with fail
    go_ret
    exact ⟨by rw [HN.out.1] <;> rfl, HN.out.2⟩
   ·have hki : ¬ ((10 : Int) < k) := by omega
    obtain ⟨x, hx⟩ := get_of_lt hlt
    obtain ⟨b2, o2, e2, _, d0, d1, d2, d3, d4, d5⟩ := row6 (HOK.out.next hbw).ws hx
    rw [e2] at x2
    by_cases ha : 10 < x.d.adds.length
    ·have hai : (10 : Int) < x.d.adds.length := by omega
     have hrf : res = false := by
      rw [HRS.out]
      unfold thinP
      have : p.pj.works.all (fun x => decide (x.adds.length <= 10)) = false := by
       rw [List.all_eq_false]
       exact ⟨x.d, List.mem_map.2 ⟨x, List.mem_of_getElem? hx, rfl⟩, by simp; omega⟩
      rw [this]
      rfl
     have HN := Lib.hid (And.intro hrf hbw)
     clear hbx hbw hrf hx e2
     go_wp2_with fail
     go_ret
     exact ⟨by rw [HN.out.1] <;> rfl, HN.out.2⟩
    ·have hai : ¬ ((10 : Int) < x.d.adds.length) := by omega
     have HN := Lib.hid (And.intro hbw (And.intro hbx (early_succ HE.out hx (by simp; omega))))
     clear hbx hbw hx e2
     go_wp2_with fail
     go_roundw
     case rel => exact ⟨k + 1, by omega, by omega, by go_num, HN.out.1, HN.out.2.1, HN.out.2.2⟩
     case measure => simp [intOf]; omega
  ·obtain rfl : k = p.ws.length := by omega
   have hkn : ¬ ((p.ws.length : Int) < p.ws.length) := by omega
   have hall : p.pj.works.all (fun x => decide (x.adds.length <= 10)) = true := by
    rw [show p.pj.works = p.ws.map (·.d) from rfl, all_map]
    exact all_early HE.out
   have hrv : res = (decide (p.ws.length <= 10) && decide (p.ns.length <= 25) && decide (p.vs.length <= 8) && decide (p.ps.length <= 10)) := by
    rw [HRS.out]
    unfold thinP
    have hl : p.pj.works.length = p.ws.length := by simp [Pm.pj]
    rw [hall, hl]
    rfl
   have HN := Lib.hid (And.intro hrv hbw)
   clear hall hrv hbw hbx
   by_cases h1 : p.ws.length <= 10
   ·have i1 : (p.ws.length : Int) <= 10 := by omega
    by_cases h2 : p.ns.length <= 25
    ·have i2 : (p.ns.length : Int) <= 25 := by omega
     by_cases h3 : p.vs.length <= 8
     ·have i3 : (p.vs.length : Int) <= 8 := by omega
      by_cases h4 : p.ps.length <= 10
      ·have i4 : (p.ps.length : Int) <= 10 := by omega
       have hrr : res = true := by
        rw [HN.out.1]
        simp [h1, h2, h3, h4]
       have HRR := Lib.hid hrr
       clear hrr h1 h2 h3 h4
       go_wp2_with fail
       go_ret
       exact ⟨by rw [HRR.out] <;> rfl, HN.out.2⟩
      ·have i4 : ¬ ((p.ps.length : Int) <= 10) := by omega
       have hrr : res = false := by
        rw [HN.out.1]
        simp [h1, h2, h3, h4]
       have HRR := Lib.hid hrr
       clear hrr h1 h2 h3 h4
       go_wp2_with fail
       go_ret
       exact ⟨by rw [HRR.out] <;> rfl, HN.out.2⟩
     ·have i3 : ¬ ((p.vs.length : Int) <= 8) := by omega
      have hrr : res = false := by
       rw [HN.out.1]
       simp [h1, h2, h3]
      have HRR := Lib.hid hrr
      clear hrr h1 h2 h3
      go_wp2_with fail
      go_ret
      exact ⟨by rw [HRR.out] <;> rfl, HN.out.2⟩
    ·have i2 : ¬ ((p.ns.length : Int) <= 25) := by omega
     have hrr : res = false := by
      rw [HN.out.1]
      simp [h1, h2]
     have HRR := Lib.hid hrr
     clear hrr h1 h2
     go_wp2_with fail
     go_ret
     exact ⟨by rw [HRR.out] <;> rfl, HN.out.2⟩
   ·have i1 : ¬ ((p.ws.length : Int) <= 10) := by omega
    have hrr : res = false := by
     rw [HN.out.1]
     simp [h1]
    have HRR := Lib.hid hrr
    clear hrr h1
    go_wp2_with fail
    go_ret
    exact ⟨by rw [HRR.out] <;> rfl, HN.out.2⟩
end

section
open Go.RowKit Go.Deep
theorem wdB_ref (years slopes : Int) (vn : Nat) (x : Wd) : wdB years slopes vn x = (inB x.price 1 1000000 && inB x.first 0 (years - 1) && inB x.last x.first (years - 1) && inB x.age 0 1000 && inB x.village (-1) ((vn : Int) - 1) && !((x.adds.length : Int) != slopes) && x.adds.all rgB) := by
 rw [Bool.eq_iff_iff]
 simp only [wdB, inB, Bool.and_eq_true, decide_eq_true_eq, Bool.not_eq_true', bne_eq_false_iff_eq]
 constructor
 ·rintro ⟨⟨⟨⟨⟨⟨⟨h1, h2⟩, h3⟩, h4⟩, h5⟩, h6⟩, h7⟩, h8⟩
  exact ⟨⟨⟨⟨⟨⟨h1, by omega⟩, by omega⟩, h5⟩, h6⟩, h7⟩, h8⟩
 ·rintro ⟨⟨⟨⟨⟨⟨h1, h2⟩, h3⟩, h5⟩, h6⟩, h7⟩, h8⟩
  exact ⟨⟨⟨⟨⟨⟨⟨h1, by omega⟩, by omega⟩, by omega⟩, h5⟩, h6⟩, h7⟩, h8⟩
set_option maxRecDepth 100000 in
set_option maxHeartbeats 8000000 in
theorem refFault (p : Pm) (w : World) (hok : PmOk p w) (few : PmFew p) : Calls Try.prog 5 #[pmV p] w fun e w' => e = .returned (vi (faultN p.pj)) /\ newer w w' := by
 have hbx := Whole.made w 28 (pmC p)
 have hnw := newer_allocH w (.cells (pmC p) 28)
 have HOK := Lib.hid hok
 have fw := few.ws
 have fn := few.ns
 have fv := few.vs
 have fp := few.ps
 have HAD := Lib.hid few.ad
 obtain ⟨res, hres⟩ : ∃ res, res = faultN p.pj := ⟨_, rfl⟩
 have HRS := Lib.hid hres
 rw [<- hres]
 have hl : p.pj.works.length = p.ws.length := by simp [Pm.pj]
 have HL := Lib.hid hl
 have x0 := hbx.at 0 (v := vi p.years) rfl
 have x1 := hbx.at 1 (v := vi p.slopes) rfl
 have x2 := hbx.at 2 (v := .slice p.wa p.ws.length p.wc) rfl
 have x3 := hbx.at 3 (v := .slice p.na p.ns.length p.nc) rfl
 have x4 := hbx.at 4 (v := .slice p.va p.vs.length p.vc) rfl
 have x5 := hbx.at 5 (v := .slice p.pa p.ps.length p.pc) rfl
 have H0 := Lib.hid (And.intro hnw hbx)
 clear hnw hbx hok hres hl few
 by_cases g1 : 8 < p.ws.length
 case pos =>
  have i1 : (8 : Int) < p.ws.length := by omega
  have HG := Lib.hid g1
  clear g1
  go_enter Try.func5, Try.ntmps5
  have HRR : Hid (res = 3) := Lib.hid (by rw [HRS.out]; unfold faultN; rw [if_pos (.inl (by rw [HL.out]; exact HG.out))])
  have HNN := Lib.hid H0.out.1
  go_wp2_with (go_at_call 19; refine (in_anyW _ _ _ _).mono ?_; rintro e w' ⟨rfl, rfl⟩)
  go_ret
  exact ⟨by rw [HRR.out] <;> rfl, HNN.out⟩
 have i1 : ¬ ((8 : Int) < p.ws.length) := by omega
 by_cases g2 : 20 < p.ns.length
 case pos =>
  have i2 : (20 : Int) < p.ns.length := by omega
  have HG := Lib.hid g2
  clear g2 g1
  go_enter Try.func5, Try.ntmps5
  have HRR : Hid (res = 3) := Lib.hid (by rw [HRS.out]; unfold faultN; rw [if_pos (.inr (.inl HG.out))])
  have HNN := Lib.hid H0.out.1
  go_wp2_with (go_at_call 19; refine (in_anyW _ _ _ _).mono ?_; rintro e w' ⟨rfl, rfl⟩)
  go_ret
  exact ⟨by rw [HRR.out] <;> rfl, HNN.out⟩
 have i2 : ¬ ((20 : Int) < p.ns.length) := by omega
 by_cases g3 : 6 < p.vs.length
 case pos =>
  have i3 : (6 : Int) < p.vs.length := by omega
  have HG := Lib.hid g3
  clear g3 g2 g1
  go_enter Try.func5, Try.ntmps5
  have HRR : Hid (res = 3) := Lib.hid (by rw [HRS.out]; unfold faultN; rw [if_pos (.inr (.inr HG.out))])
  have HNN := Lib.hid H0.out.1
  go_wp2_with (go_at_call 19; refine (in_anyW _ _ _ _).mono ?_; rintro e w' ⟨rfl, rfl⟩)
  go_ret
  exact ⟨by rw [HRR.out] <;> rfl, HNN.out⟩
 have i3 : ¬ ((6 : Int) < p.vs.length) := by omega
 have hall : ∀ b : Bool, (inB p.years 1 5 && inB p.slopes 1 6 && decide ((p.ps.length : Int) = p.years) && p.ps.all (fun n => inB n 0 1000000) && p.ws.all (fun x => wdB p.years p.slopes p.vs.length x.d) && p.ns.all (ndB p.years p.slopes)) = b -> res = if b = true then 0 else 1 := by
  intro b hb
  rw [HRS.out]
  unfold faultN
  rw [if_neg (by rw [HL.out]; intro h; rcases h with h | h | h; exact g1 h; exact g2 h; exact g3 h), show p.pj.works = p.ws.map (·.d) from rfl, all_map]
  have e : (inB p.pj.years 1 5 && inB p.pj.slopes 1 6 && decide ((p.pj.purses.length : Int) = p.pj.years) && p.pj.purses.all (fun n => inB n 0 1000000) && p.ws.all (fun x => wdB p.pj.years p.pj.slopes p.pj.villages.length x.d) && p.pj.needs.all (ndB p.pj.years p.pj.slopes)) = b := hb
  rw [e]
 have HR0 : Hid ((inB p.years 1 5 && inB p.slopes 1 6 && decide ((p.ps.length : Int) = p.years) && p.ps.all (fun n => inB n 0 1000000) && p.ws.all (fun x => wdB p.years p.slopes p.vs.length x.d) && p.ns.all (ndB p.years p.slopes)) = true -> res = 0) := Lib.hid (hall true)
 have HR1 : Hid ((inB p.years 1 5 && inB p.slopes 1 6 && decide ((p.ps.length : Int) = p.years) && p.ps.all (fun n => inB n 0 1000000) && p.ws.all (fun x => wdB p.years p.slopes p.vs.length x.d) && p.ns.all (ndB p.years p.slopes)) = false -> res = 1) := Lib.hid (hall false)
 clear hall g1 g2 g3
 cases q1 : inB p.years 1 5
 case false =>
  have HQ := Lib.hid q1
  go_enter Try.func5, Try.ntmps5
  have HRR : Hid (res = 1) := Lib.hid (HR1.out (bad1 HQ.out))
  have HNN := Lib.hid H0.out.1
  go_wp2_with (go_at_call 19; refine (in_anyW _ _ _ _).mono ?_; rintro e w' ⟨rfl, rfl⟩)
  go_ret
  exact ⟨by rw [HRR.out] <;> rfl, HNN.out⟩
 cases q2 : inB p.slopes 1 6
 case false =>
  have HQ := Lib.hid q2
  go_enter Try.func5, Try.ntmps5
  have HRR : Hid (res = 1) := Lib.hid (HR1.out (bad2 HQ.out))
  have HNN := Lib.hid H0.out.1
  go_wp2_with (go_at_call 19; refine (in_anyW _ _ _ _).mono ?_; rintro e w' ⟨rfl, rfl⟩)
  go_ret
  exact ⟨by rw [HRR.out] <;> rfl, HNN.out⟩
 have HQ12 := Lib.hid (And.intro q1 q2)
 have hyr := q1
 have hsl := q2
 simp only [inB, Bool.and_eq_true, decide_eq_true_eq] at hyr hsl
 by_cases g4 : (p.ps.length : Int) = p.years
 case neg =>
  have j4 : ((p.ps.length : Int) != p.years) = true := by rw [bne_iff_ne]; exact g4
  have HG := Lib.hid (decide_eq_false g4)
  clear g4
  go_enter Try.func5, Try.ntmps5
  have HRR : Hid (res = 1) := Lib.hid (HR1.out (bad3 HG.out))
  have HNN := Lib.hid H0.out.1
  go_wp2_with (go_at_call 19; refine (in_anyW _ _ _ _).mono ?_; rintro e w' ⟨rfl, rfl⟩)
  go_ret
  exact ⟨by rw [HRR.out] <;> rfl, HNN.out⟩
 have j4 : ((p.ps.length : Int) != p.years) = false := by rw [bne_eq_false_iff_eq]; exact g4
 have HG4 := Lib.hid g4
 clear g4
 go_enter Try.func5, Try.ntmps5
 go_wp2_with (go_at_call 19; refine (in_anyW _ _ _ _).mono ?_; rintro e w' ⟨rfl, rfl⟩)
 clear q1 q2 j4 x0 x1 x2 x3 x4 x5 i1 i2 i3
 go_loopw [3] (fun s3 wr => ∃ k : Nat, k <= p.ps.length /\ s3 = .int .i64 k /\ newer w wr /\ Whole wr w.heap.size 28 (pmC p) /\ early (fun n => !inB n 0 1000000) p.ps k) (fun s3 _ => p.ps.length - (intOf s3).toNat)
 case atStart => exact ⟨0, Nat.zero_le _, rfl, H0.out.1, H0.out.2, early_zero _ _⟩
 case round =>
  obtain ⟨k, hk, rfl, hbw, hbx, he⟩ := hrel
  clear H0
  have HE := Lib.hid he
  have x5 := hbx.at 5 (v := .slice p.pa p.ps.length p.pc) rfl
  clear he
  by_cases hlt : k < p.ps.length
  ·have hkn : (k : Int) < p.ps.length := by omega
   obtain ⟨n, hn⟩ := get_of_lt hlt
   obtain ⟨b2, o2, e2, _, d0⟩ := row1 (HOK.out.next hbw).ps hn
   rw [e2] at x5
   have HB := Lib.hid (And.intro hbw hbx)
   have HN := Lib.hid hn
   clear hbw hbx hn e2
   cases qn : inB n 0 1000000
   ·have HX := Lib.hid (all_bad (p := fun n => inB n 0 1000000) HN.out qn)
    have HRR : Hid (res = 1) := Lib.hid (HR1.out (bad4 HX.out))
    have HNN := Lib.hid HB.out.1
    go_wp2_with (go_at_call 19; refine (in_anyW _ _ _ _).mono ?_; rintro e w' ⟨rfl, rfl⟩)
    go_ret
    exact ⟨by rw [HRR.out] <;> rfl, HNN.out⟩
   ·have HX := Lib.hid (early_succ HE.out HN.out (by rw [qn]; rfl))
    go_wp2_with (go_at_call 19; refine (in_anyW _ _ _ _).mono ?_; rintro e w' ⟨rfl, rfl⟩)
    go_roundw
    case rel => exact ⟨k + 1, by omega, by go_num, HB.out.1, HB.out.2, HX.out⟩
    case measure => simp [intOf]; omega
  ·obtain rfl : k = p.ps.length := by omega
   have hkn : ¬ ((p.ps.length : Int) < p.ps.length) := by omega
   have HPA := Lib.hid (all_early HE.out)
   have H0 := Lib.hid (And.intro hbw hbx)
   clear hbw hbx HE
   go_wp2_with fail
   clear x5
   go_loopw [4] (fun s4 wr => ∃ k : Nat, k <= p.ws.length /\ s4 = .int .i64 k /\ newer w wr /\ Whole wr w.heap.size 28 (pmC p) /\ early (fun x => !wdB p.years p.slopes p.vs.length x.d) p.ws k) (fun s4 _ => p.ws.length - (intOf s4).toNat)
   case atStart => exact ⟨0, Nat.zero_le _, rfl, H0.out.1, H0.out.2, early_zero _ _⟩
   case round =>
    obtain ⟨k, hk, rfl, hbw, hbx, he⟩ := hrel
    clear H0
    have HE := Lib.hid he
    have x2 := hbx.at 2 (v := .slice p.wa p.ws.length p.wc) rfl
    clear he
    obtain ⟨wo, hwo⟩ : ∃ wo : World, wo = wr := ⟨_, rfl⟩
    rw [<- hwo] at hbw hbx x2 ⊢
    clear hwo wr
    by_cases hlt : k < p.ws.length
    ·have hkn : (k : Int) < p.ws.length := by omega
     obtain ⟨x, hx⟩ := get_of_lt hlt
     obtain ⟨b2, o2, e2, _, d0, d1, d2, d3, d4, d5⟩ := row6 (HOK.out.next hbw).ws hx
     rw [e2] at x2
     have HB0 := Lib.hid (And.intro hbw hbx)
     have HX := Lib.hid hx
     have hal := HAD.out x (List.mem_of_getElem? hx)
     clear hbw hbx hx e2
     go_upto_region 14 with fail
     refine genQ (fun X => newer wo X /\ Whole X wo.heap.size 73 (wkC x)) ⟨newer_allocH _ _, Whole.made _ _ _⟩ ?_
     obtain ⟨xb, hxb⟩ : ∃ xb, xb = wo.heap.size := ⟨_, rfl⟩
     rw [<- hxb]
     clear hxb d0 d1 d2 d3 d4 d5 x2
     rintro wv ⟨hn, hwx⟩
     have HB := Lib.hid (And.intro (newer_trans HB0.out.1 hn) (And.intro (HB0.out.2.below hn HB0.out.2.lt) hwx))
     have d0 := hwx.at 0 (v := vi x.d.price) rfl
     have d1 := hwx.at 1 (v := vi x.d.first) rfl
     have d2 := hwx.at 2 (v := vi x.d.last) rfl
     have d3 := hwx.at 3 (v := vi x.d.age) rfl
     have d4 := hwx.at 4 (v := vi x.d.village) rfl
     have d5 := hwx.at 5 (v := .slice x.a x.d.adds.length x.cp) rfl
     have x0 := HB.out.2.1.at 0 (v := vi p.years) rfl
     have x1 := HB.out.2.1.at 1 (v := vi p.slopes) rfl
     have x2 := HB.out.2.1.at 2 (v := .slice p.wa p.ws.length p.wc) rfl
     have x3 := HB.out.2.1.at 3 (v := .slice p.na p.ns.length p.nc) rfl
     have x4 := HB.out.2.1.at 4 (v := .slice p.va p.vs.length p.vc) rfl
     have x5 := HB.out.2.1.at 5 (v := .slice p.pa p.ps.length p.pc) rfl
     clear hn hwx HB0
     have wy : IntKind.i64.wrap (p.years - 1) = p.years - 1 := IntWalk.i64_in _ (by omega)
     have wv1 : IntKind.i64.wrap ((p.vs.length : Int) - 1) = (p.vs.length : Int) - 1 := IntWalk.i64_in _ (by omega)
     cases a1 : inB x.d.price 1 1000000
     case false =>
      have HX2 := Lib.hid (all_bad (p := fun x : Wk => wdB p.years p.slopes p.vs.length x.d) HX.out (show wdB p.years p.slopes p.vs.length x.d = false by rw [wdB_ref, a1]; simp))
      have HRR : Hid (res = 1) := Lib.hid (HR1.out (bad5 HX2.out))
      have HNN := Lib.hid HB.out.1
      go_wp2_with (go_at_call 19; refine (in_anyW _ _ _ _).mono ?_; rintro e w' ⟨rfl, rfl⟩)
      go_ret
      exact ⟨by rw [HRR.out] <;> rfl, HNN.out⟩
     cases a2 : inB x.d.first 0 (p.years - 1)
     case false =>
      have HX2 := Lib.hid (all_bad (p := fun x : Wk => wdB p.years p.slopes p.vs.length x.d) HX.out (show wdB p.years p.slopes p.vs.length x.d = false by rw [wdB_ref, a1, a2]; simp))
      have HRR : Hid (res = 1) := Lib.hid (HR1.out (bad5 HX2.out))
      have HNN := Lib.hid HB.out.1
      go_wp2_with (go_at_call 19; refine (in_anyW _ _ _ _).mono ?_; rintro e w' ⟨rfl, rfl⟩)
      go_ret
      exact ⟨by rw [HRR.out] <;> rfl, HNN.out⟩
     cases a3 : inB x.d.last x.d.first (p.years - 1)
     case false =>
      have HX2 := Lib.hid (all_bad (p := fun x : Wk => wdB p.years p.slopes p.vs.length x.d) HX.out (show wdB p.years p.slopes p.vs.length x.d = false by rw [wdB_ref, a1, a2, a3]; simp))
      have HRR : Hid (res = 1) := Lib.hid (HR1.out (bad5 HX2.out))
      have HNN := Lib.hid HB.out.1
      go_wp2_with (go_at_call 19; refine (in_anyW _ _ _ _).mono ?_; rintro e w' ⟨rfl, rfl⟩)
      go_ret
      exact ⟨by rw [HRR.out] <;> rfl, HNN.out⟩
     cases a4 : inB x.d.age 0 1000
     case false =>
      have HX2 := Lib.hid (all_bad (p := fun x : Wk => wdB p.years p.slopes p.vs.length x.d) HX.out (show wdB p.years p.slopes p.vs.length x.d = false by rw [wdB_ref, a1, a2, a3, a4]; simp))
      have HRR : Hid (res = 1) := Lib.hid (HR1.out (bad5 HX2.out))
      have HNN := Lib.hid HB.out.1
      go_wp2_with (go_at_call 19; refine (in_anyW _ _ _ _).mono ?_; rintro e w' ⟨rfl, rfl⟩)
      go_ret
      exact ⟨by rw [HRR.out] <;> rfl, HNN.out⟩
     cases a5 : inB x.d.village (-1) ((p.vs.length : Int) - 1)
     case false =>
      have HX2 := Lib.hid (all_bad (p := fun x : Wk => wdB p.years p.slopes p.vs.length x.d) HX.out (show wdB p.years p.slopes p.vs.length x.d = false by rw [wdB_ref, a1, a2, a3, a4, a5]; simp))
      have HRR : Hid (res = 1) := Lib.hid (HR1.out (bad5 HX2.out))
      have HNN := Lib.hid HB.out.1
      go_wp2_with (go_at_call 19; refine (in_anyW _ _ _ _).mono ?_; rintro e w' ⟨rfl, rfl⟩)
      go_ret
      exact ⟨by rw [HRR.out] <;> rfl, HNN.out⟩
     cases a6 : ((x.d.adds.length : Int) != p.slopes)
     case true =>
      have HX2 := Lib.hid (all_bad (p := fun x : Wk => wdB p.years p.slopes p.vs.length x.d) HX.out (show wdB p.years p.slopes p.vs.length x.d = false by rw [wdB_ref, a1, a2, a3, a4, a5, a6]; simp))
      have HRR : Hid (res = 1) := Lib.hid (HR1.out (bad5 HX2.out))
      have HNN := Lib.hid HB.out.1
      go_wp2_with (go_at_call 19; refine (in_anyW _ _ _ _).mono ?_; rintro e w' ⟨rfl, rfl⟩)
      go_ret
      exact ⟨by rw [HRR.out] <;> rfl, HNN.out⟩
     have HWD : Hid (wdB p.years p.slopes p.vs.length x.d = x.d.adds.all rgB) := Lib.hid (by rw [wdB_ref, a1, a2, a3, a4, a5, a6]; rfl)
     go_wp2_with (go_at_call 19; refine (in_anyW _ _ _ _).mono ?_; rintro e w' ⟨rfl, rfl⟩)
     clear a1 a2 a3 a4 a5 a6 wy wv1 d0 d1 d2 d3 d4 d5 x0 x1 x2 x3 x4 x5
     go_loopw [6] (fun s6 wr => ∃ j : Nat, j <= x.d.adds.length /\ s6 = .int .i64 j /\ newer w wr /\ Whole wr w.heap.size 28 (pmC p) /\ Whole wr xb 73 (wkC x) /\ early (fun r => !rgB r) x.d.adds j) (fun s6 _ => x.d.adds.length - (intOf s6).toNat)
     case atStart => exact ⟨0, Nat.zero_le _, rfl, HB.out.1, HB.out.2.1, HB.out.2.2, early_zero _ _⟩
     case round =>
      obtain ⟨j, hj, rfl, hbw, hbx, hwx, he⟩ := hrel
      clear HB
      have HE2 := Lib.hid he
      have d5 := hwx.at 5 (v := .slice x.a x.d.adds.length x.cp) rfl
      clear he
      by_cases hlt2 : j < x.d.adds.length
      ·have hjn : (j : Int) < x.d.adds.length := by omega
       obtain ⟨r, hr⟩ := get_of_lt hlt2
       obtain ⟨b3, o3, e3, _, c0, c1⟩ := row2 ((HOK.out.next hbw).ad x (List.mem_of_getElem? HX.out)) hr
       rw [e3] at d5
       have HB := Lib.hid (And.intro hbw (And.intro hbx hwx))
       have HRG := Lib.hid hr
       clear hbw hbx hwx hr e3
       by_cases t1 : r.lo < 0
       case pos =>
        have HT := Lib.hid (show rgB r = false by simp [rgB]; omega)
        have HX2 := Lib.hid (all_bad (p := fun x : Wk => wdB p.years p.slopes p.vs.length x.d) HX.out (show wdB p.years p.slopes p.vs.length x.d = false by rw [HWD.out, all_bad HRG.out HT.out]))
        have HRR : Hid (res = 1) := Lib.hid (HR1.out (bad5 HX2.out))
        have HNN := Lib.hid (newer_trans HB.out.1 (newer_allocH wr (.cells #[vi r.lo, vi r.hi] 75)))
        go_wp2_with (go_at_call 19; refine (in_anyW _ _ _ _).mono ?_; rintro e w' ⟨rfl, rfl⟩)
        go_ret
        exact ⟨by rw [HRR.out] <;> rfl, HNN.out⟩
       by_cases t2 : r.hi < r.lo
       case pos =>
        have HT := Lib.hid (show rgB r = false by simp [rgB]; omega)
        have HX2 := Lib.hid (all_bad (p := fun x : Wk => wdB p.years p.slopes p.vs.length x.d) HX.out (show wdB p.years p.slopes p.vs.length x.d = false by rw [HWD.out, all_bad HRG.out HT.out]))
        have HRR : Hid (res = 1) := Lib.hid (HR1.out (bad5 HX2.out))
        have HNN := Lib.hid (newer_trans HB.out.1 (newer_allocH wr (.cells #[vi r.lo, vi r.hi] 75)))
        go_wp2_with (go_at_call 19; refine (in_anyW _ _ _ _).mono ?_; rintro e w' ⟨rfl, rfl⟩)
        go_ret
        exact ⟨by rw [HRR.out] <;> rfl, HNN.out⟩
       by_cases t3 : 10000 < r.hi
       case pos =>
        have HT := Lib.hid (show rgB r = false by simp [rgB]; omega)
        have HX2 := Lib.hid (all_bad (p := fun x : Wk => wdB p.years p.slopes p.vs.length x.d) HX.out (show wdB p.years p.slopes p.vs.length x.d = false by rw [HWD.out, all_bad HRG.out HT.out]))
        have HRR : Hid (res = 1) := Lib.hid (HR1.out (bad5 HX2.out))
        have HNN := Lib.hid (newer_trans HB.out.1 (newer_allocH wr (.cells #[vi r.lo, vi r.hi] 75)))
        go_wp2_with (go_at_call 19; refine (in_anyW _ _ _ _).mono ?_; rintro e w' ⟨rfl, rfl⟩)
        go_ret
        exact ⟨by rw [HRR.out] <;> rfl, HNN.out⟩
       have HX2 := Lib.hid (early_succ HE2.out HRG.out (show (!rgB r) = false by simp [rgB]; omega))
       have HB2 := Lib.hid (And.intro (newer_trans HB.out.1 (newer_allocH wr (.cells #[vi r.lo, vi r.hi] 75))) (And.intro (HB.out.2.1.alloc (.cells #[vi r.lo, vi r.hi] 75)) (HB.out.2.2.alloc (.cells #[vi r.lo, vi r.hi] 75))))
       go_wp2_with fail
       go_roundw
       case rel => exact ⟨j + 1, by omega, by go_num, HB2.out.1, HB2.out.2.1, HB2.out.2.2, HX2.out⟩
       case measure => simp [intOf]; omega
      ·obtain rfl : j = x.d.adds.length := by omega
       have hjn : ¬ ((x.d.adds.length : Int) < x.d.adds.length) := by omega
       have HX2 := Lib.hid (early_succ HE.out HX.out (show (!wdB p.years p.slopes p.vs.length x.d) = false by rw [HWD.out, all_early HE2.out]; rfl))
       have HB := Lib.hid (And.intro hbw hbx)
       clear hbw hbx hwx
       go_wp2_with fail
       go_roundw
       case rel => exact ⟨k + 1, by omega, by go_num, HB.out.1, HB.out.2, HX2.out⟩
       case measure => simp [intOf]; omega
    ·obtain rfl : k = p.ws.length := by omega
     have hkn : ¬ ((p.ws.length : Int) < p.ws.length) := by omega
     have HWA := Lib.hid (all_early HE.out)
     have H0 := Lib.hid (And.intro hbw hbx)
     clear hbw hbx HE
     go_wp2_with fail
     clear x2
     go_loopw [8] (fun s8 wr => ∃ k : Nat, k <= p.ns.length /\ s8 = .int .i64 k /\ newer w wr /\ Whole wr w.heap.size 28 (pmC p) /\ early (fun n => !ndB p.years p.slopes n) p.ns k) (fun s8 _ => p.ns.length - (intOf s8).toNat)
     case atStart => exact ⟨0, Nat.zero_le _, rfl, H0.out.1, H0.out.2, early_zero _ _⟩
     case round =>
      obtain ⟨k, hk, rfl, hbw, hbx, he⟩ := hrel
      clear H0
      have HE := Lib.hid he
      have x0 := hbx.at 0 (v := vi p.years) rfl
      have x1 := hbx.at 1 (v := vi p.slopes) rfl
      have x3 := hbx.at 3 (v := .slice p.na p.ns.length p.nc) rfl
      clear he
      by_cases hlt : k < p.ns.length
      ·have hkn : (k : Int) < p.ns.length := by omega
       obtain ⟨n, hn⟩ := get_of_lt hlt
       obtain ⟨b2, o2, e2, _, c0, c1, c2⟩ := row3W (HOK.out.next hbw).ns hn
       rw [e2] at x3
       have HB := Lib.hid (And.intro (newer_trans hbw (newer_allocH wr (.cells #[vi n.slope, vi n.year, vi n.due] 49))) (hbx.alloc (.cells #[vi n.slope, vi n.year, vi n.due] 49)))
       have HN := Lib.hid hn
       have wy : IntKind.i64.wrap (p.years - 1) = p.years - 1 := IntWalk.i64_in _ (by omega)
       have ws1 : IntKind.i64.wrap (p.slopes - 1) = p.slopes - 1 := IntWalk.i64_in _ (by omega)
       have y0 := (hbx.alloc (.cells #[vi n.slope, vi n.year, vi n.due] 49)).at 0 (v := vi p.years) rfl
       have y1 := (hbx.alloc (.cells #[vi n.slope, vi n.year, vi n.due] 49)).at 1 (v := vi p.slopes) rfl
       clear hbw hbx hn e2
       cases b1 : inB n.slope 0 (p.slopes - 1)
       case false =>
        have HX2 := Lib.hid (all_bad HN.out (show ndB p.years p.slopes n = false by unfold ndB; rw [b1]; rfl))
        have HRR : Hid (res = 1) := Lib.hid (HR1.out (bad6 HX2.out))
        have HNN := Lib.hid HB.out.1
        go_wp2_with (go_at_call 19; refine (in_anyW _ _ _ _).mono ?_; rintro e w' ⟨rfl, rfl⟩)
        go_ret
        exact ⟨by rw [HRR.out] <;> rfl, HNN.out⟩
       cases b2' : inB n.year 0 (p.years - 1)
       case false =>
        have HX2 := Lib.hid (all_bad HN.out (show ndB p.years p.slopes n = false by unfold ndB; rw [b1, b2']; rfl))
        have HRR : Hid (res = 1) := Lib.hid (HR1.out (bad6 HX2.out))
        have HNN := Lib.hid HB.out.1
        go_wp2_with (go_at_call 19; refine (in_anyW _ _ _ _).mono ?_; rintro e w' ⟨rfl, rfl⟩)
        go_ret
        exact ⟨by rw [HRR.out] <;> rfl, HNN.out⟩
       cases b3' : inB n.due 1 10000
       case false =>
        have HX2 := Lib.hid (all_bad HN.out (show ndB p.years p.slopes n = false by unfold ndB; rw [b1, b2', b3']; rfl))
        have HRR : Hid (res = 1) := Lib.hid (HR1.out (bad6 HX2.out))
        have HNN := Lib.hid HB.out.1
        go_wp2_with (go_at_call 19; refine (in_anyW _ _ _ _).mono ?_; rintro e w' ⟨rfl, rfl⟩)
        go_ret
        exact ⟨by rw [HRR.out] <;> rfl, HNN.out⟩
       have HX2 := Lib.hid (early_succ HE.out HN.out (show (!ndB p.years p.slopes n) = false by unfold ndB; rw [b1, b2', b3']; rfl))
       go_wp2_with (go_at_call 19; refine (in_anyW _ _ _ _).mono ?_; rintro e w' ⟨rfl, rfl⟩)
       go_roundw
       case rel => exact ⟨k + 1, by omega, by go_num, HB.out.1, HB.out.2, HX2.out⟩
       case measure => simp [intOf]; omega
      ·obtain rfl : k = p.ns.length := by omega
       have hkn : ¬ ((p.ns.length : Int) < p.ns.length) := by omega
       have HNA := Lib.hid (all_early HE.out)
       have HRR : Hid (res = 0) := Lib.hid (HR0.out (by rw [HQ12.out.1, HQ12.out.2, HPA.out, HWA.out, HNA.out, decide_eq_true HG4.out]; rfl))
       have HNN := Lib.hid hbw
       clear hbw hbx HE
       go_wp2_with fail
       go_ret
       exact ⟨by rw [HRR.out] <;> rfl, HNN.out⟩
end

end Go.Proofs.Ytcdhhfgpdokkoaa
