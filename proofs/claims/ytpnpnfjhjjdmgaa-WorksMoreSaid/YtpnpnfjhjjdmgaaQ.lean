/- What the search for the best plan holds in memory. -/
import Derived.Test.YtpnpnfjhjjdmgaaP
import Derived.Deep.DeepAppendRoom
import Derived.ArgAppend
namespace Go.Proofs.Ytpnpnfjhjjdmgaa
open Go.RowKit
open Go.ChangeMaps (setBlock)

section
theorem cell_of_same {w W : World} {k : Nat} (h : W.heap[k]? = w.heap[k]?) (o : Nat) : W.cell? ⟨k, o, none⟩ = w.cell? ⟨k, o, none⟩ := by simp [World.cell?, h]
/-- One element behind a slice of one's own: in place, or in a block made now. -/
theorem wp_append_one {P : Program} {w : World} {o : Oper} {a : Act} {K : Act → World → Prop} {Q : Exit → Act → World → Prop} (s x : Operand) (t : TypeId)
    (ho : o.op = .call { callee := .builtin .append, args := #[s, x], argTypes := #[t, t] })
    (base : Nat) (e : TypeId) (i : TypeInfo) (z : Value) (bytes : Nat) (ht : P.underlying t = some (.slice e)) (hi : P.info? e = some i) (hz : i.zero = some z) (hsize : i.size = 1) (hby : i.bytes = bytes) (hzs : z.cells.size = 1)
    (A : Option Addr) (n c : Nat) (xs : List Value) (hs : a.eval s = .slice A n c) (hown : w.ownsRow base e 1 (.slice A n c) n xs)
    (ad : Addr) (c2 : Nat) (y : Value) (hx : a.eval x = .slice (some ad) 1 c2) (hy : w.cell? ad = some y) (hy1 : y.oneCell' = true)
    (h63 : n + 1 ≤ maxLen) (hbytes : (n + 1) * bytes ≤ 140737488355328) (hbase : base ≤ w.heap.size)
    (h : ∀ g c' w', w'.ownsRow base e 1 (.slice (some ⟨g, 0, none⟩) (n + 1) c') (n + 1) (xs ++ [y]) → ((A = some ⟨g, 0, none⟩ ∧ c' = c ∧ w.grownBy w' (some g)) ∨ (w.heap.size ≤ g ∧ w.grownBy w' none)) → K (a.put o.dst (.slice (some ⟨g, 0, none⟩) (n + 1) c')) w') : o.wp P a w K Q := by
  have hnews : ∀ j u, [y][j]? = some u → w.cell? (ad.add j) = some u := by
    intro j u hu
    obtain rfl : j = 0 := by
      rcases j with _ | j
      · rfl
      · simp at hu
    simp only [List.getElem?_cons_zero, Option.some.injEq] at hu
    subst hu
    rw [show ad.add 0 = ad by unfold Addr.add; split <;> simp_all]
    exact hy
  have h1 : ∀ u ∈ [y], u.oneCell' = true := fun u hu => by rw [List.mem_singleton.1 hu]; exact hy1
  rcases hown.2 with ⟨h0, hn0⟩ | ⟨g, cap, cur, hv, hb, hg, hnc, hcm, hcs, htk⟩
  · injection h0 with e1 e2 e3
    subst e1 e2 e3
    refine wp_append_lies w s x t ho base e i z 1 bytes ht hi hz hsize hby hzs (by omega) (.slice none 0 0) 0 xs hs hown ad 1 c2 [y] hx rfl hnews h1 (by omega) h63 hbytes hbase w.heap.size rfl ?_
    intro g cap w' hown2 hgrow hat _
    refine h g cap w' hown2 (.inr ⟨?_, hgrow⟩)
    rcases hat with hat | hat
    · simp [Value.ownBlock] at hat
    · omega
  · injection hv with e1 e2 e3
    subst e1 e3
    by_cases hroom : n + 1 ≤ c
    · refine wp_append_own_spare w s x t ho base e i 1 ht hi hsize g n c xs hs hown ad 1 c2 [y] hx rfl hnews h1 hroom ?_
      intro w' hown2 hgrow
      exact h g c w' hown2 (.inl ⟨rfl, rfl, hgrow⟩)
    · have holds : ∀ j u, xs[j]? = some u → w.cell? ((⟨g, 0, none⟩ : Addr).add j) = some u := hown.cells (g := g) rfl
      obtain ⟨v', w', hr, h2, h3⟩ := run_append_arg_grows (P := P) w t o.type e i z 1 bytes ht hi hz hsize hby hzs (by omega) ⟨g, 0, none⟩ n c xs hown.1 holds ad 1 c2 [y] rfl hnews (by omega) h63 hbytes
      obtain ⟨g2, cap, rfl, hg2, _⟩ := h2.form (by omega)
      unfold Oper.wp execOp
      simp only [ho, resolve, invoke, builtin, Sem.run_bind, Sem.run_pure, Result.andThen_ok, List.map_toArray, List.map_cons, List.map_nil, hs, hx, hr]
      exact h g2 cap w' (own_more h2 hbase) (.inr ⟨hg2, h3⟩)
theorem own_prefix {w : World} {base g n c : Nat} {e : TypeId} {xs : List Value} {y : Value} (h : w.ownsRow base e 1 (.slice (some ⟨g, 0, none⟩) (n + 1) c) (n + 1) (xs ++ [y])) : w.ownsRow base e 1 (.slice (some ⟨g, 0, none⟩) n c) n xs := by
  have hl := h.1
  rw [List.length_append, List.length_singleton] at hl
  rcases h.2 with ⟨h0, _⟩ | ⟨g2, cap, cur, hv, hb, hg, hnc, hcm, hcs, htk⟩
  · cases h0
  · refine ⟨by omega, .inr ⟨g2, cap, cur, ?_, hb, hg, by omega, hcm, hcs, ?_⟩⟩
    · injection hv with e1 _ e3
      rw [e1, e3]
    · have e1 : cur.toList.take (n * 1) = (cur.toList.take ((n + 1) * 1)).take (n * 1) := by rw [List.take_take]; congr 1; omega
      rw [e1, htk, List.take_append_of_le_length (by omega), List.take_of_length_le (by omega)]
end

/-- What the search's function closes over, and where it lies. -/
structure TP where
  p : Pm
  wo : Int
  fst : Bool
  B : Nat
  qb : Nat
  mb : Nat
  xb : Nat
  fb : Nat
  pb : Nat
  cb : Nat
  ob : Nat
  yb : Nat
  tb : Nat
  base : Nat
structure TpOk (T : TP) : Prop where
  p : PjOk T.p
  pc : T.p.ps.length ≤ T.p.pc
  hq : T.B ≤ T.qb
  hm : T.B ≤ T.mb
  qm : T.qb ≠ T.mb
  qx : T.qb < T.xb
  mx : T.mb < T.xb
  xf : T.xb < T.fb
  fp : T.fb < T.pb
  pc' : T.pb < T.cb
  co : T.cb < T.ob
  oy : T.ob < T.yb
  yt : T.yb < T.tb
  tB : T.tb < T.base
abbrev tpC (T : TP) : Array Value := #[.pointer (some ⟨T.fb, 0, none⟩), .pointer (some ⟨T.ob, 0, none⟩), .pointer (some ⟨T.cb, 0, none⟩), .pointer (some ⟨T.xb, 0, none⟩), .pointer (some ⟨T.pb, 0, none⟩), .pointer (some ⟨T.tb, 0, none⟩), .pointer (some ⟨T.yb, 0, none⟩)]
/-- A project lies below a block. -/
structure PmAt (p : Pm) (W : World) (B : Nat) : Prop where
  ws : Row wkL 6 W B p.wa p.ws
  ad : ∀ x ∈ p.ws, Row rgL 2 W B x.a x.d.adds
  ns : Row ndL 3 W B p.na p.ns
  vs : Row boL 1 W B p.va p.vs
  ps : Row intL 1 W B p.pa p.ps
theorem PmAt.ok {p : Pm} {W : World} {B : Nat} (h : PmAt p W B) (hB : B ≤ W.heap.size) : PmOk p W := ⟨h.ws.more hB, fun x hx => (h.ad x hx).more hB, h.ns.more hB, h.vs.more hB, h.ps.more hB⟩
theorem PmOk.at {p : Pm} {W : World} (h : PmOk p W) : PmAt p W W.heap.size := ⟨h.ws, h.ad, h.ns, h.vs, h.ps⟩
theorem PmAt.keep {p : Pm} {W W' : World} {B : Nat} (h : PmAt p W B) (hk : ∀ q : Addr, q.block < B → W'.cell? q = W.cell? q) : PmAt p W' B := ⟨h.ws.keep hk, fun x hx => (h.ad x hx).keep hk, h.ns.keep hk, h.vs.keep hk, h.ps.keep hk⟩
/-- The best so far, in memory. -/
def planIn (base : Nat) (b : Option (List Int × Int)) (pv : Value) (W : World) : Prop := match b with
  | none => pv = .slice none 0 0
  | some q => (∃ A c, pv = .slice A q.1.length c ∧ (q.1 = [] → A = none)) ∧ W.ownsRow base 3 1 pv q.1.length (q.1.map vi)
def costOf (b : Option (List Int × Int)) : Int := match b with
  | none => 0
  | some q => q.2
abbrev evB (b : Bool) : Value := .bool b
structure TryM (T : TP) (lp : List (SxK × Bool)) (b : Option (List Int × Int)) (pv : Value) (W : World) : Prop where
  q : Whole W T.qb 119 (plC T.p T.wo T.mb)
  pm : PmAt T.p W T.B
  map : RMap ekS evB T.mb lp W
  xb : Whole W T.xb 102 #[.pointer (some ⟨T.qb, 0, none⟩)]
  fb : Whole W T.fb 4 #[.bool T.fst]
  pb : Whole W T.pb 25 #[pv]
  cb : Whole W T.cb 3 #[vi (costOf b)]
  ob : Whole W T.ob 4 #[.bool b.isSome]
  yb : Whole W T.yb 93 #[.func (.func 62) #[pmV T.p] #[]]
  tb : Whole W T.tb 120 #[.func (.func 80) #[] (tpC T)]
  plan : planIn T.base b pv W
  le : T.base ≤ W.heap.size
/-- What the search may turn: its boxes, its map, one block of a list. -/
structure Moved (T : TP) (g : Option Nat) (w W : World) : Prop where
  os : W.os = w.os
  tape : W.tape = w.tape
  output : W.output = w.output
  size : w.heap.size ≤ W.heap.size
  block : ∀ k, k < w.heap.size → k ≠ T.mb → k ≠ T.pb → k ≠ T.cb → k ≠ T.ob → some k ≠ g → W.heap[k]? = w.heap[k]?
section
variable {T : TP} {g : Option Nat} {w W W' : World}
theorem Moved.refl (T : TP) (g : Option Nat) (w : World) : Moved T g w w := ⟨rfl, rfl, rfl, Nat.le_refl _, fun _ _ _ _ _ _ _ => rfl⟩
theorem Moved.trans (h : Moved T g w W) (k : Moved T g W W') : Moved T g w W' :=
  ⟨k.os.trans h.os, k.tape.trans h.tape, k.output.trans h.output, Nat.le_trans h.size k.size, fun i hi h1 h2 h3 h4 h5 => (k.block i (Nat.lt_of_lt_of_le hi h.size) h1 h2 h3 h4 h5).trans (h.block i hi h1 h2 h3 h4 h5)⟩
theorem Moved.ofNewer (T : TP) (g : Option Nat) (h : newer w W) : Moved T g w W := ⟨h.os, h.tape, h.output, h.size, fun i hi _ _ _ _ _ => h.block i hi⟩
theorem Moved.next (h : Moved T g w W) (k : newer W W') : Moved T g w W' := h.trans (.ofNewer T g k)
theorem Moved.ofGrown (T : TP) (h : w.grownBy W g) : Moved T g w W := ⟨h.os, h.tape, h.output, h.size, fun i hi _ _ _ _ h5 => h.block i hi h5⟩
theorem Moved.weak (h : Moved T none w W) (g : Option Nat) : Moved T g w W := ⟨h.os, h.tape, h.output, h.size, fun i hi h1 h2 h3 h4 _ => h.block i hi h1 h2 h3 h4 (by simp)⟩
theorem Moved.fresh {n : Nat} {u : World} (h : Moved T (some n) w W) (hu : Moved T g u w) (hn : u.heap.size ≤ n) : Moved T g u W :=
  ⟨h.os.trans hu.os, h.tape.trans hu.tape, h.output.trans hu.output, Nat.le_trans hu.size h.size, fun i hi h1 h2 h3 h4 h5 => (h.block i (Nat.lt_of_lt_of_le hi hu.size) h1 h2 h3 h4 (by rw [Ne, Option.some.injEq]; omega)).trans (hu.block i hi h1 h2 h3 h4 h5)⟩
theorem Moved.set (h : Moved T g w W) {p : Addr} (hp : p.block = T.pb ∨ p.block = T.cb ∨ p.block = T.ob ∨ w.heap.size ≤ p.block) (u : Value) : Moved T g w (W.setCell p u) :=
  ⟨h.os, h.tape, h.output, by simpa [World.setCell] using h.size, fun i hi h1 h2 h3 h4 h5 => (Below.heap_setCell W p u i (by rcases hp with e | e | e | e <;> omega)).trans (h.block i hi h1 h2 h3 h4 h5)⟩
theorem Moved.setBlock (h : Moved T g w W) (o : Obj) : Moved T g w (Go.ChangeMaps.setBlock W T.mb o) :=
  ⟨h.os, h.tape, h.output, by simp only [Go.ChangeMaps.setBlock, Array.size_setIfInBounds]; exact h.size, fun i hi h1 h2 h3 h4 h5 => (setBlock_get_ne o h1).trans (h.block i hi h1 h2 h3 h4 h5)⟩
theorem Moved.whole (h : Moved T g w W) {k : Nat} {t : TypeId} {cs : Array Value} (hw : Whole w k t cs) (h1 : k ≠ T.mb) (h2 : k ≠ T.pb) (h3 : k ≠ T.cb) (h4 : k ≠ T.ob) (h5 : some k ≠ g) : Whole W k t cs := hw.same (h.block k hw.lt h1 h2 h3 h4 h5)
/-- .. of a block behind the search's own. -/
theorem Moved.high (h : Moved T g w W) (hT : TpOk T) {k : Nat} {t : TypeId} {cs : Array Value} (hw : Whole w k t cs) (hk : T.base ≤ k) (h5 : some k ≠ g) : Whole W k t cs := by
  have := hT.mx
  have := hT.xf
  have := hT.fp
  have := hT.pc'
  have := hT.co
  have := hT.oy
  have := hT.yt
  have := hT.tB
  exact h.whole hw (by omega) (by omega) (by omega) (by omega) h5
theorem Moved.own (h : Moved T g w W) (hT : TpOk T) {v : Value} {n : Nat} {xs : List Value} (ho : w.ownsRow T.base 3 1 v n xs) (hne : ∀ k, v.ownBlock = some k → some k ≠ g) : W.ownsRow T.base 3 1 v n xs := by
  refine ⟨ho.1, ?_⟩
  rcases ho.2 with hn | ⟨q, cap, cur, rfl, hb, hgg, rest⟩
  · exact .inl hn
  · refine .inr ⟨q, cap, cur, rfl, hb, ?_, rest⟩
    exact h.high hT (cs := cur) hgg hb (hne q rfl)
theorem planIn.own {base : Nat} {b : Option (List Int × Int)} {pv : Value} {W : World} (h : planIn base b pv W) : ∃ n xs, W.ownsRow base 3 1 pv n xs := by
  cases b with
  | none =>
    have h : pv = .slice none 0 0 := h
    subst h
    exact ⟨0, [], World.ownsRow_nil W base 3 1⟩
  | some q => exact ⟨_, _, h.2⟩
theorem planIn.keep {base : Nat} {b : Option (List Int × Int)} {pv : Value} {W W' : World} (h : planIn base b pv W) (hk : ∀ n xs, W.ownsRow base 3 1 pv n xs → W'.ownsRow base 3 1 pv n xs) : planIn base b pv W' := by
  cases b with
  | none => exact h
  | some q => exact ⟨h.1, hk _ _ h.2⟩
variable {lp : List (SxK × Bool)} {b : Option (List Int × Int)} {pv : Value}
theorem TryM.lt (h : TryM T lp b pv W) (hT : TpOk T) : T.B ≤ W.heap.size := by
  have := h.q.lt
  have := hT.hq
  omega
theorem TryM.next (h : TryM T lp b pv W) (hT : TpOk T) (hb : newer W W') : TryM T lp b pv W' :=
  ⟨h.q.below hb h.q.lt, h.pm.keep (fun _ hq => hb.cell (Nat.lt_of_lt_of_le hq (h.lt hT))), h.map.next hb, h.xb.below hb h.xb.lt, h.fb.below hb h.fb.lt, h.pb.below hb h.pb.lt, h.cb.below hb h.cb.lt, h.ob.below hb h.ob.lt, h.yb.below hb h.yb.lt, h.tb.below hb h.tb.lt, h.plan.keep fun _ _ ho => own_below ho hb, Nat.le_trans h.le hb.size⟩
/-- A list's block has turned, which is not the plan's. -/
theorem TryM.grown (h : TryM T lp b pv W) (hT : TpOk T) (hb : W.grownBy W' g) (hg : ∀ k, g = some k → T.base ≤ k) (hp : ∀ k, pv.ownBlock = some k → g ≠ some k) : TryM T lp b pv W' := by
  have k1 := hT.qx
  have k2 := hT.mx
  have k3 := hT.xf
  have k4 := hT.fp
  have k5 := hT.pc'
  have k6 := hT.co
  have k7 := hT.oy
  have k8 := hT.yt
  have k9 := hT.tB
  have k0 := hT.hq
  have low : ∀ k, k < T.base → some k ≠ g := fun k hk e => by
    have := hg k e.symm
    omega
  have hs := h.le
  refine ⟨h.q.grown hb (low _ (by omega)), h.pm.keep (fun q hq => ?_), h.map.same (hb.block _ h.map.lt (low _ (by omega))), h.xb.grown hb (low _ (by omega)), h.fb.grown hb (low _ (by omega)), h.pb.grown hb (low _ (by omega)), h.cb.grown hb (low _ (by omega)), h.ob.grown hb (low _ (by omega)), h.yb.grown hb (low _ (by omega)), h.tb.grown hb (low _ (by omega)), h.plan.keep fun _ _ ho => ho.kept hb ?_, Nat.le_trans hs hb.size⟩
  · exact World.cell?_of_block (hb.block _ (by omega) (low _ (by omega)))
  · rcases Option.eq_none_or_eq_some pv.ownBlock with e | ⟨k, e⟩
    · exact .inl e
    · exact .inr fun e2 => hp k e (e2.symm.trans e)
/-- The map has been told of a state. -/
theorem TryM.put (h : TryM T lp b pv W) (hT : TpOk T) (lp' : List (SxK × Bool)) : TryM T lp' b pv (setBlock W T.mb (.map (ents ekS evB lp') lp'.length)) := by
  have k1 := hT.qx
  have k2 := hT.mx
  have k3 := hT.xf
  have k4 := hT.fp
  have k5 := hT.pc'
  have k6 := hT.co
  have k7 := hT.oy
  have k8 := hT.yt
  have k9 := hT.tB
  have k0 := hT.hm
  refine ⟨h.q.setBlock hT.qm _, h.pm.keep (fun q hq => ?_), h.map.put, h.xb.setBlock (by omega) _, h.fb.setBlock (by omega) _, h.pb.setBlock (by omega) _, h.cb.setBlock (by omega) _, h.ob.setBlock (by omega) _, h.yb.setBlock (by omega) _, h.tb.setBlock (by omega) _, h.plan.keep fun n xs ho => ?_, by simp only [setBlock, Array.size_setIfInBounds]; exact h.le⟩
  · exact World.cell?_of_block (setBlock_get_ne _ (by omega))
  · exact (Moved.setBlock (Moved.refl T none W) _).own hT ho (by simp)
/-- A plan has been found. -/
theorem TryM.found (h : TryM T lp b pv W) (hT : TpOk T) (l : List Int) (c : Int) {A : Option Addr} {ca : Nat} (hn : l = [] → A = none) (ho : W.ownsRow T.base 3 1 (.slice A l.length ca) l.length (l.map vi)) :
    TryM T lp (some (l, c)) (.slice A l.length ca) (((W.setCell ⟨T.pb, 0, none⟩ (.slice A l.length ca)).setCell ⟨T.cb, 0, none⟩ (vi c)).setCell ⟨T.ob, 0, none⟩ (.bool true)) := by
  have k1 := hT.qx
  have k2 := hT.mx
  have k3 := hT.xf
  have k4 := hT.fp
  have k5 := hT.pc'
  have k6 := hT.co
  have k7 := hT.oy
  have k8 := hT.yt
  have k9 := hT.tB
  have k0 := hT.hq
  have far : ∀ {k : Nat} {t : TypeId} {cs : Array Value}, Whole W k t cs → k ≠ T.pb → k ≠ T.cb → k ≠ T.ob → Whole (((W.setCell ⟨T.pb, 0, none⟩ (.slice A l.length ca)).setCell ⟨T.cb, 0, none⟩ (vi c)).setCell ⟨T.ob, 0, none⟩ (.bool true)) k t cs := fun hw h1 h2 h3 => ((hw.far (p := ⟨T.pb, 0, none⟩) h1 _).far (p := ⟨T.cb, 0, none⟩) h2 _).far (p := ⟨T.ob, 0, none⟩) h3 _
  have hmv : Moved T none W (((W.setCell ⟨T.pb, 0, none⟩ (.slice A l.length ca)).setCell ⟨T.cb, 0, none⟩ (vi c)).setCell ⟨T.ob, 0, none⟩ (.bool true)) := (((Moved.refl T none W).set (p := ⟨T.pb, 0, none⟩) (.inl rfl) _).set (p := ⟨T.cb, 0, none⟩) (.inr (.inl rfl)) _).set (p := ⟨T.ob, 0, none⟩) (.inr (.inr (.inl rfl))) _
  refine ⟨far h.q (by omega) (by omega) (by omega), h.pm.keep (fun q hq => ?_), ((h.map.far (p := ⟨T.pb, 0, none⟩) (by dsimp only; omega) _).far (p := ⟨T.cb, 0, none⟩) (by dsimp only; omega) _).far (p := ⟨T.ob, 0, none⟩) (by dsimp only; omega) _, far h.xb (by omega) (by omega) (by omega), far h.fb (by omega) (by omega) (by omega), ?_, ?_, ?_, far h.yb (by omega) (by omega) (by omega), far h.tb (by omega) (by omega) (by omega), ?_, ?_⟩
  · have hB := hT.hm
    exact World.cell?_of_block (hmv.block _ (by have := h.lt hT; omega) (by omega) (by omega) (by omega) (by omega) (by simp))
  · exact ((h.pb.set 0 _).far (p := ⟨T.cb, 0, none⟩) (by dsimp only; omega) _).far (p := ⟨T.ob, 0, none⟩) (by dsimp only; omega) _
  · exact ((h.cb.far (p := ⟨T.pb, 0, none⟩) (by dsimp only; omega) _).set 0 _).far (p := ⟨T.ob, 0, none⟩) (by dsimp only; omega) _
  · exact (((h.ob.far (p := ⟨T.pb, 0, none⟩) (by dsimp only; omega) _).far (p := ⟨T.cb, 0, none⟩) (by dsimp only; omega) _).set 0 _)
  · exact ⟨⟨A, ca, rfl, hn⟩, hmv.own hT ho (by simp)⟩
  · exact Nat.le_trans h.le hmv.size
/-- The map holds just what has been seen. -/
def Seen (lp : List (SxK × Bool)) (M : List Sx) : Prop := ∀ k : SxK, ((atR k lp 0).map fun p => p.2) = if k.1 ∈ M then some true else none
theorem atR_shift {K V : Type} [DecidableEq K] (a : K) : ∀ (l : List (K × V)) (i j : Nat), ((atR a l i).map fun p => p.2) = (atR a l j).map fun p => p.2
  | [], _, _ => rfl
  | p :: l, i, j => by
    simp only [atR]
    split
    · rfl
    · exact atR_shift a l (i + 1) (j + 1)
theorem atR_app {K V : Type} [DecidableEq K] (a b : K) (v : V) : ∀ (l : List (K × V)) (i : Nat), ((atR a (l ++ [(b, v)]) i).map fun p => p.2) = ((atR a l i).map fun p => p.2).orElse fun _ => if a = b then some v else none
  | [], i => by
    simp only [List.nil_append, atR]
    split <;> rfl
  | p :: l, i => by
    simp only [List.cons_append, atR]
    split
    · rfl
    · exact atR_app a b v l (i + 1)
theorem Seen.put {lp : List (SxK × Bool)} {M : List Sx} (h : Seen lp M) (k : SxK) (hk : k.1 ∉ M) : Seen (putR k true lp) (k.1 :: M) := by
  have h0 := h k
  rw [if_neg hk] at h0
  have hn : atR k lp 0 = none := by
    cases hh : atR k lp 0 with
    | none => rfl
    | some p => rw [hh] at h0; cases h0
  intro j
  have e : putR k true lp = lp ++ [(k, true)] := by unfold putR; rw [hn]
  rw [e, atR_app, h j]
  by_cases hj : j.1 ∈ M
  · rw [if_pos hj, if_pos (List.mem_cons_of_mem _ hj)]
    rfl
  · rw [if_neg hj]
    by_cases hjk : j = k
    · subst hjk
      rw [if_pos (by simp)]
      simp
    · have hne : ¬ (j.1 ∈ k.1 :: M) := by
        intro hm
        rcases List.mem_cons.1 hm with e1 | e1
        · exact hjk (Subtype.ext e1)
        · exact hj e1
      rw [if_neg hne]
      simp [hjk]
theorem Seen.nil : Seen [] [] := fun _ => rfl
theorem Seen.look {lp : List (SxK × Bool)} {M : List Sx} (h : Seen lp M) (k : SxK) : (((atR k lp 0).map fun p => evB p.2).getD (.bool false)) = .bool (decide (k.1 ∈ M)) := by
  have h0 := h k
  cases hh : atR k lp 0 with
  | none =>
    rw [hh] at h0
    by_cases hm : k.1 ∈ M
    · rw [if_pos hm] at h0; cases h0
    · simp [hm]
  | some p =>
    rw [hh] at h0
    by_cases hm : k.1 ∈ M
    · rw [if_pos hm] at h0
      injection h0 with h1
      simp [hm, h1]
    · rw [if_neg hm] at h0; cases h0
/-- What a call has left of the plan's block. -/
def pvNew (pv pv' : Value) (w : World) : Prop := pv' = pv ∨ ∀ k, pv'.ownBlock = some k → w.heap.size ≤ k
def PNe (pv v : Value) : Prop := ∀ k, pv.ownBlock = some k → v.ownBlock ≠ some k
theorem PNe.of {pv pv' v : Value} {w : World} (h : PNe pv v) (hn : pvNew pv pv' w) (hv : ∀ k, v.ownBlock = some k → k < w.heap.size) : PNe pv' v := by
  intro k hk hv2
  rcases hn with rfl | hn
  · exact h k hk hv2
  · have := hn k hk
    have := hv k hv2
    omega
theorem pvNew.trans {pv pv1 pv2 : Value} {w w1 : World} (h : pvNew pv pv1 w) (k : pvNew pv1 pv2 w1) (hs : w.heap.size ≤ w1.heap.size) : pvNew pv pv2 w := by
  rcases k with rfl | k
  · exact h
  · exact .inr fun q hq => Nat.le_trans hs (k q hq)
/-- How an append has gone on. -/
def Onto1 (A : Option Addr) (c g c' : Nat) (w w' : World) : Prop := (A = some ⟨g, 0, none⟩ ∧ c' = c ∧ w.grownBy w' (some g)) ∨ (w.heap.size ≤ g ∧ w.grownBy w' none)
theorem Onto1.grown {A : Option Addr} {c n g c' : Nat} {w w' : World} (h : Onto1 A c g c' w w') : w.grownBy w' (Value.slice A n c).ownBlock := by
  rcases h with ⟨rfl, _, h⟩ | ⟨_, h⟩
  · exact h
  · exact h.but _
theorem Onto1.pne {A : Option Addr} {c n g c' : Nat} {w w' : World} {pv : Value} (h : Onto1 A c g c' w w') (hp : PNe pv (.slice A n c)) (hl : ∀ k, pv.ownBlock = some k → k < w.heap.size) : PNe pv (.slice (some ⟨g, 0, none⟩) (n + 1) c') := by
  intro k hk e
  have e : g = k := by simpa [Value.ownBlock] using e
  subst e
  rcases h with ⟨rfl, _, _⟩ | ⟨h, _⟩
  · exact hp g hk rfl
  · have := hl g hk
    omega
/-- Behind a call that has had the longer list. -/
theorem Onto1.back {A : Option Addr} {c n g c' : Nat} {w w1 w2 : World} {xs : List Value} {y : Value} (h : Onto1 A c g c' w w1) (hT : TpOk T) (ho : w.ownsRow T.base 3 1 (.slice A n c) n xs) (hm : Moved T (some g) w1 w2) (ho2 : w2.ownsRow T.base 3 1 (.slice (some ⟨g, 0, none⟩) (n + 1) c') (n + 1) (xs ++ [y])) :
    w2.ownsRow T.base 3 1 (.slice A n c) n xs ∧ Moved T (Value.slice A n c).ownBlock w w2 := by
  rcases h with ⟨rfl, rfl, h⟩ | ⟨h, hg⟩
  · exact ⟨own_prefix ho2, (Moved.ofGrown T h).trans hm⟩
  · have h1 : w1.ownsRow T.base 3 1 (.slice A n c) n xs := ho.kept hg (by rcases Option.eq_none_or_eq_some (Value.slice A n c).ownBlock with e | ⟨k, e⟩ <;> simp [e])
    refine ⟨hm.own hT h1 fun k hk e => ?_, Moved.fresh hm ((Moved.ofGrown T hg).weak _) h⟩
    have := own_lt ho k hk
    injection e with e
    omega
end
end Go.Proofs.Ytpnpnfjhjjdmgaa
