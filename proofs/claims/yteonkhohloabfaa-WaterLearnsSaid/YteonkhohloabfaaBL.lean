/- A map whose keys are structs, as a list of pairs in the order in which the keys came in: look-ups, stores, ranges. -/
import Derived.Below
import Derived.Maps.Own
import Derived.Maps.OwnOps
import Derived.Maps.RangeRun
import Derived.Test.YteonkhohloabfaaL
import Derived.Test.YteonkhohloabfaaD
namespace Go.Proofs.Yteonkhohloabfaa
open Go.ChangeMaps (setBlock)
open Go.RowKit

section
variable {K V : Type}
/-- The entries of a list of pairs. -/
def entL (ek : K → Value) (ev : V → Value) : List (K × V) → Nat → List MapEntry
  | [], _ => []
  | p :: l, i => { key := ek p.1, val := ev p.2, born := i } :: entL ek ev l (i + 1)
def ents (ek : K → Value) (ev : V → Value) (l : List (K × V)) : Array MapEntry := (entL ek ev l 0).toArray
theorem entL_len (ek : K → Value) (ev : V → Value) : ∀ (l : List (K × V)) (i : Nat), (entL ek ev l i).length = l.length
  | [], _ => rfl
  | _ :: l, i => by simp [entL, entL_len ek ev l (i + 1)]
theorem entL_get (ek : K → Value) (ev : V → Value) : ∀ (l : List (K × V)) (i j : Nat), (entL ek ev l i)[j]? = l[j]?.map fun p => { key := ek p.1, val := ev p.2, born := i + j }
  | [], _, _ => by simp [entL]
  | _ :: _, _, 0 => by simp [entL]
  | _ :: l, i, j + 1 => by
    simp only [entL, List.getElem?_cons_succ, entL_get ek ev l (i + 1) j]
    rw [show i + 1 + j = i + (j + 1) by omega]
theorem entL_append (ek : K → Value) (ev : V → Value) : ∀ (l m : List (K × V)) (i : Nat), entL ek ev (l ++ m) i = entL ek ev l i ++ entL ek ev m (i + l.length)
  | [], m, i => by simp [entL]
  | p :: l, m, i => by
    simp only [List.cons_append, entL, entL_append ek ev l m (i + 1), List.length_cons]
    rw [show i + 1 + l.length = i + (l.length + 1) by omega]
theorem entL_mem {ek : K → Value} {ev : V → Value} : ∀ {l : List (K × V)} {i : Nat} {e : MapEntry}, e ∈ entL ek ev l i → ∃ j p, l[j]? = some p ∧ e = { key := ek p.1, val := ev p.2, born := i + j }
  | l, i, e, h => by
    obtain ⟨j, hj⟩ := List.mem_iff_getElem?.1 h
    rw [entL_get] at hj
    obtain ⟨p, hp, rfl⟩ := Option.map_eq_some_iff.1 hj
    exact ⟨j, p, hp, rfl⟩
theorem entL_born (ek : K → Value) (ev : V → Value) : ∀ (l : List (K × V)) (i : Nat), ((entL ek ev l i).map (·.born)) = List.range' i l.length
  | [], _ => rfl
  | _ :: l, i => by simp [entL, entL_born ek ev l (i + 1), List.range'_succ]

variable [DecidableEq K]
/-- The value at a key, with its place. -/
def atR (a : K) : List (K × V) → Nat → Option (Nat × V)
  | [], _ => none
  | p :: l, i => if a = p.1 then some (i, p.2) else atR a l (i + 1)
def putR (a : K) (v : V) (l : List (K × V)) : List (K × V) := match atR a l 0 with
  | some (i, _) => l.set i (a, v)
  | none => l ++ [(a, v)]
theorem atR_some {a : K} : ∀ {l : List (K × V)} {i j : Nat} {v : V}, atR a l i = some (j, v) → i ≤ j ∧ l[j - i]? = some (a, v)
  | p :: l, i, j, v, h => by
    simp only [atR] at h
    by_cases e : a = p.1
    · rw [if_pos e] at h
      injection h with h
      injection h with h1 h2
      subst h1
      subst h2
      exact ⟨Nat.le_refl _, by simp [e]⟩
    · rw [if_neg e] at h
      obtain ⟨h1, h2⟩ := atR_some h
      refine ⟨by omega, ?_⟩
      rw [show j - i = (j - (i + 1)) + 1 by omega]
      exact h2
theorem atR_none {a : K} : ∀ {l : List (K × V)} {i : Nat}, atR a l i = none → ∀ p ∈ l, a ≠ p.1
  | q :: l, i, h, p, hp => by
    simp only [atR] at h
    by_cases e : a = q.1
    · rw [if_pos e] at h; cases h
    · rw [if_neg e] at h
      rcases List.mem_cons.1 hp with rfl | hp
      · exact e
      · exact atR_none h p hp

/-- What is asked of a struct type whose values are keys. -/
structure EqKey (P : Program) (kt : TypeId) (ek : K → Value) : Prop where
  eq : ∀ (a b : K) (W : World), (Op.equal kt (ek a) (ek b)).run P W = .ok (decide (a = b)) W
  check : ∀ (c : Bool) (a : K) (W : World), (Instr.checkKey c 10000 kt (ek a)).run P W = .ok () W
  bits : ∀ a : K, Instr.sameBits 10000 (ek a) (ek a) = true
  desc : ∃ fs, P.underlying kt = some (.struct fs)
theorem asking_run {P : Program} {kt : TypeId} {ek : K → Value} (E : EqKey P kt ek) (ev : V → Value) (a : K) (W : World) : ∀ (l : List (K × V)) (i0 i : Nat), (Instr.findAsking kt (ek a) (entL ek ev l i0) i).run P W = .ok ((atR a l i).map fun p => (p.1, ev p.2)) W
  | [], _, _ => rfl
  | p :: l, i0, i => by
    simp only [entL, Instr.findAsking, Sem.run_bind, E.eq a p.1 W, Result.andThen, atR]
    by_cases e : a = p.1
    · simp [e]
    · simp only [e, decide_false, Bool.false_eq_true, if_false]
      exact asking_run E ev a W l (i0 + 1) (i + 1)
omit [DecidableEq K] in
theorem findNow_struct (fs : Array Field) (k : Value) (e : MapEntry) (es : List MapEntry) (i : Nat) : Instr.findNow (.struct fs) k (e :: es) i = none := by
  simp [Instr.findNow, Instr.sameNow]
theorem find_run {P : Program} {kt : TypeId} {ek : K → Value} (E : EqKey P kt ek) (ev : V → Value) (a : K) (W : World) (l : List (K × V)) : (Instr.findKey kt (ek a) (ents ek ev l).toList).run P W = .ok ((atR a l 0).map fun p => (p.1, ev p.2)) W := by
  obtain ⟨fs, hd⟩ := E.desc
  unfold Instr.findKey
  simp only [Sem.run_bind, run_underlying hd, Result.andThen, ents]
  cases l with
  | nil => rfl
  | cons p l =>
    have h := asking_run E ev a W (p :: l) 0 0
    simp only [entL] at h ⊢
    rw [findNow_struct]
    exact h

/-- The map lies in block b, with these pairs. -/
structure RMap (ek : K → Value) (ev : V → Value) (b : Nat) (l : List (K × V)) (W : World) : Prop where
  at_ : W.heap[b]? = some (.map (ents ek ev l) l.length)
omit [DecidableEq K] in
theorem RMap.lt {ek : K → Value} {ev : V → Value} {b : Nat} {l : List (K × V)} {W : World} (h : RMap ek ev b l W) : b < W.heap.size := (Array.getElem?_eq_some_iff.1 h.at_).1
omit [DecidableEq K] in
theorem RMap.same {ek : K → Value} {ev : V → Value} {b : Nat} {l : List (K × V)} {W W' : World} (h : RMap ek ev b l W) (hs : W'.heap[b]? = W.heap[b]?) : RMap ek ev b l W' := ⟨hs.trans h.at_⟩
omit [DecidableEq K] in
theorem RMap.below {ek : K → Value} {ev : V → Value} {b B : Nat} {l : List (K × V)} {W W' : World} (h : RMap ek ev b l W) (hb : Below B W W') (hB : b < B) : RMap ek ev b l W' := h.same (hb.block b hB)
omit [DecidableEq K] in
theorem RMap.next {ek : K → Value} {ev : V → Value} {b : Nat} {l : List (K × V)} {W W' : World} (h : RMap ek ev b l W) (hb : newer W W') : RMap ek ev b l W' := h.below hb h.lt
omit [DecidableEq K] in
theorem RMap.far {ek : K → Value} {ev : V → Value} {b : Nat} {l : List (K × V)} {W : World} (h : RMap ek ev b l W) {p : Addr} (hp : b ≠ p.block) (u : Value) : RMap ek ev b l (W.setCell p u) := h.same (Below.heap_setCell W p u b hp)
omit [DecidableEq K] in
theorem RMap.made (ek : K → Value) (ev : V → Value) (W : World) : RMap ek ev W.heap.size [] (W.alloc (.map #[] 0)) := ⟨by simp only [World.alloc, Array.getElem?_push_size]; rfl⟩

theorem lookup_run {P : Program} {kt vt mt : TypeId} {ek : K → Value} {ev : V → Value} (E : EqKey P kt ek) (ht : P.underlying mt = some (.map kt vt)) {z : Value} {W : World} (hz : (zeroValue vt).run P W = .ok z W) {b : Nat} {l : List (K × V)} (h : RMap ek ev b l W) (a : K) (ok : Bool) :
    (Instr.lookup mt (.map (some b)) (ek a) ok).run P W = .ok (if ok then .tuple #[((atR a l 0).map fun p => ev p.2).getD z, .bool (atR a l 0).isSome] else ((atR a l 0).map fun p => ev p.2).getD z) W := by
  unfold Instr.lookup
  simp only [Sem.run_bind, run_underlying ht, Result.andThen, MapKept.run_getObj_map h.at_, Sem.run_pure, E.check, find_run E ev a W l]
  cases hh : atR a l 0 with
  | none => simp only [Option.map_none, Sem.run_bind, hz, Result.andThen, Sem.run_pure]; cases ok <;> rfl
  | some p => simp only [Option.map_some]; cases ok <;> rfl

omit [DecidableEq K] in
theorem ents_push (ek : K → Value) (ev : V → Value) (l : List (K × V)) (a : K) (v : V) : (ents ek ev l).push { key := ek a, val := ev v, born := l.length } = ents ek ev (l ++ [(a, v)]) := by
  unfold ents
  rw [entL_append]
  simp [entL]
omit [DecidableEq K] in
theorem ents_modify (ek : K → Value) (ev : V → Value) (l : List (K × V)) (i : Nat) (a : K) (v v0 : V) (h : l[i]? = some (a, v0)) : (ents ek ev l).modify i (fun e => { e with key := ek a, val := ev v }) = ents ek ev (l.set i (a, v)) := by
  apply Array.ext'
  rw [Array.toList_modify]
  apply List.ext_getElem?
  intro j
  unfold ents
  rw [List.getElem?_modify, entL_get, entL_get, List.getElem?_set]
  by_cases e : i = j
  · subst e
    have hi := (List.getElem?_eq_some_iff.1 h).1
    rw [h]
    simp [hi]
  · simp [e]
theorem update_run {P : Program} {kt vt mt : TypeId} {ek : K → Value} {ev : V → Value} (E : EqKey P kt ek) (ht : P.underlying mt = some (.map kt vt)) {W : World} {b : Nat} {l : List (K × V)} (h : RMap ek ev b l W) (a : K) (v : V) :
    (Instr.mapUpdate mt (.map (some b)) (ek a) (ev v)).run P W = .ok () (setBlock W b (.map (ents ek ev (putR a v l)) (putR a v l).length)) := by
  unfold Instr.mapUpdate
  simp only [Sem.run_bind, run_underlying ht, Result.andThen, MapKept.run_getObj_map h.at_, E.check, find_run E ev a W l]
  unfold putR
  cases hh : atR a l 0 with
  | none =>
    simp only [Option.map_none, MapKept.run_setObj_map _ h.at_]
    rw [ents_push]
    simp [setBlock]
  | some p =>
    obtain ⟨i, v0⟩ := p
    obtain ⟨_, hi⟩ := atR_some hh
    simp only [Nat.sub_zero] at hi
    have hk : (((ents ek ev l)[i]?).map (·.key)).getD (ek a) = ek a := by
      unfold ents
      simp [entL_get, hi]
    simp only [Option.map_some, Sem.run_bind, hk, Instr.keyThatStays, E.bits a, if_true, Sem.run_pure, Result.andThen, MapKept.run_setObj_map _ h.at_]
    rw [ents_modify ek ev l i a v v0 hi]
    simp [setBlock]
end

/-! ## The world behind a store in a map -/
theorem setBlock_get_ne {W : World} {b g : Nat} (o : Obj) (h : g ≠ b) : (setBlock W b o).heap[g]? = W.heap[g]? := by
  simp only [setBlock]
  rw [Array.getElem?_setIfInBounds_ne (Ne.symm h)]
theorem below_setBlock {B : Nat} {w W : World} {b : Nat} (h : Below B w W) (hb : B ≤ b) (o : Obj) : Below B w (setBlock W b o) :=
  ⟨h.os, h.tape, h.output, by simp only [setBlock, Array.size_setIfInBounds]; exact h.size, fun i hi => (setBlock_get_ne o (by omega)).trans (h.block i hi)⟩
section
variable {K V : Type}
theorem RMap.put {ek : K → Value} {ev : V → Value} {b : Nat} {l l' : List (K × V)} {W : World} (h : RMap ek ev b l W) : RMap ek ev b l' (setBlock W b (.map (ents ek ev l') l'.length)) :=
  ⟨by simp only [setBlock]; rw [Array.getElem?_setIfInBounds_self_of_lt h.lt]⟩
theorem Whole.setBlock {W : World} {g b : Nat} {t : TypeId} {cs : Array Value} (h : Whole W g t cs) (hne : g ≠ b) (o : Obj) : Whole (Go.ChangeMaps.setBlock W b o) g t cs := (setBlock_get_ne o hne).trans h

variable [DecidableEq K]
theorem wpList_lookup_r {P : Program} (w : World) {ops : Array Oper} {rest : List Oper} {o : Oper} {a : Act} {Q : Exit → Act → World → Prop} (hg : o.guard = none) (m x : Operand) (t : TypeId) (c : Bool) (hop : o.op = Op.lookup t m x c)
    {kt vt : TypeId} {ek : K → Value} {ev : V → Value} (E : EqKey P kt ek) (ht : P.underlying t = some (.map kt vt)) {z : Value} (hz : (zeroValue vt).run P w = .ok z w) (b : Nat) (l : List (K × V)) (hm : a.eval m = .map (some b)) (h : RMap ek ev b l w) (k : K) (hx : a.eval x = ek k)
    (hK : wpList P ops Q rest (a.put o.dst (if c then .tuple #[((atR k l 0).map fun p => ev p.2).getD z, .bool (atR k l 0).isSome] else ((atR k l 0).map fun p => ev p.2).getD z)) w) :
    wpList P ops Q (o :: rest) a w := by
  refine wpList_plain hg fun K' hK' => ?_
  unfold Oper.wp
  simp only [execOp, hop, hm, hx, lookup_run E ht hz h k c, Sem.run_bind, Result.andThen]
  exact hK' _ _ hK
theorem wpList_update_r {P : Program} (w : World) {ops : Array Oper} {rest : List Oper} {o : Oper} {a : Act} {Q : Exit → Act → World → Prop} (hg : o.guard = none) (m x v : Operand) (t : TypeId) (hop : o.op = Op.mapUpdate t m x v)
    {kt vt : TypeId} {ek : K → Value} {ev : V → Value} (E : EqKey P kt ek) (ht : P.underlying t = some (.map kt vt)) (b : Nat) (l : List (K × V)) (hm : a.eval m = .map (some b)) (h : RMap ek ev b l w) (k : K) (y : V) (hx : a.eval x = ek k) (hv : a.eval v = ev y)
    (hK : wpList P ops Q rest (a.put o.dst undef) (setBlock w b (.map (ents ek ev (putR k y l)) (putR k y l).length))) :
    wpList P ops Q (o :: rest) a w := by
  refine wpList_plain hg fun K' hK' => ?_
  unfold Oper.wp
  simp only [execOp, hop, hm, hx, hv, update_run E ht h k y, Sem.run_bind, Result.andThen]
  exact hK' _ _ hK
end

/-! ## A range over a map that its rounds leave as it is -/
def unseen (n : Nat) (seen : Array Nat) : Nat := ((List.range n).filter fun j => !seen.contains j).length
theorem unseen_push {n j : Nat} {seen : Array Nat} (hj : j < n) (hs : seen.contains j = false) : unseen n (seen.push j) + 1 = unseen n seen := by
  unfold unseen
  have e : (List.range n).filter (fun i => !(seen.push j).contains i) = ((List.range n).filter fun i => !seen.contains i).filter (fun i => decide (i ≠ j)) := by
    rw [List.filter_filter]
    apply List.filter_congr
    intro i _
    by_cases hij : i = j
    · subst hij; simp
    · simp [hij]
  rw [e]
  exact filter_ne_length j _ (List.nodup_range.filter _) (List.mem_filter.2 ⟨List.mem_range.2 hj, by simpa using hs⟩)
theorem unseen_zero {n : Nat} {seen : Array Nat} (h : ∀ j, j < n → seen.contains j = true) : unseen n seen = 0 := by
  unfold unseen
  rw [List.length_eq_zero_iff, List.filter_eq_nil_iff]
  intro j hj
  simpa using h j (List.mem_range.1 hj)
section
variable {K V : Type}
/-- The iterator in block r, over the map in block b. -/
structure RIter (ek : K → Value) (ev : V → Value) (b : Nat) (l : List (K × V)) (r : Nat) (seen : Array Nat) (W : World) : Prop where
  map : RMap ek ev b l W
  it : W.heap[r]? = some (.mapIter (some b) l.length seen l.length)
theorem RIter.lt {ek : K → Value} {ev : V → Value} {b r : Nat} {l : List (K × V)} {seen : Array Nat} {W : World} (h : RIter ek ev b l r seen W) : r < W.heap.size := (Array.getElem?_eq_some_iff.1 h.it).1
theorem RIter.next {ek : K → Value} {ev : V → Value} {b r : Nat} {l : List (K × V)} {seen : Array Nat} {W W' : World} (h : RIter ek ev b l r seen W) (hb : newer W W') : RIter ek ev b l r seen W' := ⟨h.map.next hb, (hb.block r h.lt).trans h.it⟩
def stepsLeft (r n : Nat) (W : World) : Nat := match W.heap[r]? with
  | some (.mapIter _ _ seen _) => unseen n seen
  | _ => 0
theorem RIter.left {ek : K → Value} {ev : V → Value} {b r : Nat} {l : List (K × V)} {seen : Array Nat} {W : World} (h : RIter ek ev b l r seen W) (n : Nat) : stepsLeft r n W = unseen n seen := by
  unfold stepsLeft
  rw [h.it]
theorem wpList_range_r {P : Program} (w : World) {ops : Array Oper} {rest : List Oper} {o : Oper} {a : Act} {Q : Exit → Act → World → Prop} (hg : o.guard = none) (m : Operand) (t : TypeId) (hop : o.op = Op.range t m)
    {kt vt : TypeId} {ek : K → Value} {ev : V → Value} (ht : P.underlying t = some (.map kt vt)) (b : Nat) (l : List (K × V)) (hm : a.eval m = .map (some b)) (h : RMap ek ev b l w)
    (hK : ∀ w', newer w w' → RIter ek ev b l w.heap.size #[] w' → wpList P ops Q rest (a.put o.dst (.pointer (some ⟨w.heap.size, 0, none⟩))) w') :
    wpList P ops Q (o :: rest) a w := by
  refine wpList_plain hg fun K' hK' => ?_
  unfold Oper.wp
  simp only [execOp, hop, hm, run_range_map w t kt vt b _ _ ht h.at_, Sem.run_bind, Result.andThen]
  have hn : newer w (w.alloc (.mapIter (some b) l.length #[] l.length)) := (Below.refl _ _).alloc (Nat.le_refl _) _
  exact hK' _ _ (hK _ hn ⟨h.next hn, heap_alloc_new w _⟩)
theorem ents_hold (ek : K → Value) (ev : V → Value) (l : List (K × V)) : ∀ x ∈ (ents ek ev l).toList, x.born < l.length := by
  intro x hx
  obtain ⟨j, p, hp, rfl⟩ := entL_mem hx
  have := (List.getElem?_eq_some_iff.1 hp).1
  simpa using this
theorem ents_nodup (ek : K → Value) (ev : V → Value) (l : List (K × V)) : ((ents ek ev l).toList.map (·.born)).Nodup := by
  unfold ents
  rw [entL_born]
  exact List.nodup_range'
/-- A step: nothing is left, or some pair that has not come yet. -/
theorem wpList_next_r {P : Program} (w : World) {ops : Array Oper} {rest : List Oper} {o : Oper} {a : Act} {Q : Exit → Act → World → Prop} (hg : o.guard = none) (it : Operand) (hop : o.op = Op.next it false)
    {ek : K → Value} {ev : V → Value} (b r : Nat) (l : List (K × V)) (seen : Array Nat) (hit : a.eval it = .pointer (some ⟨r, 0, none⟩)) (h : RIter ek ev b l r seen w)
    (hDone : (∀ j, j < l.length → seen.contains j = true) → wpList P ops Q rest (a.put o.dst (.tuple #[.bool false])) w)
    (hMore : ∀ (j : Nat) (p : K × V) (w' : World), l[j]? = some p → seen.contains j = false → RIter ek ev b l r (seen.push j) w' → (∀ B, B ≤ r → Below B w w') → w'.heap.size = w.heap.size → (∀ g, g ≠ r → w'.heap[g]? = w.heap[g]?) →
      (Instr.entry (.pointer (some ⟨r, 0, none⟩))).run P w' = .ok (.tuple #[ek p.1, ev p.2]) w' → wpList P ops Q rest (a.put o.dst (.tuple #[.bool true, ek p.1, ev p.2])) w') :
    wpList P ops Q (o :: rest) a w := by
  refine wpList_plain hg fun K' hK' => ?_
  unfold Oper.wp
  rcases run_next_at (P := P) w o.type r b l.length l.length seen _ _ h.it h.map.at_ (ents_hold ek ev l) (Nat.le_refl _) with ⟨h0, hrun⟩ | ⟨e, he, w1, hw1, hrun⟩
  · simp only [execOp, hop, hit, hrun, Sem.run_bind, Result.andThen]
    refine hK' _ _ (hDone fun j hj => ?_)
    cases hc : seen.contains j with
    | true => rfl
    | false =>
      exfalso
      have hm : ({ key := ek l[j].1, val := ev l[j].2, born := j } : MapEntry) ∈ leftOf (ents ek ev l) seen := by
        unfold leftOf
        rw [Array.mem_filter]
        refine ⟨?_, by simpa using hc⟩
        have hg : (entL ek ev l 0)[j]? = some { key := ek l[j].1, val := ev l[j].2, born := j } := by
          rw [entL_get, List.getElem?_eq_getElem hj]
          simp
        have := List.mem_of_getElem? hg
        simpa [ents] using this
      have := Array.size_pos_of_mem hm
      omega
  · have he' : e ∈ leftOf (ents ek ev l) seen := by simpa using he
    unfold leftOf at he'
    rw [Array.mem_filter] at he'
    obtain ⟨hin, hs⟩ := he'
    obtain ⟨j, p, hp, rfl⟩ := entL_mem (ek := ek) (ev := ev) (l := l) (i := 0) (by simpa [ents] using hin)
    simp only [Nat.zero_add, Bool.not_eq_true'] at hs
    have hjl := (List.getElem?_eq_some_iff.1 hp).1
    simp only [execOp, hop, hit, hrun, Sem.run_bind, Result.andThen]
    simp only [Nat.zero_add]
    have hh : w1.heap = w.heap := by rcases hw1 with rfl | rfl <;> rfl
    have hit' : (setBlock w1 r (.mapIter (some b) l.length (seen.push j) l.length)).heap[r]? = some (.mapIter (some b) l.length (seen.push j) l.length) := by
      simp only [setBlock]
      rw [Array.getElem?_setIfInBounds_self_of_lt (by rw [hh]; exact h.lt)]
    have hne : b ≠ r := by
      intro e
      have h1 := h.map.at_
      rw [e, h.it] at h1
      injection h1 with h1
      cases h1
    have hother : ∀ g, g ≠ r → (setBlock w1 r (.mapIter (some b) l.length (seen.push j) l.length)).heap[g]? = w.heap[g]? := by
      intro g hgr
      rw [setBlock_get_ne _ hgr, hh]
    have hmap : RMap ek ev b l (setBlock w1 r (.mapIter (some b) l.length (seen.push j) l.length)) := ⟨(hother b hne).trans h.map.at_⟩
    have hB : ∀ B, B ≤ r → Below B w (setBlock w1 r (.mapIter (some b) l.length (seen.push j) l.length)) := by
      intro B hBr
      have hb1 : Below B w w1 := by rcases hw1 with rfl | rfl <;> exact ⟨rfl, rfl, rfl, Nat.le_refl _, fun _ _ => rfl⟩
      exact below_setBlock hb1 hBr _
    refine hK' _ _ (hMore j p _ hp hs ⟨hmap, hit'⟩ hB (by simp only [setBlock, Array.size_setIfInBounds, hh]) hother ?_)
    exact run_entry_at _ r b l.length seen _ _ { key := ek p.1, val := ev p.2, born := j } hit' hmap.at_ (by
      have hg : (entL ek ev l 0)[j]? = some { key := ek p.1, val := ev p.2, born := j } := by
        rw [entL_get, hp]
        simp
      have := List.mem_of_getElem? hg
      simpa [ents] using this) (ents_nodup ek ev l)
end
end Go.Proofs.Yteonkhohloabfaa
