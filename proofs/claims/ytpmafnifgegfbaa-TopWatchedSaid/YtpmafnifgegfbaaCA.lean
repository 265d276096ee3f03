/- Maps whose keys are numbers. -/
import Derived.Test.YtpmafnifgegfbaaM
namespace Go.Proofs.Ytpmafnifgegfbaa
section
open Go.ChangeMaps (setBlock)
open Go.RowKit Go.Shelf Go.Deep
section
variable {V : Type} {ev : V → Value} {P : Program} {kt : TypeId}
theorem findNow_i (a : Int) : ∀ (l : List (Nat × Int × V)) (i : Nat), Instr.findNow (.int .i64) (vi a) (entS vi ev l) i = some ((atR a (l.map (·.2)) i).map fun p => (p.1, ev p.2))
  | [], _ => rfl
  | p :: l, i => by
    simp only [entS, List.map_cons, Instr.findNow, Instr.sameNow, atR]
    by_cases e : a = p.2.1
    · simp [e]
    · have e2 : (a == p.2.1) = false := by simpa using e
      simp only [if_true, e2, e, if_false]
      exact findNow_i a l (i + 1)
theorem find_runI (hk : P.underlying kt = some (.int .i64)) (a : Int) (W : World) (l : List (Nat × Int × V)) : (Instr.findKey kt (vi a) (entS vi ev l)).run P W = .ok ((atR a (l.map (·.2)) 0).map fun p => (p.1, ev p.2)) W := by
  unfold Instr.findKey
  simp only [Sem.run_bind, run_underlying hk, Result.andThen, findNow_i]
  rfl
theorem check_i (hk : P.underlying kt = some (.int .i64)) (c : Bool) (a : Int) (W : World) : (Instr.checkKey c 10000 kt (vi a)).run P W = .ok () W := by
  have h : ∀ n, (Instr.checkKey c (n + 1) kt (vi a)).run P W = .ok () W := fun n => by
    unfold Instr.checkKey
    simp only [Sem.run_bind, run_underlying hk, Result.andThen]
    rfl
  exact h 9999
/-- A map with a number laid in. -/
def putM (l : List (Int × V)) (a : Int) (v : V) : List (Int × V) := match atR a l 0 with
  | some (i, _) => l.set i (a, v)
  | none => l ++ [(a, v)]
theorem bits_i (a : Int) : Instr.sameBits 10000 (vi a) (vi a) = true := by
  have h : ∀ n, Instr.sameBits (n + 1) (vi a) (vi a) = true := fun n => by simp [Instr.sameBits]
  exact h 9999
theorem ent_modify {L : List (Nat × Int × V)} {i : Nat} {x : Nat × Int × V} (hx : L[i]? = some x) (v : V) : (entS vi ev L).toArray.modify i (fun e => { e with key := vi x.2.1, val := ev v }) = (entS vi ev (L.set i (x.1, x.2.1, v))).toArray := by
  have hi := (List.getElem?_eq_some_iff.1 hx).1
  apply Array.ext'
  rw [List.modify_toArray, List.toList_toArray, List.toList_toArray]
  apply List.ext_getElem?
  intro j
  rw [List.getElem?_modify]
  unfold entS
  rw [List.getElem?_map, List.getElem?_map, List.getElem?_set]
  by_cases e : i = j
  · subst e
    rw [hx]
    simp [hi]
  · simp [e]
theorem update_runI {vt mt : TypeId} (hk : P.underlying kt = some (.int .i64)) (ht : P.underlying mt = some (.map kt vt)) {W : World} {b : Nat} {l : List (Int × V)} (h : KMap vi ev b l W) (a : Int) (v : V) :
    ∃ o, (Instr.mapUpdate mt (.map (some b)) (vi a) (ev v)).run P W = .ok () (setBlock W b o) ∧ KMap vi ev b (putM l a v) (setBlock W b o) := by
  obtain ⟨L, n, h1, rfl⟩ := h
  cases hh : atR a (L.map (·.2)) 0 with
  | none =>
    have hn := atR_none hh
    refine ⟨.map (entS vi ev (L ++ [(n, a, v)])).toArray (n + 1), ?_, L ++ [(n, a, v)], n + 1, h1.put (fun x hx => ?_) ?_ ?_, by unfold putM; rw [hh]; simp⟩
    · unfold Instr.mapUpdate
      simp only [Sem.run_bind, run_underlying ht, Result.andThen, MapKept.run_getObj_map h1.at_, check_i hk, find_runI hk a W L, hh, Option.map_none, MapKept.run_setObj_map _ h1.at_]
      simp [setBlock, entS]
    · rcases List.mem_append.1 hx with hx | hx
      · have := h1.st x hx; omega
      · rw [List.mem_singleton.1 hx]; exact Nat.lt_succ_self n
    · rw [List.map_append, List.nodup_append]
      refine ⟨h1.nd, by simp, fun x hx y hy e => ?_⟩
      obtain ⟨z, hz, rfl⟩ := List.mem_map.1 hx
      simp at hy
      have := h1.st z hz
      omega
    · rw [List.map_append, List.nodup_append]
      refine ⟨h1.kn, by simp, fun x hx y hy e => ?_⟩
      obtain ⟨z, hz, rfl⟩ := List.mem_map.1 hx
      simp at hy
      exact hn z.2 (List.mem_map.2 ⟨z, hz, rfl⟩) (by rw [e, hy])
  | some q =>
    obtain ⟨i, v0⟩ := q
    obtain ⟨_, hi⟩ := atR_some hh
    rw [Nat.sub_zero, List.getElem?_map] at hi
    obtain ⟨x, hx, hxe⟩ := Option.map_eq_some_iff.1 hi
    have hxa : x.2.1 = a := by rw [hxe]
    have hkey : ∀ {β : Type} (f : Nat × Int × V → β), f (x.1, x.2.1, v) = f x → (L.set i (x.1, x.2.1, v)).map f = L.map f := fun f hf => by
      rw [List.map_set, hf]
      have hj : (L.map f)[i]? = some (f x) := by rw [List.getElem?_map, hx]; rfl
      apply List.ext_getElem?
      intro j
      rw [List.getElem?_set]
      split
      · rename_i e
        subst e
        have hl := (List.getElem?_eq_some_iff.1 hj).1
        rw [if_pos hl, hj]
      · rfl
    refine ⟨.map (entS vi ev (L.set i (x.1, x.2.1, v))).toArray n, ?_, L.set i (x.1, x.2.1, v), n, h1.put (fun z hz => ?_) ?_ ?_, by unfold putM; rw [hh, List.map_set, hxa]⟩
    · have he : ((entS vi ev L).toArray[i]?).map (·.key) = some (vi x.2.1) := by
        rw [List.getElem?_toArray]
        unfold entS
        rw [List.getElem?_map, hx]
        rfl
      have hb := bits_i a
      unfold Instr.mapUpdate
      simp only [Sem.run_bind, run_underlying ht, Result.andThen, MapKept.run_getObj_map h1.at_, check_i hk, find_runI hk a W L, hh, Option.map_some, he, Option.getD_some, Instr.keyThatStays, hxa, hb, if_true]
      have e2 := ent_modify (ev := ev) hx v
      rw [hxa] at e2
      rw [← e2]
      show (setObj b _).run P W = _
      rw [MapKept.run_setObj_map _ h1.at_]
      rfl
    · rcases List.mem_or_eq_of_mem_set hz with hz | rfl
      · exact h1.st z hz
      · exact h1.st x (List.mem_of_getElem? hx)
    · rw [hkey (·.1) rfl]; exact h1.nd
    · rw [hkey (·.2.1) rfl]; exact h1.kn
/-- What a map of numbers holds at a number. -/
def getM (l : List (Int × Int)) (a : Int) : Int := match atR a l 0 with
  | some (_, v) => v
  | none => 0
theorem lookup_runI {vt mt : TypeId} (hk : P.underlying kt = some (.int .i64)) (ht : P.underlying mt = some (.map kt vt)) {W : World} (hz : (zeroValue vt).run P W = .ok (vi 0) W) {b : Nat} {l : List (Int × Int)} (h : KMap vi vi b l W) (a : Int) : (Instr.lookup mt (.map (some b)) (vi a) false).run P W = .ok (vi (getM l a)) W := by
  obtain ⟨L, n, h1, rfl⟩ := h
  unfold Instr.lookup
  simp only [Sem.run_bind, run_underlying ht, Result.andThen, MapKept.run_getObj_map h1.at_, check_i hk]
  unfold getM
  cases hh : atR a (L.map (·.2)) 0 with
  | none =>
    have hf := find_runI (ev := vi) hk a W L
    rw [hh] at hf
    simp [hf, hz]
  | some q =>
    have hf := find_runI (ev := vi) hk a W L
    rw [hh] at hf
    simp [hf]
theorem atR_at {a : Int} {v : V} : ∀ {l : List (Int × V)} {i k : Nat} {u : V}, atR a l k = some (i + k, u) → atR a (l.set i (a, v)) k = some (i + k, v)
  | [], i, k, u, h => by simp [atR] at h
  | p :: l, 0, k, u, h => by simp [atR]
  | p :: l, i + 1, k, u, h => by
    simp only [atR] at h
    by_cases e : a = p.1
    · rw [if_pos e] at h
      injection h with h
      injection h with h _
      omega
    · rw [if_neg e, show i + 1 + k = i + (k + 1) by omega] at h
      rw [List.set_cons_succ, atR, if_neg e, show i + 1 + k = i + (k + 1) by omega]
      exact atR_at h
theorem getM_put (l : List (Int × Int)) (a v x : Int) : getM (putM l a v) x = if x = a then v else getM l x := by
  have hsome : ∀ (l : List (Int × Int)) (k i : Nat) (v0 : Int), atR a l k = some (i + k, v0) → (atR x (l.set i (a, v)) k).map (·.2) = if x = a then some v else (atR x l k).map (·.2) := by
    intro l
    induction l with
    | nil => intro k i v0 h; simp [atR] at h
    | cons p l ih =>
      intro k i v0 h
      simp only [atR] at h
      by_cases e : a = p.1
      · rw [if_pos e] at h
        injection h with h
        injection h with h _
        have hi : i = 0 := by omega
        subst hi
        rw [List.set_cons_zero]
        simp only [atR]
        by_cases e2 : x = a
        · simp [e2]
        · have e3 : ¬ x = p.1 := fun h => e2 (h.trans e.symm)
          simp [e2, e3]
      · rw [if_neg e] at h
        cases i with
        | zero =>
          obtain ⟨h1, _⟩ := atR_some h
          omega
        | succ i =>
          rw [show i + 1 + k = i + (k + 1) by omega] at h
          rw [List.set_cons_succ]
          simp only [atR]
          by_cases e2 : x = p.1
          · have e3 : ¬ x = a := fun h => e (h.symm.trans e2)
            rw [if_neg e3, if_pos e2, if_pos e2]
          · rw [if_neg e2, if_neg e2]
            exact ih (k + 1) i v0 h
  have hnone : ∀ (l : List (Int × Int)) (k : Nat), (∀ p ∈ l, a ≠ p.1) → (atR x (l ++ [(a, v)]) k).map (·.2) = if x = a then some v else (atR x l k).map (·.2) := by
    intro l
    induction l with
    | nil => intro k _; simp only [List.nil_append, atR]; by_cases e : x = a <;> simp [e]
    | cons p l ih =>
      intro k h
      have hp := h p (List.mem_cons_self ..)
      rw [List.cons_append]
      simp only [atR]
      by_cases e2 : x = p.1
      · have e3 : ¬ x = a := fun h => hp (h.symm.trans e2)
        rw [if_neg e3, if_pos e2, if_pos e2]
      · rw [if_neg e2, if_neg e2]
        exact ih (k + 1) fun q hq => h q (List.mem_cons_of_mem _ hq)
  have hg : ∀ l : List (Int × Int), getM l x = ((atR x l 0).map (·.2)).getD 0 := fun l => by
    unfold getM
    cases atR x l 0 <;> rfl
  rw [hg, hg]
  unfold putM
  cases hh : atR a l 0 with
  | none =>
    show ((atR x (l ++ [(a, v)]) 0).map (·.2)).getD 0 = _
    rw [hnone l 0 (atR_none hh)]
    split <;> rfl
  | some q =>
    obtain ⟨i, v0⟩ := q
    show ((atR x (l.set i (a, v)) 0).map (·.2)).getD 0 = _
    rw [hsome l 0 i v0 hh]
    split <;> rfl
theorem keys_put (l : List (Int × V)) (a : Int) (v : V) (x : Int) : x ∈ (putM l a v).map (·.1) ↔ x = a ∨ x ∈ l.map (·.1) := by
  unfold putM
  cases hh : atR a l 0 with
  | none =>
    show x ∈ (l ++ [(a, v)]).map (·.1) ↔ _
    rw [List.map_append, List.mem_append]
    simp [or_comm]
  | some q =>
    obtain ⟨i, v0⟩ := q
    obtain ⟨_, hi⟩ := atR_some hh
    rw [Nat.sub_zero] at hi
    have he : (l.set i (a, v)).map (·.1) = l.map (·.1) := by
      rw [List.map_set]
      apply List.ext_getElem?
      intro j
      rw [List.getElem?_set]
      split
      · rename_i e
        subst e
        have hl := (List.getElem?_eq_some_iff.1 hi).1
        rw [if_pos (by rw [List.length_map]; exact hl), List.getElem?_map, hi]
        rfl
      · rfl
    show x ∈ (l.set i (a, v)).map (·.1) ↔ _
    rw [he]
    constructor
    · exact fun h => .inr h
    · rintro (h | h)
      · rw [h]; exact List.mem_map.2 ⟨(a, v0), List.mem_of_getElem? hi, rfl⟩
      · exact h
end
section
variable {V : Type} {ev : V → Value} {P : Program} {ops : Array Oper} {rest : List Oper} {o : Oper} {a : Act} {Q : Exit → Act → World → Prop}
theorem wpList_update_i (w : World) (hg : o.guard = none) (m x v : Operand) (t : TypeId) (hop : o.op = Op.mapUpdate t m x v)
    {kt vt : TypeId} (hk : P.underlying kt = some (.int .i64)) (ht : P.underlying t = some (.map kt vt)) (b : Nat) (l : List (Int × V)) (hm : a.eval m = .map (some b)) (h : KMap vi ev b l w) (k : Int) (y : V) (hx : a.eval x = vi k) (hv : a.eval v = ev y)
    (hK : ∀ ob, KMap vi ev b (putM l k y) (setBlock w b ob) → wpList P ops Q rest (a.put o.dst undef) (setBlock w b ob)) :
    wpList P ops Q (o :: rest) a w := by
  refine wpList_plain hg fun K' hK' => ?_
  obtain ⟨ob, hrun, h1⟩ := update_runI hk ht h k y
  unfold Oper.wp
  simp only [execOp, hop, hm, hx, hv, hrun, Sem.run_bind, Result.andThen]
  exact hK' _ _ (hK ob h1)
theorem wpList_lookup_i (w : World) (hg : o.guard = none) (m x : Operand) (t : TypeId) (hop : o.op = Op.lookup t m x false)
    {kt vt : TypeId} (hk : P.underlying kt = some (.int .i64)) (ht : P.underlying t = some (.map kt vt)) (hz : (zeroValue vt).run P w = .ok (vi 0) w) (b : Nat) (l : List (Int × Int)) (hm : a.eval m = .map (some b)) (h : KMap vi vi b l w) (k : Int) (hx : a.eval x = vi k)
    (hK : wpList P ops Q rest (a.put o.dst (vi (getM l k))) w) :
    wpList P ops Q (o :: rest) a w := by
  refine wpList_plain hg fun K' hK' => ?_
  have hrun := lookup_runI hk ht hz h k
  unfold Oper.wp
  simp only [execOp, hop, hm, hx, hrun, Sem.run_bind, Result.andThen]
  exact hK' _ _ hK
end
end
end Go.Proofs.Ytpmafnifgegfbaa
