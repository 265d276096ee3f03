/- Maps whose entries bear any stamps. -/
import Derived.Test.YtpmafnifgegfbaaF
import Derived.Test.YtpmafnifgegfbaaP
namespace Go.Proofs.Ytpmafnifgegfbaa
section
open Go.ChangeMaps (setBlock)
open Go.RowKit Go.Shelf Go.Deep
section
variable {K V : Type}
/-- The entries of a list of stamped pairs. -/
def entS (ek : K → Value) (ev : V → Value) (l : List (Nat × K × V)) : List MapEntry := l.map fun x => { key := ek x.2.1, val := ev x.2.2, born := x.1 }
/-- A map whose entries bear some stamps. -/
structure SMap (ek : K → Value) (ev : V → Value) (b : Nat) (l : List (Nat × K × V)) (n : Nat) (W : World) : Prop where
  at_ : W.heap[b]? = some (.map (entS ek ev l).toArray n)
  st : ∀ x ∈ l, x.1 < n
  nd : (l.map (·.1)).Nodup
  kn : (l.map (·.2.1)).Nodup
variable {ek : K → Value} {ev : V → Value}
theorem SMap.lt {b n : Nat} {l : List (Nat × K × V)} {W : World} (h : SMap ek ev b l n W) : b < W.heap.size := (Array.getElem?_eq_some_iff.1 h.at_).1
theorem SMap.same {b n : Nat} {l : List (Nat × K × V)} {W W' : World} (h : SMap ek ev b l n W) (hs : W'.heap[b]? = W.heap[b]?) : SMap ek ev b l n W' := ⟨hs.trans h.at_, h.st, h.nd, h.kn⟩
theorem SMap.next {b n : Nat} {l : List (Nat × K × V)} {W W' : World} (h : SMap ek ev b l n W) (hb : newer W W') : SMap ek ev b l n W' := h.same (hb.block b h.lt)
variable [DecidableEq K]
theorem asking_runS {P : Program} {kt : TypeId} (E : EqKey P kt ek) (a : K) (W : World) : ∀ (l : List (Nat × K × V)) (i : Nat), (Instr.findAsking kt (ek a) (entS ek ev l) i).run P W = .ok ((atR a (l.map (·.2)) i).map fun p => (p.1, ev p.2)) W
  | [], _ => rfl
  | p :: l, i => by
    simp only [entS, List.map_cons, Instr.findAsking, Sem.run_bind, E.eq a p.2.1 W, Result.andThen, atR]
    by_cases e : a = p.2.1
    · simp [e]
    · simp only [e, decide_false, Bool.false_eq_true, if_false]
      exact asking_runS E a W l (i + 1)
theorem find_runS {P : Program} {kt : TypeId} (E : EqKey P kt ek) (a : K) (W : World) (l : List (Nat × K × V)) : (Instr.findKey kt (ek a) (entS ek ev l)).run P W = .ok ((atR a (l.map (·.2)) 0).map fun p => (p.1, ev p.2)) W := by
  obtain ⟨fs, hd⟩ := E.desc
  unfold Instr.findKey
  simp only [Sem.run_bind, run_underlying hd, Result.andThen]
  cases l with
  | nil => rfl
  | cons p l =>
    have h := asking_runS (ev := ev) E a W (p :: l) 0
    simp only [entS, List.map_cons] at h ⊢
    rw [findNow_struct]
    exact h
/-- The map as it is seen: its pairs, in the order in which they were laid. -/
def KMap (ek : K → Value) (ev : V → Value) (b : Nat) (l : List (K × V)) (W : World) : Prop := ∃ L n, SMap ek ev b L n W ∧ L.map (·.2) = l
omit [DecidableEq K] in
theorem KMap.next {b : Nat} {l : List (K × V)} {W W' : World} (h : KMap ek ev b l W) (hb : newer W W') : KMap ek ev b l W' := by
  obtain ⟨L, n, h1, h2⟩ := h
  exact ⟨L, n, h1.next hb, h2⟩
omit [DecidableEq K] in
theorem KMap.same {b : Nat} {l : List (K × V)} {W W' : World} (h : KMap ek ev b l W) (hs : W'.heap[b]? = W.heap[b]?) : KMap ek ev b l W' := by
  obtain ⟨L, n, h1, h2⟩ := h
  exact ⟨L, n, h1.same hs, h2⟩
omit [DecidableEq K] in
theorem KMap.lt {b : Nat} {l : List (K × V)} {W : World} (h : KMap ek ev b l W) : b < W.heap.size := by
  obtain ⟨L, n, h1, h2⟩ := h
  exact h1.lt
omit [DecidableEq K] in
theorem KMap.nodup {b : Nat} {l : List (K × V)} {W : World} (h : KMap ek ev b l W) : (l.map (·.1)).Nodup := by
  obtain ⟨L, n, h1, rfl⟩ := h
  have := h1.kn
  rwa [List.map_map]
omit [DecidableEq K] in
theorem KMap.made (ek : K → Value) (ev : V → Value) (W : World) : KMap ek ev W.heap.size [] (W.alloc (.map #[] 0)) := ⟨[], 0, ⟨by simp only [World.alloc, Array.getElem?_push_size]; rfl, fun x hx => absurd hx (List.not_mem_nil), List.nodup_nil, List.nodup_nil⟩, rfl⟩
omit [DecidableEq K] in
theorem SMap.put {b n n' : Nat} {l l' : List (Nat × K × V)} {W : World} (h : SMap ek ev b l n W) (h1 : ∀ x ∈ l', x.1 < n') (h2 : (l'.map (·.1)).Nodup) (h3 : (l'.map (·.2.1)).Nodup) : SMap ek ev b l' n' (setBlock W b (.map (entS ek ev l').toArray n')) :=
  ⟨by simp only [setBlock]; rw [Array.getElem?_setIfInBounds_self_of_lt h.lt], h1, h2, h3⟩
omit [DecidableEq K] in
theorem map_stamps (L : List (Nat × K × V)) : L.map (·.2.1) = (L.map (·.2)).map (·.1) := by rw [List.map_map]; rfl
theorem atR_none' {a : K} : ∀ {l : List (K × V)} {i : Nat}, (∀ p ∈ l, a ≠ p.1) → atR a l i = none
  | [], _, _ => rfl
  | p :: l, i, h => by
    rw [atR, if_neg (h p (List.mem_cons_self ..))]
    exact atR_none' fun q hq => h q (List.mem_cons_of_mem _ hq)
/-- A new key laid into a map. -/
theorem update_runS {P : Program} {kt vt mt : TypeId} (E : EqKey P kt ek) (ht : P.underlying mt = some (.map kt vt)) {W : World} {b : Nat} {l : List (K × V)} (h : KMap ek ev b l W) (a : K) (v : V) (hn : ∀ p ∈ l, a ≠ p.1) :
    ∃ o, (Instr.mapUpdate mt (.map (some b)) (ek a) (ev v)).run P W = .ok () (setBlock W b o) ∧ KMap ek ev b (l ++ [(a, v)]) (setBlock W b o) := by
  obtain ⟨L, n, h1, rfl⟩ := h
  refine ⟨.map (entS ek ev (L ++ [(n, a, v)])).toArray (n + 1), ?_, L ++ [(n, a, v)], n + 1, h1.put (fun x hx => ?_) ?_ ?_, by simp⟩
  · unfold Instr.mapUpdate
    simp only [Sem.run_bind, run_underlying ht, Result.andThen, MapKept.run_getObj_map h1.at_, E.check, find_runS E a W L, atR_none' hn, Option.map_none, MapKept.run_setObj_map _ h1.at_]
    simp [setBlock, entS]
  · rcases List.mem_append.1 hx with hx | hx
    · have := h1.st x hx; omega
    · rw [List.mem_singleton.1 hx]; exact Nat.lt_succ_self n
  · rw [List.map_append, List.nodup_append]
    refine ⟨h1.nd, by simp, fun x hx y hy e => ?_⟩
    obtain ⟨z, hz, rfl⟩ := List.mem_map.1 hx
    simp at hy
    have := h1.st z hz
    omega
  · rw [List.map_append, List.nodup_append]
    refine ⟨h1.kn, by simp, fun x hx y hy e => ?_⟩
    obtain ⟨z, hz, rfl⟩ := List.mem_map.1 hx
    simp at hy
    exact hn z.2 (List.mem_map.2 ⟨z, hz, rfl⟩) (by rw [e, hy])
omit [DecidableEq K] in
theorem KMap.len {b : Nat} {l : List (K × V)} {W : World} (h : KMap ek ev b l W) : ∃ es n, W.heap[b]? = some (.map es n) ∧ es.size = l.length := by
  obtain ⟨L, n, h1, rfl⟩ := h
  exact ⟨_, n, h1.at_, by simp [entS]⟩
/-- An iterator over a map: rem are the keys that are still to come. -/
def KIter (ek : K → Value) (ev : V → Value) (b : Nat) (l : List (K × V)) (r : Nat) (rem : List K) (W : World) : Prop :=
  ∃ L n seen, SMap ek ev b L n W ∧ L.map (·.2) = l ∧ W.heap[r]? = some (.mapIter (some b) n seen n) ∧ rem = (L.filter fun x => !seen.contains x.1).map (·.2.1)
omit [DecidableEq K] in
theorem KIter.map {b r : Nat} {l : List (K × V)} {rem : List K} {W : World} (h : KIter ek ev b l r rem W) : KMap ek ev b l W := by
  obtain ⟨L, n, seen, h1, h2, _⟩ := h
  exact ⟨L, n, h1, h2⟩
omit [DecidableEq K] in
theorem KIter.lt {b r : Nat} {l : List (K × V)} {rem : List K} {W : World} (h : KIter ek ev b l r rem W) : r < W.heap.size := by
  obtain ⟨L, n, seen, h1, h2, h3, _⟩ := h
  exact (Array.getElem?_eq_some_iff.1 h3).1
omit [DecidableEq K] in
theorem KIter.same {b r : Nat} {l : List (K × V)} {rem : List K} {W W' : World} (h : KIter ek ev b l r rem W) (hb : W'.heap[b]? = W.heap[b]?) (hr : W'.heap[r]? = W.heap[r]?) : KIter ek ev b l r rem W' := by
  obtain ⟨L, n, seen, h1, h2, h3, h4⟩ := h
  exact ⟨L, n, seen, h1.same hb, h2, hr.trans h3, h4⟩
omit [DecidableEq K] in
theorem KIter.next {b r : Nat} {l : List (K × V)} {rem : List K} {W W' : World} (h : KIter ek ev b l r rem W) (hb : newer W W') : KIter ek ev b l r rem W' := h.same (hb.block b h.map.lt) (hb.block r h.lt)
omit [DecidableEq K] in
theorem KIter.ne {b r : Nat} {l : List (K × V)} {rem : List K} {W : World} (h : KIter ek ev b l r rem W) : b ≠ r := by
  obtain ⟨L, n, seen, h1, h2, h3, _⟩ := h
  intro e
  have h5 := h1.at_
  rw [e, h3] at h5
  injection h5 with h5
  cases h5
omit [DecidableEq K] in
theorem KIter.sub {b r : Nat} {l : List (K × V)} {rem : List K} {W : World} (h : KIter ek ev b l r rem W) : ∀ k ∈ rem, k ∈ l.map (·.1) := by
  obtain ⟨L, n, seen, h1, rfl, h3, rfl⟩ := h
  intro k hk
  obtain ⟨x, hx, rfl⟩ := List.mem_map.1 hk
  exact List.mem_map.2 ⟨x.2, List.mem_map.2 ⟨x, (List.mem_filter.1 hx).1, rfl⟩, rfl⟩
omit [DecidableEq K] in
theorem KIter.nodup {b r : Nat} {l : List (K × V)} {rem : List K} {W : World} (h : KIter ek ev b l r rem W) : rem.Nodup := by
  obtain ⟨L, n, seen, h1, rfl, h3, rfl⟩ := h
  exact (h1.kn).sublist (List.Sublist.map _ List.filter_sublist)
omit [DecidableEq K] in
theorem entS_mem {L : List (Nat × K × V)} {e : MapEntry} (h : e ∈ entS ek ev L) : ∃ x ∈ L, e = { key := ek x.2.1, val := ev x.2.2, born := x.1 } := by
  obtain ⟨x, hx, rfl⟩ := List.mem_map.1 h
  exact ⟨x, hx, rfl⟩
omit [DecidableEq K] in
theorem nodup_inj {α β : Type} {f : α → β} : ∀ {L : List α} {x y : α}, (L.map f).Nodup → x ∈ L → y ∈ L → f x = f y → x = y
  | z :: L, x, y, hn, hx, hy, e => by
    rw [List.map_cons, List.nodup_cons] at hn
    rcases List.mem_cons.1 hx with a1 | a1
    · rcases List.mem_cons.1 hy with b1 | b1
      · rw [a1, b1]
      · exact absurd (show f z ∈ L.map f from List.mem_map.2 ⟨y, b1, by rw [← e, a1]⟩) hn.1
    · rcases List.mem_cons.1 hy with b1 | b1
      · exact absurd (show f z ∈ L.map f from List.mem_map.2 ⟨x, a1, by rw [e, b1]⟩) hn.1
      · exact nodup_inj hn.2 a1 b1 e
omit [DecidableEq K] in
theorem range_runS {P : Program} (w : World) {t kt vt : TypeId} (ht : P.underlying t = some (.map kt vt)) {b : Nat} {l : List (K × V)} (h : KMap ek ev b l w) : ∃ o, (Instr.range t (.map (some b))).run P w = .ok (.pointer (some ⟨w.heap.size, 0, none⟩)) (w.alloc o) ∧ KIter ek ev b l w.heap.size (l.map (·.1)) (w.alloc o) := by
  obtain ⟨L, n, h1, rfl⟩ := h
  refine ⟨.mapIter (some b) n #[] n, run_range_map w t kt vt b _ _ ht h1.at_, L, n, #[], h1.next (newer_allocH _ _), rfl, heap_alloc_new w _, ?_⟩
  have e : (L.filter fun x => !(#[] : Array Nat).contains x.1) = L := List.filter_eq_self.2 fun x _ => by simp
  rw [e, map_stamps]
/-- A step: nothing is left, or some key that has not come yet. -/
theorem next_runS {P : Program} (w : World) (ty : TypeId) {b r : Nat} {l : List (K × V)} {rem : List K} (h : KIter ek ev b l r rem w) :
    (rem = [] ∧ (Instr.next (.pointer (some ⟨r, 0, none⟩)) false ty).run P w = .ok (.tuple #[.bool false]) w) ∨
    ∃ p ∈ l, p.1 ∈ rem ∧ ∃ w', (Instr.next (.pointer (some ⟨r, 0, none⟩)) false ty).run P w = .ok (.tuple #[.bool true, ek p.1, ev p.2]) w' ∧ KIter ek ev b l r (rem.filter fun k => decide (k ≠ p.1)) w' ∧ (∀ B, B ≤ r → Below B w w') ∧ w'.heap.size = w.heap.size ∧ (∀ g, g ≠ r → w'.heap[g]? = w.heap[g]?) ∧ (Instr.entry (.pointer (some ⟨r, 0, none⟩))).run P w' = .ok (.tuple #[ek p.1, ev p.2]) w' := by
  have hbr := h.ne
  have hrl := h.lt
  obtain ⟨L, n, seen, h1, rfl, h3, rfl⟩ := h
  have hold : ∀ x ∈ (entS ek ev L).toArray.toList, x.born < n := fun x hx => by
    obtain ⟨y, hy, rfl⟩ := entS_mem (by simpa using hx)
    exact h1.st y hy
  rcases run_next_at (P := P) w ty r b n n seen _ _ h3 h1.at_ hold (Nat.le_refl _) with ⟨h0, hrun⟩ | ⟨e, he, w1, hw1, hrun⟩
  · left
    refine ⟨?_, hrun⟩
    rw [List.map_eq_nil_iff, List.filter_eq_nil_iff]
    intro x hx hc
    have hm : ({ key := ek x.2.1, val := ev x.2.2, born := x.1 } : MapEntry) ∈ leftOf (entS ek ev L).toArray seen := by
      unfold leftOf
      rw [Array.mem_filter]
      exact ⟨by simpa [entS] using ⟨x.1, x.2.1, x.2.2, hx, rfl, rfl, rfl⟩, by simpa using hc⟩
    have := Array.size_pos_of_mem hm
    omega
  · right
    have he' : e ∈ leftOf (entS ek ev L).toArray seen := by simpa using he
    unfold leftOf at he'
    rw [Array.mem_filter] at he'
    obtain ⟨hin, hs⟩ := he'
    obtain ⟨x, hx, rfl⟩ := entS_mem (ek := ek) (ev := ev) (L := L) (by simpa using hin)
    simp only [Bool.not_eq_true'] at hs
    have hh : w1.heap = w.heap := by rcases hw1 with rfl | rfl <;> rfl
    have hit' : (setBlock w1 r (.mapIter (some b) n (seen.push x.1) n)).heap[r]? = some (.mapIter (some b) n (seen.push x.1) n) := by
      simp only [setBlock]
      rw [Array.getElem?_setIfInBounds_self_of_lt (by rw [hh]; exact hrl)]
    have hother : ∀ g, g ≠ r → (setBlock w1 r (.mapIter (some b) n (seen.push x.1) n)).heap[g]? = w.heap[g]? := by
      intro g hgr
      rw [setBlock_get_ne _ hgr, hh]
    have hB : ∀ B, B ≤ r → Below B w (setBlock w1 r (.mapIter (some b) n (seen.push x.1) n)) := by
      intro B hBr
      have hb1 : Below B w w1 := by rcases hw1 with rfl | rfl <;> exact ⟨rfl, rfl, rfl, Nat.le_refl _, fun _ _ => rfl⟩
      exact below_setBlock hb1 hBr _
    have hmem : ({ key := ek x.2.1, val := ev x.2.2, born := x.1 } : MapEntry) ∈ (entS ek ev L).toArray.toList := by simpa using hin
    refine ⟨x.2, List.mem_map.2 ⟨x, hx, rfl⟩, List.mem_map.2 ⟨x, List.mem_filter.2 ⟨hx, by simpa using hs⟩, rfl⟩, _, hrun, ⟨L, n, seen.push x.1, h1.same (hother b hbr), rfl, hit', ?_⟩, hB, by simp only [setBlock, Array.size_setIfInBounds, hh], hother, ?_⟩
    · rw [List.filter_map, List.filter_filter]
      congr 1
      apply List.filter_congr
      intro y hy
      have hi : (y.1 = x.1) ↔ (y.2.1 = x.2.1) := by
        constructor
        · intro e
          rw [nodup_inj h1.nd hy hx e]
        · intro e
          rw [nodup_inj h1.kn hy hx e]
      simp only [Function.comp_apply, Array.contains_push]
      by_cases e : y.1 = x.1
      · simp [e, hi.1 e]
      · have e2 : ¬ y.2.1 = x.2.1 := fun q => e (hi.2 q)
        simp [e, e2]
    · refine run_entry_at _ r b n seen _ _ _ hit' ((hother b hbr).trans h1.at_) hmem ?_
      have e : (entS ek ev L).toArray.toList.map (·.born) = L.map (·.1) := by simp [entS, List.map_map, Function.comp_def]
      rw [e]
      exact h1.nd
omit [DecidableEq K] in
theorem erase_filter {α β : Type} [DecidableEq β] (key : α → β) : ∀ {L : List α} {i : Nat} {x : α}, (L.map key).Nodup → L[i]? = some x → L.eraseIdx i = L.filter fun y => decide (key y ≠ key x)
  | y :: L, 0, x, hn, hi => by
    simp only [List.getElem?_cons_zero, Option.some.injEq] at hi
    subst hi
    rw [List.map_cons, List.nodup_cons] at hn
    rw [List.eraseIdx_zero, List.tail_cons, List.filter_cons_of_neg (by simp)]
    exact (List.filter_eq_self.2 fun z hz => by simpa using fun e => hn.1 (by rw [← e]; exact List.mem_map.2 ⟨z, hz, rfl⟩)).symm
  | y :: L, i + 1, x, hn, hi => by
    simp only [List.getElem?_cons_succ] at hi
    rw [List.map_cons, List.nodup_cons] at hn
    have hx := List.mem_of_getElem? hi
    rw [List.eraseIdx_cons_succ, List.filter_cons_of_pos (by simpa using fun e => hn.1 (by rw [e]; exact List.mem_map.2 ⟨x, hx, rfl⟩)), erase_filter key hn.2 hi]
omit [DecidableEq K] in
theorem erase_map {α β : Type} (f : α → β) : ∀ (L : List α) (i : Nat), (L.map f).eraseIdx i = (L.eraseIdx i).map f
  | [], _ => rfl
  | _ :: _, 0 => rfl
  | y :: L, i + 1 => by
    rw [List.map_cons, List.eraseIdx_cons_succ, List.eraseIdx_cons_succ, List.map_cons, erase_map f L i]
/-- A key taken out of a map, in a round over it. -/
theorem delete_runS {P : Program} {kt vt t ty : TypeId} (E : EqKey P kt ek) (ht : P.underlying t = some (.map kt vt)) {w : World} {b r : Nat} {l : List (K × V)} {rem : List K} (h : KIter ek ev b l r rem w) (a : K) :
    ∃ o, (Builtin.delete_ #[t, kt] ty #[.map (some b), ek a]).run P w = .ok (.tuple #[]) (setBlock w b o) ∧ KIter ek ev b (l.filter fun p => decide (p.1 ≠ a)) r (rem.filter fun k => decide (k ≠ a)) (setBlock w b o) := by
  have hbr := h.ne
  obtain ⟨L, n, seen, h1, rfl, h3, rfl⟩ := h
  have hkey : ∀ L' : List (Nat × K × V), L' = L.filter (fun y => decide (y.2.1 ≠ a)) → KIter ek ev b ((L.map (·.2)).filter fun p => decide (p.1 ≠ a)) r (((L.filter fun x => !seen.contains x.1).map (·.2.1)).filter fun k => decide (k ≠ a)) (setBlock w b (.map (entS ek ev L').toArray n)) := by
    rintro L' rfl
    refine ⟨L.filter fun y => decide (y.2.1 ≠ a), n, seen, h1.put (fun x hx => h1.st x (List.mem_filter.1 hx).1) (h1.nd.sublist (List.Sublist.map _ List.filter_sublist)) (h1.kn.sublist (List.Sublist.map _ List.filter_sublist)), ?_, (setBlock_get_ne _ (Ne.symm hbr)).trans h3, ?_⟩
    · rw [List.filter_map]
      rfl
    · rw [List.filter_map, List.filter_filter, List.filter_filter]
      congr 1
      apply List.filter_congr
      intro y _
      simp only [Function.comp_apply]
      rw [Bool.and_comm]
  cases hh : atR a (L.map (·.2)) 0 with
  | none =>
    refine ⟨.map (entS ek ev L).toArray n, ?_, hkey L ?_⟩
    · simp only [Builtin.delete_, Sem.run_bind, List.getElem?_toArray, List.getElem?_cons_zero, List.getElem?_cons_succ, run_underlying ht, MapKept.run_getObj_map h1.at_, E.check, find_runS E a w L, hh, Option.map_none, MapKept.run_setObj_map _ h1.at_, Result.andThen, setBlock]
      rfl
    · exact (List.filter_eq_self.2 fun y hy => by
        have := atR_none hh y.2 (List.mem_map.2 ⟨y, hy, rfl⟩)
        simpa using fun e => this e.symm).symm
  | some q =>
    obtain ⟨i, v⟩ := q
    obtain ⟨_, hi⟩ := atR_some hh
    rw [Nat.sub_zero, List.getElem?_map] at hi
    obtain ⟨x, hx, hxe⟩ := Option.map_eq_some_iff.1 hi
    have hl := (List.getElem?_eq_some_iff.1 hx).1
    refine ⟨.map ((entS ek ev L).toArray.eraseIdxIfInBounds i) n, ?_, ?_⟩
    · simp only [Builtin.delete_, Sem.run_bind, List.getElem?_toArray, List.getElem?_cons_zero, List.getElem?_cons_succ, run_underlying ht, MapKept.run_getObj_map h1.at_, E.check, find_runS E a w L, hh, Option.map_some, MapKept.run_setObj_map _ h1.at_, Result.andThen, setBlock]
      rfl
    · have e : (entS ek ev L).toArray.eraseIdxIfInBounds i = (entS ek ev (L.eraseIdx i)).toArray := by
        apply Array.ext'
        unfold Array.eraseIdxIfInBounds
        rw [dif_pos (by simpa [entS] using hl)]
        simp only [entS, List.eraseIdx_toArray, List.toList_toArray]
        exact erase_map _ _ _
      rw [e]
      refine hkey _ ?_
      rw [erase_filter (fun y : Nat × K × V => y.2.1) h1.kn hx]
      apply List.filter_congr
      intro y _
      rw [show x.2.1 = a by rw [hxe]]
end
end

section
open Go.ChangeMaps (setBlock)
open Go.RowKit Go.Shelf Go.Deep
variable {K V : Type} {ek : K → Value} {ev : V → Value} {P : Program} {ops : Array Oper} {rest : List Oper} {o : Oper} {a : Act} {Q : Exit → Act → World → Prop}
theorem wpList_range_s (w : World) (hg : o.guard = none) (m : Operand) (t : TypeId) (hop : o.op = Op.range t m)
    {kt vt : TypeId} (ht : P.underlying t = some (.map kt vt)) (b : Nat) (l : List (K × V)) (hm : a.eval m = .map (some b)) (h : KMap ek ev b l w)
    (hK : ∀ w', newer w w' → KIter ek ev b l w.heap.size (l.map (·.1)) w' → wpList P ops Q rest (a.put o.dst (.pointer (some ⟨w.heap.size, 0, none⟩))) w') :
    wpList P ops Q (o :: rest) a w := by
  refine wpList_plain hg fun K' hK' => ?_
  obtain ⟨ob, hrun, hit⟩ := range_runS (P := P) w ht h
  unfold Oper.wp
  simp only [execOp, hop, hm, hrun, Sem.run_bind, Result.andThen]
  exact hK' _ _ (hK _ (newer_allocH _ _) hit)
variable [DecidableEq K]
theorem wpList_next_s (w : World) (hg : o.guard = none) (it : Operand) (hop : o.op = Op.next it false)
    (b r : Nat) (l : List (K × V)) (rem : List K) (hit : a.eval it = .pointer (some ⟨r, 0, none⟩)) (h : KIter ek ev b l r rem w)
    (hDone : rem = [] → wpList P ops Q rest (a.put o.dst (.tuple #[.bool false])) w)
    (hMore : ∀ (p : K × V) (w' : World), p ∈ l → p.1 ∈ rem → KIter ek ev b l r (rem.filter fun k => decide (k ≠ p.1)) w' → (∀ B, B ≤ r → Below B w w') → w'.heap.size = w.heap.size → (∀ g, g ≠ r → w'.heap[g]? = w.heap[g]?) →
      (Instr.entry (.pointer (some ⟨r, 0, none⟩))).run P w' = .ok (.tuple #[ek p.1, ev p.2]) w' → wpList P ops Q rest (a.put o.dst (.tuple #[.bool true, ek p.1, ev p.2])) w') :
    wpList P ops Q (o :: rest) a w := by
  refine wpList_plain hg fun K' hK' => ?_
  unfold Oper.wp
  rcases next_runS (P := P) w o.type h with ⟨h0, hrun⟩ | ⟨p, hp, hr, w', hrun, h1, h2, h3, h4, h5⟩
  · simp only [execOp, hop, hit, hrun, Sem.run_bind, Result.andThen]
    exact hK' _ _ (hDone h0)
  · simp only [execOp, hop, hit, hrun, Sem.run_bind, Result.andThen]
    exact hK' _ _ (hMore p w' hp hr h1 h2 h3 h4 h5)
theorem wpList_update_s (w : World) (hg : o.guard = none) (m x v : Operand) (t : TypeId) (hop : o.op = Op.mapUpdate t m x v)
    {kt vt : TypeId} (E : EqKey P kt ek) (ht : P.underlying t = some (.map kt vt)) (b : Nat) (l : List (K × V)) (hm : a.eval m = .map (some b)) (h : KMap ek ev b l w) (k : K) (y : V) (hx : a.eval x = ek k) (hv : a.eval v = ev y) (hn : ∀ p ∈ l, k ≠ p.1)
    (hK : ∀ ob, KMap ek ev b (l ++ [(k, y)]) (setBlock w b ob) → wpList P ops Q rest (a.put o.dst undef) (setBlock w b ob)) :
    wpList P ops Q (o :: rest) a w := by
  refine wpList_plain hg fun K' hK' => ?_
  obtain ⟨ob, hrun, h1⟩ := update_runS E ht h k y hn
  unfold Oper.wp
  simp only [execOp, hop, hm, hx, hv, hrun, Sem.run_bind, Result.andThen]
  exact hK' _ _ (hK ob h1)
theorem wpList_delete_s (w : World) (hg : o.guard = none) (m x : Operand) (t kt : TypeId) (hop : o.op = Op.call { callee := Callee.builtin Builtin.delete, args := #[m, x], argTypes := #[t, kt] })
    {vt : TypeId} (E : EqKey P kt ek) (ht : P.underlying t = some (.map kt vt)) (b r : Nat) (l : List (K × V)) (rem : List K) (hm : a.eval m = .map (some b)) (h : KIter ek ev b l r rem w) (k : K) (hx : a.eval x = ek k)
    (hK : ∀ ob, KIter ek ev b (l.filter fun p => decide (p.1 ≠ k)) r (rem.filter fun q => decide (q ≠ k)) (setBlock w b ob) → wpList P ops Q rest (a.put o.dst (.tuple #[])) (setBlock w b ob)) :
    wpList P ops Q (o :: rest) a w := by
  refine wpList_plain hg fun K' hK' => ?_
  obtain ⟨ob, hrun, h1⟩ := delete_runS (ty := o.type) E ht h k
  unfold Oper.wp
  simp [execOp, hop, resolve, invoke, builtin, hm, hx, hrun, Result.andThen]
  exact hK' _ _ (hK ob h1)
omit [DecidableEq K] in
theorem wpList_len_s (w : World) (hg : o.guard = none) (m : Operand) (t : TypeId) (hop : o.op = Op.call { callee := Callee.builtin Builtin.len, args := #[m], argTypes := #[t] })
    {kt vt : TypeId} (ht : P.underlying t = some (.map kt vt)) (b : Nat) (l : List (K × V)) (hm : a.eval m = .map (some b)) (h : KMap ek ev b l w)
    (hK : wpList P ops Q rest (a.put o.dst (.int .i64 (l.length : Nat))) w) :
    wpList P ops Q (o :: rest) a w := by
  refine wpList_plain hg fun K' hK' => ?_
  obtain ⟨es, n, h1, h2⟩ := h.len
  have hrun : (Builtin.len_ #[t] o.type #[.map (some b)]).run P w = .ok (.int .i64 (l.length : Nat)) w := by
    simp [Builtin.len_, run_underlying ht, MapKept.run_getObj_map h1, Result.andThen, h2, goInt]
  unfold Oper.wp
  simp [execOp, hop, resolve, invoke, builtin, hm, hrun, Result.andThen]
  exact hK' _ _ hK
end

section
open Go.RowKit Go.Shelf Go.Deep
variable {K V : Type} {ek : K → Value} {ev : V → Value}
/-- How many entries an iterator still has to show. -/
def itLeft (r : Nat) (W : World) : Nat := match W.heap[r]? with
  | some (.mapIter (some b) _ seen _) => match W.heap[b]? with
    | some (.map es _) => (es.toList.filter fun e => !seen.contains e.born).length
    | _ => 0
  | _ => 0
theorem KIter.left {b r : Nat} {l : List (K × V)} {rem : List K} {W : World} (h : KIter ek ev b l r rem W) : itLeft r W = rem.length := by
  obtain ⟨L, n, seen, h1, _, h3, rfl⟩ := h
  have h4 := h1.at_
  unfold itLeft
  rw [h3]
  simp only [h4, entS, List.length_map, List.filter_map, Function.comp_def]
theorem filter_less {α : Type} [DecidableEq α] {l : List α} {a : α} (h : a ∈ l) : (l.filter fun k => decide (k ≠ a)).length < l.length := by
  have h1 : (l.filter fun k => decide (k ≠ a)).length ≤ l.length := List.length_filter_le _ _
  rcases Nat.lt_or_eq_of_le h1 with h2 | h2
  · exact h2
  · have h3 := List.length_filter_eq_length_iff.1 h2 a h
    simp at h3
/-- Movements of a spot, as a map holds them. -/
abbrev trV : Unit → Value := fun _ => .bool true
def kvL (L : List Mv) : List (Mv × Unit) := L.map fun m => (m, ())
theorem kv_keys (L : List Mv) : (kvL L).map (·.1) = L := by
  unfold kvL
  rw [List.map_map]
  exact List.map_id L
theorem kv_mem {L : List Mv} {p : Mv × Unit} (h : p ∈ kvL L) : p.1 ∈ L := by
  unfold kvL at h
  obtain ⟨m, hm, rfl⟩ := List.mem_map.1 h
  exact hm
end

end Go.Proofs.Ytpmafnifgegfbaa
