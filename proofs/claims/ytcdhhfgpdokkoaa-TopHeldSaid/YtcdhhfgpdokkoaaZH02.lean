/- What the last text of this chain needs: GA, WkA, WkB, WkC, WkD, WkE, WkF, WkH, WkI. -/
import Derived.Test.YtcdhhfgpdokkoaaZH01
namespace Go.Proofs.Ytcdhhfgpdokkoaa
section
section
open Go.RowKit
abbrev boL (b : Bool) : List Value := [.bool b]
theorem rowB {w : World} {B : Nat} {A : Option Addr} {l : List Bool} (h : Row boL 1 w B A l) {k : Nat} {c : Bool} (hk : l[k]? = some c) :
  ∃ b off, A = some ⟨b, off, none⟩ /\ b < B /\ w.cell? ⟨b, off + k, none⟩ = some (.bool c) := by
 obtain ⟨b, off, e, hb, hc⟩ := h (ne_nil_of_get hk)
 exact ⟨b, off, e, hb, by simpa using hc k c hk 0 _ rfl⟩
end
section
open Go.RowKit
theorem hrow_ok {α : Type} {enc : α -> List Value} {s : Nat} {w : World} {A : Option Addr} {l : List α} (h : Row enc s w w.heap.size A l) (o : Obj) : Row enc s (w.alloc o) (w.alloc o).heap.size A l := row_alloc h o
end
section
open Go.RowKit
theorem all_map {α β : Type} (f : α -> β) (p : β -> Bool) (l : List α) : (l.map f).all p = l.all fun x => p (f x) := by rw [List.all_map]; rfl
end
section
open Go.RowKit
theorem mul_bd {a d A D : Int} (h0 : 0 <= a) (h1 : a <= A) (h2 : 0 <= d) (h3 : d <= D) : 0 <= a * d /\ a * d <= A * D :=
 ⟨Int.mul_nonneg h0 h2, Int.le_trans (Int.mul_le_mul_of_nonneg_right h1 h2) (Int.mul_le_mul_of_nonneg_left h3 (by omega))⟩
end
section
open Go.RowKit
theorem zip_at {α β : Type} {l : List α} {m : List β} {k : Nat} {x : α} {y : β} (h1 : l[k]? = some x) (h2 : m[k]? = some y) : (l.zip m)[k]? = some (x, y) := by
 rw [List.getElem?_zip_eq_some]
 exact ⟨h1, h2⟩
theorem all_bad {α : Type} {l : List α} {p : α -> Bool} {k : Nat} {x : α} (h : l[k]? = some x) (hx : p x = false) : l.all p = false := by
 rw [List.all_eq_false]
 exact ⟨x, List.mem_of_getElem? h, by simp [hx]⟩
theorem all_early {α : Type} {l : List α} {p : α -> Bool} (h : early (fun x => !p x) l l.length) : l.all p = true := by
 rw [List.all_eq_true]
 intro x hx
 obtain ⟨j, hj⟩ := List.mem_iff_getElem?.1 hx
 have := h j x (List.getElem?_eq_some_iff.1 hj).1 hj
 simpa using this
end
section
open Go.RowKit
theorem Row.take {α : Type} {enc : α -> List Value} {s B : Nat} {w : World} {A : Option Addr} {l : List α} (h : Row enc s w B A l) (k : Nat) : Row enc s w B A (l.take k) := by
 intro hne
 obtain ⟨b, off, e, hb, hc⟩ := h (by rintro rfl; simp at hne)
 refine ⟨b, off, e, hb, fun j x hx => hc j x ?_⟩
 rw [List.getElem?_take] at hx
 split at hx
 ·exact hx
 ·cases hx
theorem take_bd {l : List Int} {B : Int} (h : ∀ x ∈ l, 0 <= x /\ x <= B) (k : Nat) : ∀ x ∈ l.take k, 0 <= x /\ x <= B := fun x hx => h x (List.mem_of_mem_take hx)
end
section
open Go.RowKit Go.Deep
theorem Whole.setRow {W : World} {b : Nat} {t : TypeId} {cs : Array Value} (h : Whole W b t cs) (vs : Array Value) : Whole (W.setRow b vs) b t vs := by
 unfold Whole at h ⊢
 simp [World.setRow, Array.getElem?_modify, h]
theorem below_setRow {B : Nat} {w W : World} {b : Nat} (h : Below B w W) (hb : B <= b) (vs : Array Value) : Below B w (W.setRow b vs) :=
 ⟨h.os, h.tape, h.output, by simpa [World.setRow] using h.size, fun i hi => by
  rw [<- h.block i hi]
  simp only [World.setRow, Array.getElem?_modify]
  rw [if_neg (by omega)]⟩
end
section
section
open Go.RowKit
variable {P : Program}
theorem yielded_ne {l : List Oper} {tmps : Array Value} {j : Nat} {dj : Tmp} {oj : Oper} {b : Bool} {v : Value} (hoj : l[j]? = some oj) (hd : oj.dst = some dj) (ht : tmps[dj]? = some v) (hv : v ≠ .bool b) : yielded l.toArray tmps j ≠ some b := by
 have e : (((l.toArray)[j]?).bind (·.dst)).bind (tmps[·]?) = some v := by
  simp only [List.getElem?_toArray, hoj, Option.bind_some, hd, ht]
 unfold yielded
 rw [e]
 intro h
 cases v with
 | bool b' => cases h; exact hv rfl
 | _ => cases h
theorem region_rel_u {l : List Oper} {n : Nat} {Q : Exit -> Act -> World -> Prop} {a₀ : Act} {w : World} (hB : relG l n = true)
  (sk : Nat -> Bool) (G : World -> Prop) (Rl : Nat -> World -> World -> Prop) (D : Nat -> Value -> World -> Prop)
  (hgd : ∀ (i : Nat) (o : Oper) (j : Nat) (b : Bool), i < n -> l[i]? = some o -> o.guard = some (j, b) -> ∀ v W, D j v W -> if sk i then v ≠ .bool b else v = .bool b)
  (hsk : ∀ (i : Nat) (o : Oper), i < n -> l[i]? = some o -> sk i = true -> o.guard ≠ none) (hDsk : ∀ i W, sk i = true -> D i undef W)
  (hDs : ∀ i j v W W', i < n -> j ≠ i -> D j v W -> Rl i W W' -> D j v W')
  (hsz : ∀ i o d, i < n -> l[i]? = some o -> o.dst = some d -> d < a₀.tmps.size)
  (hG : G w)
  (hstep : ∀ i o, i < n -> l[i]? = some o -> sk i = false -> ∀ (listed : Array Bool) a W, listed.size = l.length -> listed.getD i true = false -> G W -> Outer l n a₀ a ->
   (∀ j oj d, j < n -> l[j]? = some oj -> oj.dst = some d -> (∃ e ∈ o.after, Region.binds .any e = true /\ e.on = j) -> D j (slotOf a d) W) ->
   o.wp P a W (fun a' W' => ∃ v, a' = a.put o.dst v /\ D i v W' /\ Rl i W W' /\ G W') Q)
  (htail : ∀ (_ : Array Bool) a W, G W -> Outer l n a₀ a -> (∀ j oj d, j < n -> l[j]? = some oj -> oj.dst = some d -> D j (slotOf a d) W) -> wpList P l.toArray Q (l.drop n) a W) :
  wpAny P .any l.toArray Q l.toArray.size (Array.replicate l.toArray.size false) a₀ w := by
 simp only [relG, Bool.and_eq_true, decide_eq_true_eq] at hB
 obtain ⟨⟨⟨⟨⟨hn, hs⟩, hc⟩, hback⟩, hdst⟩, hseq⟩ := hB
 have hback' : ∀ (i : Nat) (o : Oper), l[i]? = some o -> (∀ e ∈ o.after, Region.binds .any e = true -> e.on < i) /\ (∀ j b, o.guard = some (j, b) -> j < i /\ (∃ e ∈ o.after, Region.binds .any e = true /\ e.on = j) /\ ∃ oj dj, l[j]? = some oj /\ oj.dst = some dj) := by
  intro i o ho
  have := List.all_eq_true.1 hback i (List.mem_range.2 (List.getElem?_eq_some_iff.1 ho).1)
  simp only [ho, Bool.and_eq_true, Array.all_eq_true_iff_forall_mem] at this
  refine ⟨fun e he hb => by simpa [hb] using this.1 e he, fun j b hg => ?_⟩
  have h2 := this.2
  rw [hg] at h2
  simp only [Bool.and_eq_true, decide_eq_true_eq, List.any_eq_true, beq_iff_eq] at h2
  obtain ⟨⟨h3, e, he, hb, hon⟩, h4⟩ := h2
  refine ⟨h3, ⟨e, Array.mem_toList_iff.1 he, hb, hon⟩, ?_⟩
  cases hj : l[j]? with
  | none => rw [hj] at h4; cases h4
  | some oj =>
   rw [hj] at h4
   obtain ⟨dj, hdj⟩ := Option.isSome_iff_exists.1 h4
   exact ⟨oj, dj, rfl, hdj⟩
 have hdst' : ∀ (i j : Nat) (o o' : Oper) (d : Tmp), i < n -> j < n -> i ≠ j -> l[i]? = some o -> l[j]? = some o' -> o.dst = some d -> o'.dst ≠ some d := by
  intro i j o o' d hi hj hij ho ho' hd hd'
  have := List.all_eq_true.1 (List.all_eq_true.1 hdst i (List.mem_range.2 hi)) j (List.mem_range.2 hj)
  simp [hij, ho, ho', hd, hd'] at this
 have key : ∀ (f : Nat) (listed : Array Bool) (a : Act) (W : World), HeadInv .any l.toArray n listed -> ((List.range n).filter fun i => !listed.getD i false).length = f ->
   G W -> Outer l n a₀ a -> (∀ (j : Nat) (oj : Oper) (d : Tmp), j < n -> l[j]? = some oj -> listed.getD j false = true -> oj.dst = some d -> D j (slotOf a d) W) ->
   wpAny P .any l.toArray Q (f + (l.length - n)) listed a W := by
  intro f
  induction f with
  | zero =>
   intro listed a W inv hcnt hGW hO hD
   have hall : ∀ i, i < n -> listed.getD i false = true := by
    intro i hi
    have := List.eq_nil_of_length_eq_zero hcnt
    have h2 := List.filter_eq_nil_iff.1 this i (List.mem_range.2 hi)
    simpa using h2
   have hcanon : listed = headDone n l.length := by
    apply Array.ext
    ·rw [inv.size]; simp [headDone]
    ·intro i h1 h2
     have hi : i < l.length := by simpa [headDone] using h2
     simp only [headDone, Array.getElem_ofFn]
     by_cases hin : i < n
     ·have := hall i hin
      simp [h1] at this
      simp [this, hin]
     ·have := inv.tail i (by omega) (by simpa using hi)
      simp [h1] at this
      simp [this, hin]
   rw [Nat.zero_add]
   have := wpAny_of_seq (md := .any) (Q' := Q) (P := P) (ops := l.toArray) (l.drop n) n listed a W (fun j => by simp [List.getElem?_drop]) (by rw [List.length_drop, hcanon]; exact hseq) (htail listed a W hGW hO (fun j oj d hj ho hd => hD j oj d hj ho (hall j hj) hd))
   rwa [List.length_drop] at this
  | succ f ih =>
   intro listed a W inv hcnt hGW hO hD
   -- some operation of the head has not come up
   have hex : ∃ i, i < n /\ listed.getD i false = false /\ ∀ j, j < i -> listed.getD j false = true := by
    have hne : ((List.range n).filter fun i => !listed.getD i false) ≠ [] := by intro h; rw [h] at hcnt; cases hcnt
    have : ∃ i, i < n /\ listed.getD i false = false := by
     obtain ⟨x, hx⟩ := List.exists_mem_of_ne_nil _ hne
     have hx' := List.mem_filter.1 hx
     exact ⟨x, List.mem_range.1 hx'.1, by simpa using hx'.2⟩
    obtain ⟨i, hi, hl⟩ := this
    have : ∀ k i, i <= k -> i < n -> listed.getD i false = false -> ∃ i, i < n /\ listed.getD i false = false /\ ∀ j, j < i -> listed.getD j false = true := by
     intro k
     induction k with
     | zero => intro i hik hi hl; exact ⟨i, hi, hl, fun j hj => by omega⟩
     | succ k ihk =>
      intro i hik hi hl
      by_cases h : ∃ j, j < i /\ listed.getD j false = false
      ·obtain ⟨j, hj, hjl⟩ := h
       exact ihk j (by omega) (by omega) hjl
      ·refine ⟨i, hi, hl, fun j hj => ?_⟩
       cases hh : listed.getD j false with
       | true => rfl
       | false => exact absurd ⟨j, hj, hh⟩ h
    exact this i i (Nat.le_refl _) hi hl
   obtain ⟨i₀, hi₀, hun₀, hbelow⟩ := hex
   have hi₀s : i₀ < listed.size := by rw [inv.size]; simp; omega
   have hl₀ : listed.getD i₀ true = false := getD_in hi₀s hun₀
   have hready₀ : i₀ ∈ Region.ready .any l.toArray listed := by
    have ho : l[i₀]? = some l[i₀] := List.getElem?_eq_getElem (by omega)
    refine mem_ready.2 ⟨hl₀, l[i₀], by simp, fun e he hb => hbelow _ ((hback' i₀ _ ho).1 e he hb)⟩
   rw [show f + 1 + (l.length - n) = f + (l.length - n) + 1 by omega]
   refine ⟨fun h => (by rw [h] at hready₀; cases hready₀), fun i hi => ?_⟩
   have hin : i < n := by
    rcases Nat.lt_or_ge i n with h | h
    ·exact h
    ·exact absurd hi (tail_waits hs hc (by simpa using hn) inv _ i₀ rfl hi₀ hl₀ i h)
   obtain ⟨hiun, o, ho, hall⟩ := mem_ready.1 hi
   have ho' : l[i]? = some o := by simpa using ho
   unfold wpOp
   simp only [ho]
   have hgv : ∀ j b, o.guard = some (j, b) -> if sk i then yielded l.toArray a.tmps j ≠ some b else yielded l.toArray a.tmps j = some b := by
    intro j b hg
    obtain ⟨hji, ⟨e, he, hb, hon⟩, oj, dj, hoj, hdj⟩ := (hback' i o ho').2 j b hg
    have hl := hall e he hb
    rw [hon] at hl
    have hv := hgd i o j b hin ho' hg _ _ (hD j oj dj (by omega) hoj hl hdj)
    have hsz' : dj < a.tmps.size := by rw [hO.size]; exact hsz j oj dj (by omega) hoj hdj
    have this : a.tmps[dj]? = some (slotOf a dj) := by
     unfold slotOf
     rw [Array.getElem?_eq_getElem hsz']
     rfl
    generalize slotOf a dj = v at hv this
    cases hsk' : sk i with
    | true =>
     rw [hsk'] at hv
     simp only [if_true] at hv ⊢
     exact yielded_ne hoj hdj this hv
    | false =>
     rw [hsk'] at hv
     simp only [Bool.false_eq_true, if_false] at hv ⊢
     subst hv
     simp [yielded, hoj, hdj, this]
   have hcount : ((List.range n).filter fun i_1 => !(listed.setIfInBounds i true).getD i_1 false).length = f := by
    have hiun' : listed.getD i false = false := getD_both hiun
    have his : i < listed.size := by rw [inv.size]; simp; omega
    have e1 : ((List.range n).filter fun j => !(listed.setIfInBounds i true).getD j false) = ((List.range n).filter fun j => !listed.getD j false).filter (fun j => decide (j ≠ i)) := by
     rw [List.filter_filter]
     apply List.filter_congr
     intro j _
     by_cases hji : j = i
     ·subst hji; simp [his]
     ·rw [getD_set_ne false (Ne.symm hji)]; simp [hji]
    rw [e1]
    have hnd : ((List.range n).filter fun j => !listed.getD j false).Nodup := List.nodup_range.filter _
    have hmem : i ∈ ((List.range n).filter fun j => !listed.getD j false) := List.mem_filter.2 ⟨List.mem_range.2 hin, by simp [hiun']⟩
    have := filter_ne_length i _ hnd hmem
    omega
   cases hski : sk i with
   | true =>
    have hw : ¬ Region.wanted o (yielded l.toArray a.tmps) = true := by
     unfold Region.wanted
     cases hg : o.guard with
     | none => exact absurd hg (hsk i o hin ho' hski)
     | some jb =>
      obtain ⟨j, b⟩ := jb
      have := hgv j b hg
      simp only [hski, if_true] at this
      simpa using this
    rw [if_neg hw]
    have hOut : Outer l n a₀ (a.put o.dst undef) := by
     refine ⟨?_, ?_, fun t ht => ?_⟩
     ·cases hd : o.dst <;> simp [Act.put, hO.defers]
     ·cases hd : o.dst <;> simp [Act.put, hO.size]
     ·cases hd : o.dst with
      | none => simpa [Act.put] using hO.same t ht
      | some d =>
       have hne : d ≠ t := fun h => ht i o hin ho' (by rw [hd, h])
       simp only [Act.put]
       rw [Array.getElem?_setIfInBounds_ne hne]
       exact hO.same t ht
    refine ih _ _ _ (inv.set hi hin) hcount hGW hOut ?_
    intro j oj d hj hoj hlj hd
    by_cases hji : j = i
    ·subst hji
     cases hd2 : o.dst with
     | none => have e9 : oj = o := Option.some.inj (hoj.symm.trans ho'); rw [e9, hd2] at hd; cases hd
     | some d9 =>
      have e9 : oj = o := Option.some.inj (hoj.symm.trans ho')
      rw [e9, hd2] at hd
      cases hd
      have hds : d < a.tmps.size := by rw [hO.size]; exact hsz j o d hj (e9 ▸ hoj) hd2
      rw [slot_put_same hds]
      exact hDsk _ _ hski
    ·rw [getD_set_ne false (Ne.symm hji)] at hlj
     have hold := hD j oj d hj hoj hlj hd
     cases hdo : o.dst with
     | none => simpa [Act.put] using hold
     | some d' =>
      have hne : d ≠ d' := fun h => hdst' j i oj o d hj hin hji hoj ho' hd (by rw [hdo, h])
      rw [slot_put_other hne]
      exact hold
   | false =>
    have hst := hstep i o hin ho' hski listed a W (by rw [inv.size]; simp) hiun hGW hO (fun j oj d hj hoj hd ⟨e, he, hb, hon⟩ => hD j oj d hj hoj (by rw [<- hon]; exact hall e he hb) hd)
    have hw : Region.wanted o (yielded l.toArray a.tmps) = true := by
     unfold Region.wanted
     cases hg : o.guard with
     | none => rfl
     | some jb =>
      obtain ⟨j, b⟩ := jb
      have := hgv j b hg
      simp only [hski, Bool.false_eq_true, if_false] at this
      simpa using this
    rw [if_pos hw]
    refine .inl (Oper.wp_mono ?_ hst)
    rintro a' W' ⟨v, rfl, hDv, hRv, hGv⟩
    have hOut : Outer l n a₀ (a.put o.dst v) := by
     refine ⟨?_, ?_, fun t ht => ?_⟩
     ·cases hd : o.dst <;> simp [Act.put, hO.defers]
     ·cases hd : o.dst <;> simp [Act.put, hO.size]
     ·cases hd : o.dst with
      | none => simpa [Act.put] using hO.same t ht
      | some d =>
       have hne : d ≠ t := fun h => ht i o hin ho' (by rw [hd, h])
       simp only [Act.put]
       rw [Array.getElem?_setIfInBounds_ne hne]
       exact hO.same t ht
    refine ih _ _ _ (inv.set hi hin) hcount hGv hOut ?_
    intro j oj d hj hoj hlj hd
    by_cases hji : j = i
    ·subst hji
     have : oj = o := Option.some.inj (hoj.symm.trans ho')
     subst this
     have hds : d < a.tmps.size := by rw [hO.size]; exact hsz j oj d hj hoj hd
     rw [hd, slot_put_same hds]
     exact hDv
    ·rw [getD_set_ne false (Ne.symm hji)] at hlj
     have hold := hDs i j _ W W' hin hji (hD j oj d hj hoj hlj hd) hRv
     cases hdo : o.dst with
     | none => simpa [Act.put] using hold
     | some d' =>
      have hne : d ≠ d' := fun h => hdst' j i oj o d hj hin hji hoj ho' hd (by rw [hdo, h])
      rw [slot_put_other hne]
      exact hold
 have inv0 : HeadInv .any l.toArray n (Array.replicate l.toArray.size false) :=
  ⟨by simp, fun j oj _ hl => (by rw [getD_replicate_false] at hl; cases hl), fun t _ ht => getD_in (by simpa using ht) (getD_replicate_false _ _)⟩
 have := key n _ a₀ w inv0 (by
  have : ((List.range n).filter fun i => !(Array.replicate l.toArray.size false).getD i false) = List.range n := List.filter_eq_self.2 (fun i _ => by rw [getD_replicate_false]; rfl)
  rw [this, List.length_range]) hG ⟨rfl, rfl, fun _ _ => rfl⟩ (fun j oj d _ _ hl => by rw [getD_replicate_false] at hl; cases hl)
 rw [show n + (l.length - n) = l.toArray.size by simp; omega] at this
 exact this
def guardsU (D : Nat -> Value -> World -> Prop) : List Bool -> List Oper -> Prop
 | _, [] => True
 | sks, o :: os => (match o.guard with
   | none => sks.headD false = false
   | some (j, b) => ∀ v W, D j v W -> if sks.headD false then v ≠ .bool b else v = .bool b) /\ guardsU D sks.tail os
theorem guardsU_get {D : Nat -> Value -> World -> Prop} : ∀ (os : List Oper) (sks : List Bool), guardsU D sks os -> ∀ (i : Nat) (o : Oper), os[i]? = some o -> (skAt sks i = true -> o.guard ≠ none) /\ ∀ j b, o.guard = some (j, b) -> ∀ v W, D j v W -> if skAt sks i then v ≠ .bool b else v = .bool b
 | [], _, _, i, o, h => by simp at h
 | x :: os, sks, hs, 0, o, h => by
  simp at h; subst h
  have := hs.1
  rw [skAt_zero]
  cases hg : x.guard with
  | none =>
   rw [hg] at this
   exact ⟨fun e => (by rw [this] at e; cases e), fun j b e => (by cases e)⟩
  | some jb =>
   rw [hg] at this
   exact ⟨fun _ e => (by cases e), fun j b e => (by cases e; exact this)⟩
 | x :: os, sks, hs, i + 1, o, h => by
  rw [skAt_succ]
  exact guardsU_get os sks.tail hs.2 i o (by simpa using h)
def skWordsU : List Bool -> List (Value -> World -> Prop) -> Prop
 | _, [] => True
 | sks, p :: ps => (sks.headD false = true -> ∀ W, p undef W) /\ skWordsU sks.tail ps
theorem skWordsU_get : ∀ (ps : List (Value -> World -> Prop)) (sks : List Bool), skWordsU sks ps -> ∀ i W, skAt sks i = true -> pickD ps i undef W
 | [], _, _, _, _, _ => trivial
 | p :: ps, sks, hs, 0, W, h => hs.1 (by rw [<- skAt_zero]; exact h) W
 | p :: ps, sks, hs, i + 1, W, h => skWordsU_get ps sks.tail hs.2 i W (by rw [<- skAt_succ]; exact h)
theorem region_told_u {l : List Oper} (n : Nat) {Q : Exit -> Act -> World -> Prop} {a₀ : Act} {w : World} (hB : relG l n = true) (hz : szOk a₀.tmps.size (l.take n) = true) (sks : List Bool)
  (G : World -> Prop) (Rl : World -> World -> Prop) (ps : List (Value -> World -> Prop)) (hgd : guardsU (pickD ps) sks (l.take n)) (hws : skWordsU sks ps)
  (hRt : ∀ {A B C : World}, Rl A B -> Rl B C -> Rl A C) (hDs : ∀ i v W W', pickD ps i v W -> Rl W W' -> pickD ps i v W')
  (hG : G w) (hR0 : Rl w w) (hstep : stepsOkS P l n Q a₀ w G Rl (pickD ps) sks 0 (l.take n))
  (htail : ∀ W, G W -> Rl w W -> tailsOk (pickD ps) W (fun a => wpList P l.toArray Q (l.drop n) a W) 0 (l.take n) a₀) :
  wpAny P .any l.toArray Q l.toArray.size (Array.replicate l.toArray.size false) a₀ w := by
 have htake : ∀ (i : Nat) (o : Oper), i < n -> l[i]? = some o -> (l.take n)[i]? = some o := fun i o hi ho => by rw [List.getElem?_take, if_pos hi]; exact ho
 have hback : ∀ (i : Nat) (o : Oper), i < n -> l[i]? = some o -> ∀ e ∈ o.after, Region.binds .any e = true -> e.on < n := by
  have hB' := hB
  simp only [relG, Bool.and_eq_true, decide_eq_true_eq] at hB'
  obtain ⟨⟨⟨⟨⟨_, _⟩, _⟩, hback⟩, _⟩, _⟩ := hB'
  intro i o hi ho e he hbd
  have := List.all_eq_true.1 hback i (List.mem_range.2 (List.getElem?_eq_some_iff.1 ho).1)
  simp only [ho, Bool.and_eq_true, Array.all_eq_true_iff_forall_mem] at this
  have h2 : e.on < i := by simpa [hbd] using this.1 e he
  omega
 refine region_rel_u hB (skAt sks) (fun W => G W /\ Rl w W) (fun _ => Rl) (pickD ps) (fun i o j b hi ho hg => (guardsU_get _ _ hgd i o (htake i o hi ho)).2 j b hg) (fun i o hi ho hs => (guardsU_get _ _ hgd i o (htake i o hi ho)).1 hs) (fun i W hs => skWordsU_get ps sks hws i W hs) (fun _ j v W W' _ _ => hDs j v W W') (fun i o d hi ho hd => sz_of _ hz i o d (htake i o hi ho) hd) ⟨hG, hR0⟩ ?_ ?_
 ·rintro i o hi ho hski _ a W _ _ ⟨hGW, hRW⟩ hO hp
  have := stepsS_get _ _ _ hstep i o (htake i o hi ho)
  rw [Nat.zero_add] at this
  rcases this with h | this
  ·rw [h] at hski; cases hski
  refine Oper.wp_mono ?_ (this a W hGW hRW hO (preds_of o (hback i o hi ho) hp))
  rintro a' W' ⟨v, h1, h2, h3, h4⟩
  exact ⟨v, h1, h2, h3, h4, hRt hRW h3⟩
 ·rintro _ a W ⟨hGW, hRW⟩ hO hd
  have hh := heads_of (D := pickD ps) (a := a) (W := W) (l.take n) 0 fun j oj d hj hdd => by
   rw [List.getElem?_take] at hj
   split at hj
   ·rename_i hjn
    rw [Nat.zero_add]
    exact hd j oj d hjn hj hdd
   ·cases hj
  have := tails_filled _ _ _ hh (htail W hGW hRW)
  rwa [filled_eq hO] at this
end
section
open Go.RowKit Go.Deep Go.WideShapes Go.ChangeShapes Go.ChangeAt
theorem mapM_some' {α β : Type} {f : α -> Option β} {g : α -> β} : ∀ {l : List α}, (∀ x ∈ l, f x = some (g x)) -> l.mapM f = some (l.map g)
 | [], _ => rfl
 | x :: l, h => by
  rw [List.mapM_cons, h x (by simp), mapM_some' (l := l) fun y hy => h y (List.mem_cons_of_mem _ hy)]
  rfl
theorem flat_one {α : Type} (f : Int -> α) : ∀ (l : List Int) (n : Nat), l.length = n -> ((List.range n).map fun i => [f (iAt l i)]).flatten = l.map f := by
 intro l n h
 have h1 : l.map f = ((List.range n).map (iAt l)).map f := by rw [<- h, map_iAt]
 rw [h1]
 generalize List.range n = r
 induction r with
 | nil => rfl
 | cons x r ih => simp [ih]
theorem bits_vi (m : Nat) (x : Int) : Instr.sameBits m (vi x) (vi x) = true := by cases m <;> simp [Instr.sameBits]
theorem bits_all (m : Nat) : ∀ l : List Int, ((l.map vi).zip (l.map vi)).all (fun q => Instr.sameBits m q.1 q.2) = true
 | [] => rfl
 | x :: l => by simp [bits_vi, bits_all m l]
end
end
section
theorem sum_set (l : List Int) (d : Int) : ∀ i, i < l.length -> (l.set i (iAt l i + d)).sum = l.sum + d := by
 induction l with
 | nil => intro i hi; simp at hi
 | cons x l ih =>
  intro i hi
  cases i with
  | zero =>
   simp only [List.set_cons_zero, List.sum_cons]
   have : iAt (x :: l) 0 = x := rfl
   omega
  | succ i =>
   simp only [List.set_cons_succ, List.sum_cons]
   have h1 : iAt (x :: l) (i + 1) = iAt l i := rfl
   rw [h1, ih i (by simpa using hi)]
   omega
theorem take_sum_set (l : List Int) (d : Int) (hd : 0 <= d) (i k : Nat) : (l.take k).sum <= ((l.set i (iAt l i + d)).take k).sum := by
 rcases Nat.lt_or_ge i k with hik | hik
 ·rcases Nat.lt_or_ge i l.length with hi | hi
  ·rw [List.take_set]
   have e : iAt l i = iAt (l.take k) i := by unfold iAt; rw [List.getElem?_take, if_pos hik]
   rw [e, sum_set _ _ _ (by rw [List.length_take]; omega)]
   omega
  ·rw [List.set_eq_of_length_le hi]
   exact Int.le_refl _
 ·rw [List.take_set_of_le hik]
  exact Int.le_refl _
theorem sum_set_le (l : List Int) (d : Int) (hd : 0 <= d) (i : Nat) : l.sum <= (l.set i (iAt l i + d)).sum := by
 have h := take_sum_set l d hd i l.length
 rw [List.take_length] at h
 have e : (l.set i (iAt l i + d)).take l.length = l.set i (iAt l i + d) := by rw [List.take_of_length_le (by simp)]
 rwa [e] at h
end
section
open Go.RowKit
open Go.ChangeMaps (setBlock)
section
theorem cell_of_same {w W : World} {k : Nat} (h : W.heap[k]? = w.heap[k]?) (o : Nat) : W.cell? ⟨k, o, none⟩ = w.cell? ⟨k, o, none⟩ := by simp [World.cell?, h]
theorem wp_append_one {P : Program} {w : World} {o : Oper} {a : Act} {K : Act -> World -> Prop} {Q : Exit -> Act -> World -> Prop} (s x : Operand) (t : TypeId)
  (ho : o.op = .call { callee := .builtin .append, args := #[s, x], argTypes := #[t, t] })
  (base : Nat) (e : TypeId) (i : TypeInfo) (z : Value) (bytes : Nat) (ht : P.underlying t = some (.slice e)) (hi : P.info? e = some i) (hz : i.zero = some z) (hsize : i.size = 1) (hby : i.bytes = bytes) (hzs : z.cells.size = 1)
  (A : Option Addr) (n c : Nat) (xs : List Value) (hs : a.eval s = .slice A n c) (hown : w.ownsRow base e 1 (.slice A n c) n xs)
  (ad : Addr) (c2 : Nat) (y : Value) (hx : a.eval x = .slice (some ad) 1 c2) (hy : w.cell? ad = some y) (hy1 : y.oneCell' = true)
  (h63 : n + 1 <= maxLen) (hbytes : (n + 1) * bytes <= 140737488355328) (hbase : base <= w.heap.size)
  (h : ∀ g c' w', w'.ownsRow base e 1 (.slice (some ⟨g, 0, none⟩) (n + 1) c') (n + 1) (xs ++ [y]) -> ((A = some ⟨g, 0, none⟩ /\ c' = c /\ w.grownBy w' (some g)) ∨ (w.heap.size <= g /\ w.grownBy w' none)) -> K (a.put o.dst (.slice (some ⟨g, 0, none⟩) (n + 1) c')) w') : o.wp P a w K Q := by
 have hnews : ∀ j u, [y][j]? = some u -> w.cell? (ad.add j) = some u := by
  intro j u hu
  obtain rfl : j = 0 := by
   rcases j with _ | j
   ·rfl
   ·simp at hu
  simp only [List.getElem?_cons_zero, Option.some.injEq] at hu
  subst hu
  rw [show ad.add 0 = ad by unfold Addr.add; split <;> simp_all]
  exact hy
 have h1 : ∀ u ∈ [y], u.oneCell' = true := fun u hu => by rw [List.mem_singleton.1 hu]; exact hy1
 rcases hown.2 with ⟨h0, hn0⟩ | ⟨g, cap, cur, hv, hb, hg, hnc, hcm, hcs, htk⟩
 ·injection h0 with e1 e2 e3
  subst e1 e2 e3
  refine wp_append_lies w s x t ho base e i z 1 bytes ht hi hz hsize hby hzs (by omega) (.slice none 0 0) 0 xs hs hown ad 1 c2 [y] hx rfl hnews h1 (by omega) h63 hbytes hbase w.heap.size rfl ?_
  intro g cap w' hown2 hgrow hat _
  refine h g cap w' hown2 (.inr ⟨?_, hgrow⟩)
  rcases hat with hat | hat
  ·simp [Value.ownBlock] at hat
  ·omega
 ·injection hv with e1 e2 e3
  subst e1 e3
  by_cases hroom : n + 1 <= c
  ·refine wp_append_own_spare w s x t ho base e i 1 ht hi hsize g n c xs hs hown ad 1 c2 [y] hx rfl hnews h1 hroom ?_
   intro w' hown2 hgrow
   exact h g c w' hown2 (.inl ⟨rfl, rfl, hgrow⟩)
  ·have holds : ∀ j u, xs[j]? = some u -> w.cell? ((⟨g, 0, none⟩ : Addr).add j) = some u := hown.cells (g := g) rfl
   obtain ⟨v', w', hr, h2, h3⟩ := run_append_arg_grows (P := P) w t o.type e i z 1 bytes ht hi hz hsize hby hzs (by omega) ⟨g, 0, none⟩ n c xs hown.1 holds ad 1 c2 [y] rfl hnews (by omega) h63 hbytes
   obtain ⟨g2, cap, rfl, hg2, _⟩ := h2.form (by omega)
   unfold Oper.wp execOp
   simp only [ho, resolve, invoke, builtin, Sem.run_bind, Sem.run_pure, Result.andThen_ok, List.map_toArray, List.map_cons, List.map_nil, hs, hx, hr]
   exact h g2 cap w' (own_more h2 hbase) (.inr ⟨hg2, h3⟩)
theorem own_prefix {w : World} {base g n c : Nat} {e : TypeId} {xs : List Value} {y : Value} (h : w.ownsRow base e 1 (.slice (some ⟨g, 0, none⟩) (n + 1) c) (n + 1) (xs ++ [y])) : w.ownsRow base e 1 (.slice (some ⟨g, 0, none⟩) n c) n xs := by
 have hl := h.1
 rw [List.length_append, List.length_singleton] at hl
 rcases h.2 with ⟨h0, _⟩ | ⟨g2, cap, cur, hv, hb, hg, hnc, hcm, hcs, htk⟩
 ·cases h0
 ·refine ⟨by omega, .inr ⟨g2, cap, cur, ?_, hb, hg, by omega, hcm, hcs, ?_⟩⟩
  ·injection hv with e1 _ e3
   rw [e1, e3]
  ·have e1 : cur.toList.take (n * 1) = (cur.toList.take ((n + 1) * 1)).take (n * 1) := by rw [List.take_take]; congr 1; omega
   rw [e1, htk, List.take_append_of_le_length (by omega), List.take_of_length_le (by omega)]
end
section
theorem atR_app {K V : Type} [DecidableEq K] (a b : K) (v : V) : ∀ (l : List (K × V)) (i : Nat), ((atR a (l ++ [(b, v)]) i).map fun p => p.2) = ((atR a l i).map fun p => p.2).orElse fun _ => if a = b then some v else none
 | [], i => by
  simp only [List.nil_append, atR]
  split <;> rfl
 | p :: l, i => by
  simp only [List.cons_append, atR]
  split
  ·rfl
  ·exact atR_app a b v l (i + 1)
def Onto1 (A : Option Addr) (c g c' : Nat) (w w' : World) : Prop := (A = some ⟨g, 0, none⟩ /\ c' = c /\ w.grownBy w' (some g)) ∨ (w.heap.size <= g /\ w.grownBy w' none)
theorem Onto1.grown {A : Option Addr} {c n g c' : Nat} {w w' : World} (h : Onto1 A c g c' w w') : w.grownBy w' (Value.slice A n c).ownBlock := by
 rcases h with ⟨rfl, _, h⟩ | ⟨_, h⟩
 ·exact h
 ·exact h.but _
end
end
section
open Go.RowKit Go.Deep
open Go.ChangeMaps (setBlock)
theorem skw {x : Bool} {v : Value} (h : x = true) (W : World) : vIs (bif x then undef else v) undef W := by subst h; rfl
theorem gdT (x : Bool) : if (!x) = true then Value.bool x ≠ .bool true else Value.bool x = .bool true := by cases x <;> simp
theorem gdF (x : Bool) : if x = true then Value.bool x ≠ .bool false else Value.bool x = .bool false := by cases x <;> simp
theorem gdN (x f : Bool) : if (x || !f) = true then (bif x then undef else Value.bool f) ≠ .bool true else (bif x then undef else Value.bool f) = .bool true := by cases x <;> cases f <;> simp [undef]
theorem wp_lookup_r {K V : Type} [DecidableEq K] {P : Program} {w : World} {o : Oper} {a : Act} {Q : Exit -> Act -> World -> Prop} {C : Act -> World -> Prop} (m x : Operand) (t : TypeId) (c : Bool) (hop : o.op = Op.lookup t m x c)
  {kt vt : TypeId} {ek : K -> Value} {ev : V -> Value} (E : EqKey P kt ek) (ht : P.underlying t = some (.map kt vt)) {z : Value} (hz : (zeroValue vt).run P w = .ok z w) (b : Nat) (l : List (K × V)) (hm : a.eval m = .map (some b)) (h : RMap ek ev b l w) (k : K) (hx : a.eval x = ek k)
  (hK : C (a.put o.dst (if c then .tuple #[((atR k l 0).map fun p => ev p.2).getD z, .bool (atR k l 0).isSome] else ((atR k l 0).map fun p => ev p.2).getD z)) w) : o.wp P a w C Q := by
 unfold Oper.wp
 simp only [execOp, hop, hm, hx, lookup_run E ht hz h k c, Sem.run_bind, Result.andThen]
 exact hK
def vClo (base n : Nat) (l : List Int) (H : Nat) (v : Value) (W : World) : Prop := ∃ B c', v = .slice B n c' /\ W.ownsRow base 3 1 (.slice B n c') n (l.map vi) /\ (l = [] -> B = none) /\ ∀ k, (Value.slice B n c').ownBlock = some k -> H <= k
theorem vClo_st {base n : Nat} {l : List Int} {H : Nat} : ∀ v W W', vClo base n l H v W -> newer W W' -> vClo base n l H v W' := fun _ _ _ ⟨B, c', h1, h2, h3, h4⟩ hb => ⟨B, c', h1, own_below h2 hb, h3, h4⟩
def vOn1 (base : Nat) (A : Option Addr) (n c : Nat) (l : List Int) (y : Int) (w : World) (v : Value) (W : World) : Prop := ∃ g c', v = .slice (some ⟨g, 0, none⟩) (n + 1) c' /\ W.ownsRow base 3 1 (.slice (some ⟨g, 0, none⟩) (n + 1) c') (n + 1) (l.map vi ++ [vi y]) /\ Onto1 A c g c' w W
theorem Onto1.next {A : Option Addr} {c g c' : Nat} {w W W' : World} (h : Onto1 A c g c' w W) (hb : newer W W') : Onto1 A c g c' w W' := by
 rcases h with ⟨h1, h2, h3⟩ | ⟨h1, h2⟩
 ·exact .inl ⟨h1, h2, grown_below h3 hb⟩
 ·exact .inr ⟨h1, grown_below h2 hb⟩
theorem Onto1.ahead {A : Option Addr} {c g c' : Nat} {w W W' : World} (hb : newer w W) (h : Onto1 A c g c' W W') : Onto1 A c g c' w W' := by
 rcases h with ⟨h1, h2, h3⟩ | ⟨h1, h2⟩
 ·exact .inl ⟨h1, h2, grown_trans' (grown_of_newer hb _) h3⟩
 ·exact .inr ⟨Nat.le_trans hb.size h1, grown_trans' (grown_of_newer hb _) h2⟩
theorem vOn1_st {base : Nat} {A : Option Addr} {n c : Nat} {l : List Int} {y : Int} {w : World} : ∀ v W W', vOn1 base A n c l y w v W -> newer W W' -> vOn1 base A n c l y w v W' := fun _ _ _ ⟨g, c', h1, h2, h3⟩ hb => ⟨g, c', h1, own_below h2 hb, h3.next hb⟩
end
section
open Go.RowKit Go.Deep
end
section
open Go.RowKit Go.Shelf Go.Deep
end
section
open Go.RowKit Go.Shelf Go.Deep
def markD (D : Nat) : Deferred := { target := .collected D, args := #[] }
structure MarksOk (Ds : List Nat) (W : World) : Prop where
 nd : Ds.Nodup
 at_ : ∀ D ∈ Ds, W.heap[D]? = some (.deferred (some []))
theorem MarksOk.lt {Ds : List Nat} {W : World} (h : MarksOk Ds W) : ∀ D ∈ Ds, D < W.heap.size := fun D hD => (Array.getElem?_eq_some_iff.1 (h.at_ D hD)).1
theorem MarksOk.next {Ds : List Nat} {W W' : World} (h : MarksOk Ds W) (hb : newer W W') : MarksOk Ds W' := ⟨h.nd, fun D hD => (hb.block D (h.lt D hD)).trans (h.at_ D hD)⟩
theorem MarksOk.grown {Ds : List Nat} {W W' : World} {d : Nat} (h : MarksOk Ds W) (hg : W.grownBy W' (some d)) (hd : d ∉ Ds) : MarksOk Ds W' := ⟨h.nd, fun D hD => (hg.block D (h.lt D hD) (by intro e; injection e with e; rw [e] at hD; exact hd hD)).trans (h.at_ D hD)⟩
theorem MarksOk.far {Ds : List Nat} {W : World} (h : MarksOk Ds W) {k : Nat} {t : TypeId} {cs : Array Value} (hw : Whole W k t cs) : k ∉ Ds := fun hm => by
 have := h.at_ k hm
 unfold Whole at hw
 rw [hw] at this
 cases this
theorem leaves_marks {F : Fence} {n : Nat} {P : Program} {fn : Func} {tmps : Array Value} {R : Ending -> World -> Prop} : ∀ (Ds : List Nat) (W : World), MarksOk Ds W ->
  (∀ W', W'.os = W.os -> W'.tape = W.tape -> W'.output = W.output -> W'.heap.size = W.heap.size -> (∀ k, k ∉ Ds -> W'.heap[k]? = W.heap[k]?) -> ∃ v, (results fn tmps).run P W' = .ok v W' /\ R (.returned v) W') -> LeavesInM F n P fn tmps R (Ds.map markD) .returning W
 | [], W, _, h => h W rfl rfl rfl rfl fun _ _ => rfl
 | D :: Ds, W, hm, h => by
  have hnd := List.nodup_cons.1 hm.nd
  refine ⟨by simp, .inl ⟨D, _, rfl, run_takeDeferred (hm.at_ D (by simp)), leaves_marks Ds _ ⟨hnd.2, fun E hE => ?_⟩ fun W' h1 h2 h3 h4 h5 => h W' h1 h2 h3 (h4.trans (by simp)) fun k hk => ?_⟩⟩
  ·exact (World.putObj_heap_other (fun e => hnd.1 (by rw [<- e]; exact hE))).trans (hm.at_ E (List.mem_cons_of_mem _ hE))
  ·rw [List.mem_cons, not_or] at hk
   exact (h5 k hk.2).trans (World.putObj_heap_other hk.1)
end
section
open Go.RowKit Go.Deep
theorem wp_append_copy {α : Type} {enc : α -> List Value} {size : Nat} {P : Program} {w : World} {o : Oper} {a : Act} {K : Act -> World -> Prop} {Q : Exit -> Act -> World -> Prop} (s x : Operand) (t e : TypeId) (i0 : TypeInfo) (z : Value) (bytes : Nat)
  (ht : P.underlying t = some (.slice e)) (hi0 : P.info? e = some i0) (hz0 : i0.zero = some z) (hz1 : i0.size = size) (hz2 : i0.bytes = bytes) (hzs : z.cells.size = size) (hs0 : 0 < size) (hby : bytes <= 1000) (he : ∀ x, (enc x).length = size)
  (ho : o.op = .call { callee := .builtin .append, args := #[s, x], argTypes := #[t, t] }) (nb : Nat) (hs : a.eval s = .slice (some ⟨nb, 0, none⟩) 0 0)
  (l : List α) (A : Option Addr) (cp : Nat) (hx : a.eval x = .slice A l.length cp) (hl : l.length <= 1000) (hr : Row enc size w w.heap.size A l)
  (h : ∀ B c w', Row enc size w' w'.heap.size (some B) l -> Below w.heap.size w w' -> l.length <= c -> (B.block = nb ∨ w.heap.size <= B.block) -> K (a.put o.dst (.slice (some B) l.length c)) w') : Oper.wp P o a w K Q := by
 rcases Nat.eq_zero_or_pos l.length with h0 | hpos
 ·obtain rfl : l = [] := List.eq_nil_of_length_eq_zero h0
  have hrun : (Builtin.append_ #[t, t] o.type #[.slice (some ⟨nb, 0, none⟩) 0 0, .slice A 0 cp]).run P w = .ok (.slice (some ⟨nb, 0, none⟩) 0 0) w := by
   have hu := run_underlying (P := P) (w := w) ht
   rcases A with _ | ad <;> simp [Builtin.append_, hu, sizeOf, typeInfo, hi0, Builtin.lenOf, Builtin.firstCells, loadCells, loadCellsFrom, storeCells]
  unfold Oper.wp
  simp [execOp, ho, resolve, invoke, builtin, hs, hx, hrun, Result.andThen]
  exact h _ _ w (Row.nil _) (Below.refl _ _) (Nat.le_refl _) (.inl rfl)
 ·obtain ⟨b, off, rfl, hb, hc⟩ := hr (by intro e; rw [e] at hpos; simp at hpos)
  refine wp_append_new s x t ho e i0 z size bytes ht hi0 hz0 hz1 hz2 hzs hs0 ⟨nb, 0, none⟩ hs ⟨b, off, none⟩ l.length cp (l.flatMap enc) hx (by rw [flat_len (enc := enc) (s := size) he]) (row_news (enc := enc) (s := size) hs0 he hr) hpos (by unfold maxLen; omega) (by have := Nat.mul_le_mul hl hby; omega) ?_
  intro gg cap w' hown hbl
  exact h _ _ w' (row_of_own hs0 he hown) hbl (own_room hown).1 (.inr (own_ge_slice hown))
def copiedC (w : World) (l : List Int) (e : Ending) (w' : World) : Prop := ∃ A c, e = .returned (.slice A l.length c) /\ l.length <= c /\ Row intL 1 w' w'.heap.size A l /\ Below w.heap.size w w' /\ ∀ a, A = some a -> w.heap.size <= a.block
end
section
open Go.RowKit Go.Deep
theorem bad1 {a b c d e f : Bool} (h : a = false) : (a && b && c && d && e && f) = false := by subst h; simp
theorem bad2 {a b c d e f : Bool} (h : b = false) : (a && b && c && d && e && f) = false := by subst h; simp
theorem bad3 {a b c d e f : Bool} (h : c = false) : (a && b && c && d && e && f) = false := by subst h; simp
theorem bad4 {a b c d e f : Bool} (h : d = false) : (a && b && c && d && e && f) = false := by subst h; simp
theorem bad5 {a b c d e f : Bool} (h : e = false) : (a && b && c && d && e && f) = false := by subst h; simp
theorem bad6 {a b c d e f : Bool} (h : f = false) : (a && b && c && d && e && f) = false := by subst h; simp
end
section
open Go.RowKit Go.Deep
theorem wp_append_owncopy {α : Type} {enc : α -> List Value} {size : Nat} {P : Program} {w : World} {o : Oper} {a : Act} {K : Act -> World -> Prop} {Q : Exit -> Act -> World -> Prop} (base : Nat) (s x : Operand) (t e : TypeId) (i0 : TypeInfo) (z : Value) (bytes : Nat)
  (ht : P.underlying t = some (.slice e)) (hi0 : P.info? e = some i0) (hz0 : i0.zero = some z) (hz1 : i0.size = size) (hz2 : i0.bytes = bytes) (hzs : z.cells.size = size) (hs0 : 0 < size) (hby : bytes <= 1000) (he : ∀ x, (enc x).length = size)
  (ho : o.op = .call { callee := .builtin .append, args := #[s, x], argTypes := #[t, t] }) (nb : Nat) (hs : a.eval s = .slice (some ⟨nb, 0, none⟩) 0 0) (hnb : base <= nb) (hwn : Whole w nb e #[])
  (l : List α) (A : Option Addr) (cp : Nat) (hx : a.eval x = .slice A l.length cp) (hl : l.length <= 1000) (hr : Row enc size w w.heap.size A l) (hbase : base <= w.heap.size)
  (h : ∀ B c w', w'.ownsRow base e size (.slice B l.length c) l.length (l.flatMap enc) -> Below w.heap.size w w' -> l.length <= c -> K (a.put o.dst (.slice B l.length c)) w') : Oper.wp P o a w K Q := by
 rcases Nat.eq_zero_or_pos l.length with h0 | hpos
 ·obtain rfl : l = [] := List.eq_nil_of_length_eq_zero h0
  have hrun : (Builtin.append_ #[t, t] o.type #[.slice (some ⟨nb, 0, none⟩) 0 0, .slice A 0 cp]).run P w = .ok (.slice (some ⟨nb, 0, none⟩) 0 0) w := by
   have hu := run_underlying (P := P) (w := w) ht
   rcases A with _ | ad <;> simp [Builtin.append_, hu, sizeOf, typeInfo, hi0, Builtin.lenOf, Builtin.firstCells, loadCells, loadCellsFrom, storeCells]
  unfold Oper.wp
  simp [execOp, ho, resolve, invoke, builtin, hs, hx, hrun, Result.andThen]
  exact h _ _ w ⟨by simp, .inr ⟨nb, 0, #[], rfl, hnb, hwn, Nat.le_refl _, by unfold maxLen; omega, by simp, by simp⟩⟩ (Below.refl _ _) (Nat.le_refl _)
 ·obtain ⟨b, off, rfl, hb, hc⟩ := hr (by intro e; rw [e] at hpos; simp at hpos)
  refine wp_append_new s x t ho e i0 z size bytes ht hi0 hz0 hz1 hz2 hzs hs0 ⟨nb, 0, none⟩ hs ⟨b, off, none⟩ l.length cp (l.flatMap enc) hx (by rw [flat_len (enc := enc) (s := size) he]) (row_news (enc := enc) (s := size) hs0 he hr) hpos (by unfold maxLen; omega) (by have := Nat.mul_le_mul hl hby; omega) ?_
  intro gg cap w' hown hbl
  exact h _ _ w' (own_more hown hbase) hbl (own_room hown).1
def vOwn {α : Type} (B : Nat) (e : TypeId) (size : Nat) (enc : α -> List Value) (l : List α) (v : Value) (W : World) : Prop := ∃ A c, v = .slice A l.length c /\ W.ownsRow B e size (.slice A l.length c) l.length (l.flatMap enc)
theorem vOwn_st {α : Type} {B : Nat} {e : TypeId} {size : Nat} {enc : α -> List Value} {l : List α} : ∀ v W W', vOwn B e size enc l v W -> newer W W' -> vOwn B e size enc l v W' := fun _ _ _ ⟨A, c, h1, h2⟩ hb => ⟨A, c, h1, own_below h2 hb⟩
def vEmpT (B : Nat) (t : TypeId) (v : Value) (W : World) : Prop := ∃ nb, v = .slice (some ⟨nb, 0, none⟩) 0 0 /\ B <= nb /\ Whole W nb t #[]
theorem vEmpT_st {B : Nat} {t : TypeId} : ∀ v W W', vEmpT B t v W -> newer W W' -> vEmpT B t v W' := fun _ _ _ ⟨nb, h1, h2, h3⟩ hb => ⟨nb, h1, h2, h3.below hb h3.lt⟩
section
theorem own_apart {w : World} {base base' : Nat} {e e' : TypeId} {size size' n n' : Nat} {v v' : Value} {xs xs' : List Value} (h : w.ownsRow base e size v n xs) (h' : w.ownsRow base' e' size' v' n' xs') (hne : e ≠ e') : v.ownBlock = none ∨ v.ownBlock ≠ v'.ownBlock := by
 rcases Option.eq_none_or_eq_some v.ownBlock with h0 | ⟨q, h0⟩
 ·exact .inl h0
 ·exact .inr fun h2 => own_own_ne h h' hne q h0 (h2 ▸ h0)
end
end
section
open Go.RowKit Go.Deep
end
section
open Go.RowKit Go.Deep
end
section
theorem zip_snoc {α β : Type} (y : α) : ∀ (l : List α) (ws : List β) (x : β), ws[l.length]? = some x -> (l ++ [y]).zip ws = l.zip ws ++ [(y, x)]
 | [], [], x, h => by simp at h
 | [], w :: ws, x, h => by
  simp only [List.length_nil, List.getElem?_cons_zero, Option.some.injEq] at h
  subst h
  simp
 | a :: l, [], x, h => by simp at h
 | a :: l, w :: ws, x, h => by
  simp only [List.length_cons, List.getElem?_cons_succ] at h
  simp only [List.cons_append, List.zip_cons_cons, zip_snoc y l ws x h]
theorem iAt_set {l : List Int} {i j : Nat} {v : Int} (hi : i < l.length) : iAt (l.set i v) j = if i = j then v else iAt l j := by
 unfold iAt
 rw [List.getElem?_set]
 by_cases h : i = j
 ·rw [if_pos h, if_pos h, if_pos hi]
  rfl
 ·rw [if_neg h, if_neg h]
theorem iAt_zeros (m k : Nat) : iAt (List.replicate m 0) k = 0 := by
 unfold iAt
 rw [List.getElem?_replicate]
 split <;> rfl
end
section
open Go.RowKit Go.Deep
end
section
open Go.ChangeShapes Go.WideShapes Go.ChangeAt Go.RowKit Go.Deep
theorem map_intL : ∀ l : List Int, l.map vi = l.flatMap intL
 | [] => rfl
 | x :: l => by
  rw [List.map_cons, List.flatMap_cons, <- map_intL l]
  rfl
end
section
open Go.ChangeShapes Go.WideShapes Go.ChangeAt Go.RowKit Go.Deep
structure Byt where
 n : Int
 lo : 0 <= n
 hi : n <= 255
structure Hlf where
 n : Int
 lo : 0 <= n
 hi : n <= 65535
abbrev byL (x : Byt) : List Value := [.int .u8 x.n]
abbrev hwL (x : Hlf) : List Value := [.int .u16 x.n]
theorem row_byte {w : World} {B : Nat} {A : Option Addr} {l : List Byt} (h : Row byL 1 w B A l) {k : Nat} {c : Byt} (hk : l[k]? = some c) :
  ∃ b off, A = some ⟨b, off, none⟩ /\ b < B /\ w.cell? ⟨b, off + k, none⟩ = some (.int .u8 c.n) := by
 obtain ⟨b, off, e, hb, hc⟩ := h (ne_nil_of_get hk)
 exact ⟨b, off, e, hb, by simpa using hc k c hk 0 _ rfl⟩
theorem row_half {w : World} {B : Nat} {A : Option Addr} {l : List Hlf} (h : Row hwL 1 w B A l) {k : Nat} {c : Hlf} (hk : l[k]? = some c) :
  ∃ b off, A = some ⟨b, off, none⟩ /\ b < B /\ w.cell? ⟨b, off + k, none⟩ = some (.int .u16 c.n) := by
 obtain ⟨b, off, e, hb, hc⟩ := h (ne_nil_of_get hk)
 exact ⟨b, off, e, hb, by simpa using hc k c hk 0 _ rfl⟩
end

section
open Go.ChangeShapes Go.WideShapes Go.ChangeAt Go.RowKit Go.Deep
end
section
open Go.ChangeShapes Go.WideShapes Go.ChangeAt Go.RowKit Go.Deep
end
section
theorem sum_le_map {α : Type} {f g : α -> Int} : ∀ (l : List α), (∀ x ∈ l, f x <= g x) -> (l.map f).sum <= (l.map g).sum
 | [], _ => Int.le_refl _
 | x :: l, h => by
  have h1 := h x List.mem_cons_self
  have h2 := sum_le_map l fun y hy => h y (List.mem_cons_of_mem _ hy)
  simp only [List.map_cons, List.sum_cons]
  omega
theorem sum_add_map {α : Type} (f g : α -> Int) : ∀ (l : List α), (l.map fun x => f x + g x).sum = (l.map f).sum + (l.map g).sum
 | [] => rfl
 | x :: l => by
  have h2 := sum_add_map f g l
  simp only [List.map_cons, List.sum_cons]
  omega
theorem sum_mul_map {α : Type} (c : Int) (f : α -> Int) : ∀ (l : List α), (l.map fun x => c * f x).sum = c * (l.map f).sum
 | [] => by simp
 | x :: l => by
  have h2 := sum_mul_map c f l
  simp only [List.map_cons, List.sum_cons]
  rw [h2, Int.mul_add]
theorem sum_nonneg_map {α : Type} {f : α -> Int} : ∀ (l : List α), (∀ x ∈ l, 0 <= f x) -> 0 <= (l.map f).sum
 | [], _ => Int.le_refl _
 | x :: l, h => by
  have h1 := h x List.mem_cons_self
  have h2 := sum_nonneg_map l fun y hy => h y (List.mem_cons_of_mem _ hy)
  simp only [List.map_cons, List.sum_cons]
  omega
theorem sum_min {α : Type} {f : α -> Int} {d : Int} (hd : 0 <= d) : ∀ (l : List α), (∀ x ∈ l, 0 <= f x) -> (d <= (l.map fun x => mnI d (f x)).sum ∨ (l.map fun x => mnI d (f x)).sum = (l.map f).sum)
 | [], _ => .inr rfl
 | x :: l, h => by
  have h1 := h x List.mem_cons_self
  have hl := fun y hy => h y (List.mem_cons_of_mem _ hy)
  have h0 : 0 <= (l.map fun x => mnI d (f x)).sum := sum_nonneg_map (f := fun x => mnI d (f x)) l fun y hy => by have := hl y hy; unfold mnI; split <;> omega
  simp only [List.map_cons, List.sum_cons]
  rcases sum_min hd l hl with h2 | h2
  ·left
   unfold mnI at h2 ⊢
   split <;> omega
  ·by_cases hx : f x <= d
   ·right
    rw [h2]
    unfold mnI
    split <;> omega
   ·left
    have : mnI d (f x) = d := by unfold mnI; rw [if_neg (by omega)] <;> omega
    omega
end
section
open Go.RowKit Go.Deep
end
section
open Go.RowKit Go.Deep
end
section
open Go.ChangeShapes Go.WideShapes Go.ChangeAt Go.RowKit Go.Deep
def vLst (l : List Int) (v : Value) (W : World) : Prop := ∃ A c, v = .slice A l.length c /\ Row intL 1 W W.heap.size A l
theorem vLst_st {l : List Int} : ∀ v W W', vLst l v W -> newer W W' -> vLst l v W' := fun _ _ _ ⟨A, c, h1, h2⟩ hb => ⟨A, c, h1, (h2.below hb).more hb.size⟩
end
section
open Go.ChangeShapes Go.WideShapes Go.ChangeAt Go.RowKit Go.Deep
end
section
open Go.RowKit Go.Deep
end



section
open Go.RowKit Go.Deep

end
end

section
open Go.RowKit
structure RgW where
 lo : Int
 hi : Int
structure Wd where
 price : Int
 first : Int
 last : Int
 age : Int
 village : Int
 adds : List RgW
structure Wk where
 d : Wd
 a : Option Addr
 cp : Nat
structure Nd where
 slope : Int
 year : Int
 due : Int
structure Pj where
 years : Int
 slopes : Int
 works : List Wd
 needs : List Nd
 villages : List Bool
 purses : List Int
structure Pm where
 years : Int
 slopes : Int
 ws : List Wk
 wa : Option Addr
 wc : Nat
 ns : List Nd
 na : Option Addr
 nc : Nat
 vs : List Bool
 va : Option Addr
 vc : Nat
 ps : List Int
 pa : Option Addr
 pc : Nat
def Pm.pj (p : Pm) : Pj := ⟨p.years, p.slopes, p.ws.map (·.d), p.ns, p.vs, p.ps⟩
abbrev rgLW (r : RgW) : List Value := [vi r.lo, vi r.hi]
abbrev rgVW (r : RgW) : Value := .agg #[vi r.lo, vi r.hi]
abbrev wkL (x : Wk) : List Value := [vi x.d.price, vi x.d.first, vi x.d.last, vi x.d.age, vi x.d.village, .slice x.a x.d.adds.length x.cp]
abbrev wkV (x : Wk) : Value := .agg #[vi x.d.price, vi x.d.first, vi x.d.last, vi x.d.age, vi x.d.village, .slice x.a x.d.adds.length x.cp]
abbrev wkC (x : Wk) : Array Value := #[vi x.d.price, vi x.d.first, vi x.d.last, vi x.d.age, vi x.d.village, .slice x.a x.d.adds.length x.cp]
abbrev ndL (x : Nd) : List Value := [vi x.slope, vi x.year, vi x.due]
abbrev ndV (x : Nd) : Value := .agg #[vi x.slope, vi x.year, vi x.due]
abbrev pmC (p : Pm) : Array Value := #[vi p.years, vi p.slopes, .slice p.wa p.ws.length p.wc, .slice p.na p.ns.length p.nc, .slice p.va p.vs.length p.vc, .slice p.pa p.ps.length p.pc]
abbrev pmV (p : Pm) : Value := .agg (pmC p)
structure PmOk (p : Pm) (W : World) : Prop where
 ws : Row wkL 6 W W.heap.size p.wa p.ws
 ad : ∀ x ∈ p.ws, Row rgLW 2 W W.heap.size x.a x.d.adds
 ns : Row ndL 3 W W.heap.size p.na p.ns
 vs : Row boL 1 W W.heap.size p.va p.vs
 ps : Row intL 1 W W.heap.size p.pa p.ps
theorem PmOk.next {p : Pm} {W W' : World} (h : PmOk p W) (hb : newer W W') : PmOk p W' :=
 ⟨(h.ws.below hb).more hb.size, fun x hx => ((h.ad x hx).below hb).more hb.size, (h.ns.below hb).more hb.size, (h.vs.below hb).more hb.size, (h.ps.below hb).more hb.size⟩
theorem row6 {w : World} {B : Nat} {A : Option Addr} {l : List Wk} (h : Row wkL 6 w B A l) {k : Nat} {c : Wk} (hk : l[k]? = some c) :
  ∃ b off, A = some ⟨b, off, none⟩ /\ b < B /\ w.cell? ⟨b, off + k * 6, none⟩ = some (.int .i64 c.d.price) /\ w.cell? ⟨b, off + k * 6 + 1, none⟩ = some (.int .i64 c.d.first) /\ w.cell? ⟨b, off + k * 6 + 2, none⟩ = some (.int .i64 c.d.last) /\
   w.cell? ⟨b, off + k * 6 + 3, none⟩ = some (.int .i64 c.d.age) /\ w.cell? ⟨b, off + k * 6 + 4, none⟩ = some (.int .i64 c.d.village) /\ w.cell? ⟨b, off + k * 6 + 5, none⟩ = some (.slice c.a c.d.adds.length c.cp) := by
 obtain ⟨b, off, e, hb, hc⟩ := h (ne_nil_of_get hk)
 exact ⟨b, off, e, hb, hc k c hk 0 _ rfl, hc k c hk 1 _ rfl, hc k c hk 2 _ rfl, hc k c hk 3 _ rfl, hc k c hk 4 _ rfl, hc k c hk 5 _ rfl⟩
theorem row3W {w : World} {B : Nat} {A : Option Addr} {l : List Nd} (h : Row ndL 3 w B A l) {k : Nat} {c : Nd} (hk : l[k]? = some c) :
  ∃ b off, A = some ⟨b, off, none⟩ /\ b < B /\ w.cell? ⟨b, off + k * 3, none⟩ = some (.int .i64 c.slope) /\ w.cell? ⟨b, off + k * 3 + 1, none⟩ = some (.int .i64 c.year) /\ w.cell? ⟨b, off + k * 3 + 2, none⟩ = some (.int .i64 c.due) := by
 obtain ⟨b, off, e, hb, hc⟩ := h (ne_nil_of_get hk)
 exact ⟨b, off, e, hb, hc k c hk 0 _ rfl, hc k c hk 1 _ rfl, hc k c hk 2 _ rfl⟩
theorem row2 {w : World} {B : Nat} {A : Option Addr} {l : List RgW} (h : Row rgLW 2 w B A l) {k : Nat} {c : RgW} (hk : l[k]? = some c) :
  ∃ b off, A = some ⟨b, off, none⟩ /\ b < B /\ w.cell? ⟨b, off + k * 2, none⟩ = some (.int .i64 c.lo) /\ w.cell? ⟨b, off + k * 2 + 1, none⟩ = some (.int .i64 c.hi) := by
 obtain ⟨b, off, e, hb, hc⟩ := h (ne_nil_of_get hk)
 exact ⟨b, off, e, hb, hc k c hk 0 _ rfl, hc k c hk 1 _ rfl⟩
def rgB (r : RgW) : Bool := decide (0 <= r.lo) && decide (r.lo <= r.hi) && decide (r.hi <= 10000)
def wdB (years slopes : Int) (villages : Nat) (x : Wd) : Bool :=
 inB x.price 1 1000000 && decide (0 <= x.first) && decide (x.first <= x.last) && decide (x.last < years) && inB x.age 0 1000 && inB x.village (-1) ((villages : Int) - 1) && decide ((x.adds.length : Int) = slopes) && x.adds.all rgB
def ndB (years slopes : Int) (x : Nd) : Bool := inB x.slope 0 (slopes - 1) && inB x.year 0 (years - 1) && inB x.due 1 10000
set_option maxHeartbeats 400000 in
theorem within_anyW (n lo hi : Int) (w : World) :
  Calls Try.prog 40 #[.int .i64 n, .int .i64 lo, .int .i64 hi] w fun e w' => e = .returned (.bool (inB n lo hi)) /\ w = w' := by
 by_cases h1 : lo <= n <;> by_cases h2 : n <= hi <;>
 (go_enter Try.func40, Try.ntmps40
  go_wp2
  go_ret
  exact ⟨by simp [inB, h1, h2], rfl⟩)
set_option maxHeartbeats 400000 in
theorem in_anyW (n lo hi : Int) (w : World) :
  Calls Try.prog 19 #[.int .i64 n, .int .i64 lo, .int .i64 hi] w fun e w' => e = .returned (.bool (inB n lo hi)) /\ w = w' := by
 by_cases h1 : lo <= n <;> by_cases h2 : n <= hi <;>
 (go_enter Try.func19, Try.ntmps19
  go_wp2
  go_ret
  exact ⟨by simp [inB, h1, h2], rfl⟩)
set_option maxHeartbeats 400000 in
theorem low_anyW (r : RgW) (w : World) :
  Calls Try.prog 42 #[rgVW r] w fun e w' => e = .returned (vi r.lo) /\ Below w.heap.size w w' := by
 go_enter Try.func42, Try.ntmps42
 go_wp2
 go_ret
 exact ⟨rfl, (Below.refl _ _).alloc (Nat.le_refl _) _⟩
set_option maxHeartbeats 400000 in
theorem high_anyW (r : RgW) (w : World) :
  Calls Try.prog 43 #[rgVW r] w fun e w' => e = .returned (vi r.hi) /\ Below w.heap.size w w' := by
 go_enter Try.func43, Try.ntmps43
 go_wp2
 go_ret
 exact ⟨rfl, (Below.refl _ _).alloc (Nat.le_refl _) _⟩
set_option maxHeartbeats 400000 in
theorem right_anyW (r : RgW) (w : World) :
  Calls Try.prog 87 #[rgVW r] w fun e w' => e = .returned (.bool (rgB r)) /\ Below w.heap.size w w' := by
 obtain ⟨lo, hi⟩ := r
 dsimp only [rgVW]
 by_cases h1 : 0 <= lo
 ·by_cases h2 : lo <= hi
  ·by_cases h3 : hi <= 10000
   ·go_enter Try.func87, Try.ntmps87
    go_wp2
    go_ret
    exact ⟨ret_bool (by simp [rgB] <;> omega), (Below.refl _ _).alloc (Nat.le_refl _) _⟩
   ·go_enter Try.func87, Try.ntmps87
    go_wp2
    go_ret
    exact ⟨ret_bool (by simp [rgB] <;> omega), (Below.refl _ _).alloc (Nat.le_refl _) _⟩
  ·go_enter Try.func87, Try.ntmps87
   go_wp2
   go_ret
   exact ⟨ret_bool (by simp [rgB] <;> omega), (Below.refl _ _).alloc (Nat.le_refl _) _⟩
 ·go_enter Try.func87, Try.ntmps87
  go_wp2
  go_ret
  exact ⟨ret_bool (by simp [rgB] <;> omega), (Below.refl _ _).alloc (Nat.le_refl _) _⟩
set_option maxHeartbeats 400000 in
theorem purse_any (n : Int) (w : World) :
  Calls Try.prog 51 #[vi n] w fun e w' => e = .returned (.bool (inB n 0 1000000)) /\ Below w.heap.size w w' := by
 go_enter Try.func51, Try.ntmps51
 go_wp2_with (go_at_call 40; refine (within_anyW _ _ _ _).mono ?_; rintro e w' ⟨rfl, rfl⟩)
 go_ret
 exact ⟨rfl, Below.refl _ _⟩
set_option maxHeartbeats 1000000 in
theorem need_any (p : Pm) (x : Nd) (w : World) (h1 : 0 <= p.slopes /\ p.slopes <= 1000) (h2 : 0 <= p.years /\ p.years <= 1000) :
  Calls Try.prog 56 #[pmV p, ndV x] w fun e w' => e = .returned (.bool (ndB p.years p.slopes x)) /\ Below w.heap.size w w' := by
 obtain ⟨years, slopes, ws, wa, wc, ns, na, nc, vs, va, vc, ps, pa, pc⟩ := p
 obtain ⟨slope, year, due⟩ := x
 dsimp only at h1 h2
 unfold ndB
 dsimp only
 have k1 : IntKind.i64.wrap (slopes - 1) = slopes - 1 := IntWalk.i64_in _ (by omega)
 have k2 : IntKind.i64.wrap (years - 1) = years - 1 := IntWalk.i64_in _ (by omega)
 clear h1 h2
 cases q1 : inB slope 0 (slopes - 1)
 case' true => cases q2 : inB year 0 (years - 1)
 case' true.true => cases q3 : inB due 1 10000
 all_goals
  (go_enter Try.func56, Try.ntmps56
   go_wp2_with (go_at_call 40; refine (within_anyW _ _ _ _).mono ?_; rintro e w' ⟨rfl, rfl⟩)
   go_ret
   exact ⟨by simp, ((Below.refl _ _).alloc (Nat.le_refl _) _).alloc (by simp) _⟩)
end

section
open Go.RowKit
set_option maxHeartbeats 400000 in
theorem notPurse_any (x : Int) (rb : Nat) (b : Bool) (w : World) (hr : w.cell? ⟨rb, 0, none⟩ = some (.func (.func 51) #[] #[]))
  (hf : ∀ W, Below w.heap.size w W -> Calls Try.prog 51 #[vi x] W fun e w' => e = .returned (.bool b) /\ Below W.heap.size W w') :
  Calls Try.prog 83 #[vi x, .pointer (some ⟨rb, 0, none⟩)] w fun e w' => e = .returned (.bool (!b)) /\ Below w.heap.size w w' := by
 have HF := Lib.hid hf
 have hlt := World.block_lt_of_cell? w _ hr
 dsimp only at hlt
 clear hf
 go_enter Try.func83, Try.ntmps83
 go_wp2_with (go_at_call 51; refine (HF.out _ (Below.refl _ _)).mono ?_; rintro e w' ⟨rfl, hb⟩)
 go_ret
 exact ⟨rfl, hb⟩
set_option maxHeartbeats 400000 in
theorem idxPurse_any (l : List Int) (p : Int -> Bool) (cp rb : Nat) (A : Option Addr) (w : World) (hn : l.length <= 1000) (hrow : Row intL 1 w w.heap.size A l)
  (hf : ∀ c ∈ l, ∀ W, Below w.heap.size w W -> Calls Try.prog 83 #[vi c, .pointer (some ⟨rb, 0, none⟩)] W fun e w' => e = .returned (.bool (p c)) /\ Below W.heap.size W w') :
  Calls Try.prog 97 #[.slice A l.length cp, .func (.func 83) #[] #[.pointer (some ⟨rb, 0, none⟩)]] w fun e w' => e = .returned (.int .i64 (idx p l)) /\ Below w.heap.size w w' := by
 have HF := Lib.hid hf
 clear hf
 obtain ⟨n, hnl⟩ : ∃ n, n = l.length := ⟨_, rfl⟩
 rw [<- hnl] at hn ⊢
 have HN := Lib.hid hnl
 clear hnl
 go_enter Try.func97, Try.ntmps97
 go_wp2
 go_loopw [4, 5, 8] (fun _ _ i wr => ∃ k : Nat, k <= n /\ i = .int .i64 k /\ Below w.heap.size w wr /\ early p l k) (fun _ _ i _ => n - (intOf i).toNat)
 case atStart => exact ⟨0, Nat.zero_le _, rfl, Below.refl _ _, early_zero _ _⟩
 case round =>
  obtain ⟨k, hk, rfl, hbw, he⟩ := hrel
  have HE := Lib.hid he
  clear he
  by_cases hlt : k < n
  ·obtain ⟨c, hc⟩ := get_of_lt (l := l) (k := k) (by have := HN.out; omega)
   obtain ⟨b, off, rfl, hb, h0⟩ := row1 (hrow.below hbw) hc
   have HC := Lib.hid hc
   clear hc
   cases hp : p c
   ·go_wp2_with (go_at_call 83; refine (HF.out c (List.mem_of_getElem? HC.out) _ hbw).mono ?_; rintro e w' ⟨rfl, hb2⟩)
    go_roundw
    case rel => exact ⟨k + 1, by omega, by go_num, below_next hbw hb2, early_succ HE.out HC.out hp⟩
    case measure => simp [intOf]; omega
   ·go_wp2_with (go_at_call 83; refine (HF.out c (List.mem_of_getElem? HC.out) _ hbw).mono ?_; rintro e w' ⟨rfl, hb2⟩)
    go_ret
    exact ⟨ret_int (idx_here p l k c HC.out hp HE.out).symm, below_next hbw hb2⟩
  ·go_wp2_with fail
   go_ret
   have hkn : k = l.length := by have := HN.out; omega
   exact ⟨ret_int (idx_none p l (hkn ▸ HE.out)).symm, hbw⟩
set_option maxHeartbeats 400000 in
theorem containsPurse_any (l : List Int) (p : Int -> Bool) (cp rb : Nat) (A : Option Addr) (w : World) (hn : l.length <= 1000) (hrow : Row intL 1 w w.heap.size A l)
  (hf : ∀ c ∈ l, ∀ W, Below w.heap.size w W -> Calls Try.prog 83 #[vi c, .pointer (some ⟨rb, 0, none⟩)] W fun e w' => e = .returned (.bool (p c)) /\ Below W.heap.size W w') :
  Calls Try.prog 82 #[.slice A l.length cp, .func (.func 83) #[] #[.pointer (some ⟨rb, 0, none⟩)]] w fun e w' => e = .returned (.bool (decide (0 <= idx p l))) /\ Below w.heap.size w w' := by
 have HF := Lib.hid hf
 clear hf
 go_enter Try.func82, Try.ntmps82
 go_wp2_with (go_at_call 97; refine (idxPurse_any l p cp rb A _ hn hrow HF.out).mono ?_; rintro e w' ⟨rfl, hb2⟩)
 go_ret
 exact ⟨rfl, hb2⟩
set_option maxHeartbeats 400000 in
theorem allPurse_any (l : List Int) (p : Int -> Bool) (cp : Nat) (A : Option Addr) (w : World) (hn : l.length <= 1000) (hrow : Row intL 1 w w.heap.size A l)
  (hf : ∀ c ∈ l, ∀ W, Below w.heap.size w W -> Calls Try.prog 51 #[vi c] W fun e w' => e = .returned (.bool (p c)) /\ Below W.heap.size W w') :
  Calls Try.prog 52 #[.slice A l.length cp, .func (.func 51) #[] #[]] w fun e w' => e = .returned (.bool (l.all p)) /\ Below w.heap.size w w' := by
 have hX := containsPurse_any l (fun c => !p c) cp w.heap.size A (w.alloc (.cells #[.func (.func 51) #[] #[]] 107)) hn (hrow_ok hrow _) (fun c hc W hW => notPurse_any c w.heap.size (p c) W (keep_cell (Whole.at (Whole.made w 107 #[.func (.func 51) #[] #[]]) 0 rfl) hW) fun W' hW' => hf c hc W' (below_next (below_next ((Below.refl _ _).alloc (Nat.le_refl _) _) hW) hW'))
 have HX := Lib.hid hX
 clear hX hf
 go_enter Try.func52, Try.ntmps52
 go_wp2_with (go_at_call 82; refine (HX.out).mono ?_; rintro e w' ⟨rfl, hb2⟩)
 go_ret
 exact ⟨ret_bool (idx_all p l), below_next ((Below.refl _ _).alloc (Nat.le_refl _) _) hb2⟩
set_option maxHeartbeats 400000 in
theorem notRg_any (x : RgW) (rb : Nat) (b : Bool) (w : World) (hr : w.cell? ⟨rb, 0, none⟩ = some (.func (.func 87) #[] #[]))
  (hf : ∀ W, Below w.heap.size w W -> Calls Try.prog 87 #[rgVW x] W fun e w' => e = .returned (.bool b) /\ Below W.heap.size W w') :
  Calls Try.prog 100 #[rgVW x, .pointer (some ⟨rb, 0, none⟩)] w fun e w' => e = .returned (.bool (!b)) /\ Below w.heap.size w w' := by
 have HF := Lib.hid hf
 have hlt := World.block_lt_of_cell? w _ hr
 dsimp only at hlt
 clear hf
 go_enter Try.func100, Try.ntmps100
 go_wp2_with (go_at_call 87; refine (HF.out _ ((Below.refl _ _).alloc (Nat.le_refl _) _)).mono ?_; rintro e w' ⟨rfl, hb⟩)
 go_ret
 exact ⟨rfl, below_step ((Below.refl _ _).alloc (Nat.le_refl _) _) hb (by simp)⟩
set_option maxHeartbeats 400000 in
theorem idxRg_any (l : List RgW) (p : RgW -> Bool) (cp rb : Nat) (A : Option Addr) (w : World) (hn : l.length <= 1000) (hrow : Row rgLW 2 w w.heap.size A l)
  (hf : ∀ c ∈ l, ∀ W, Below w.heap.size w W -> Calls Try.prog 100 #[rgVW c, .pointer (some ⟨rb, 0, none⟩)] W fun e w' => e = .returned (.bool (p c)) /\ Below W.heap.size W w') :
  Calls Try.prog 102 #[.slice A l.length cp, .func (.func 100) #[] #[.pointer (some ⟨rb, 0, none⟩)]] w fun e w' => e = .returned (.int .i64 (idx p l)) /\ Below w.heap.size w w' := by
 have HF := Lib.hid hf
 clear hf
 obtain ⟨n, hnl⟩ : ∃ n, n = l.length := ⟨_, rfl⟩
 rw [<- hnl] at hn ⊢
 have HN := Lib.hid hnl
 clear hnl
 go_enter Try.func102, Try.ntmps102
 go_wp2
 go_loopw [4, 5, 8] (fun _ _ i wr => ∃ k : Nat, k <= n /\ i = .int .i64 k /\ Below w.heap.size w wr /\ early p l k) (fun _ _ i _ => n - (intOf i).toNat)
 case atStart => exact ⟨0, Nat.zero_le _, rfl, Below.refl _ _, early_zero _ _⟩
 case round =>
  obtain ⟨k, hk, rfl, hbw, he⟩ := hrel
  have HE := Lib.hid he
  clear he
  by_cases hlt : k < n
  ·obtain ⟨c, hc⟩ := get_of_lt (l := l) (k := k) (by have := HN.out; omega)
   obtain ⟨b, off, rfl, hb, h0, h1⟩ := row2 (hrow.below hbw) hc
   have HC := Lib.hid hc
   clear hc
   cases hp : p c
   ·go_wp2_with (go_at_call 100; refine (HF.out c (List.mem_of_getElem? HC.out) _ hbw).mono ?_; rintro e w' ⟨rfl, hb2⟩)
    go_roundw
    case rel => exact ⟨k + 1, by omega, by go_num, below_next hbw hb2, early_succ HE.out HC.out hp⟩
    case measure => simp [intOf]; omega
   ·go_wp2_with (go_at_call 100; refine (HF.out c (List.mem_of_getElem? HC.out) _ hbw).mono ?_; rintro e w' ⟨rfl, hb2⟩)
    go_ret
    exact ⟨ret_int (idx_here p l k c HC.out hp HE.out).symm, below_next hbw hb2⟩
  ·go_wp2_with fail
   go_ret
   have hkn : k = l.length := by have := HN.out; omega
   exact ⟨ret_int (idx_none p l (hkn ▸ HE.out)).symm, hbw⟩
set_option maxHeartbeats 400000 in
theorem containsRg_any (l : List RgW) (p : RgW -> Bool) (cp rb : Nat) (A : Option Addr) (w : World) (hn : l.length <= 1000) (hrow : Row rgLW 2 w w.heap.size A l)
  (hf : ∀ c ∈ l, ∀ W, Below w.heap.size w W -> Calls Try.prog 100 #[rgVW c, .pointer (some ⟨rb, 0, none⟩)] W fun e w' => e = .returned (.bool (p c)) /\ Below W.heap.size W w') :
  Calls Try.prog 99 #[.slice A l.length cp, .func (.func 100) #[] #[.pointer (some ⟨rb, 0, none⟩)]] w fun e w' => e = .returned (.bool (decide (0 <= idx p l))) /\ Below w.heap.size w w' := by
 have HF := Lib.hid hf
 clear hf
 go_enter Try.func99, Try.ntmps99
 go_wp2_with (go_at_call 102; refine (idxRg_any l p cp rb A _ hn hrow HF.out).mono ?_; rintro e w' ⟨rfl, hb2⟩)
 go_ret
 exact ⟨rfl, hb2⟩
set_option maxHeartbeats 400000 in
theorem allRg_any (l : List RgW) (p : RgW -> Bool) (cp : Nat) (A : Option Addr) (w : World) (hn : l.length <= 1000) (hrow : Row rgLW 2 w w.heap.size A l)
  (hf : ∀ c ∈ l, ∀ W, Below w.heap.size w W -> Calls Try.prog 87 #[rgVW c] W fun e w' => e = .returned (.bool (p c)) /\ Below W.heap.size W w') :
  Calls Try.prog 86 #[.slice A l.length cp, .func (.func 87) #[] #[]] w fun e w' => e = .returned (.bool (l.all p)) /\ Below w.heap.size w w' := by
 have hX := containsRg_any l (fun c => !p c) cp w.heap.size A (w.alloc (.cells #[.func (.func 87) #[] #[]] 158)) hn (hrow_ok hrow _) (fun c hc W hW => notRg_any c w.heap.size (p c) W (keep_cell (Whole.at (Whole.made w 158 #[.func (.func 87) #[] #[]]) 0 rfl) hW) fun W' hW' => hf c hc W' (below_next (below_next ((Below.refl _ _).alloc (Nat.le_refl _) _) hW) hW'))
 have HX := Lib.hid hX
 clear hX hf
 go_enter Try.func86, Try.ntmps86
 go_wp2_with (go_at_call 99; refine (HX.out).mono ?_; rintro e w' ⟨rfl, hb2⟩)
 go_ret
 exact ⟨ret_bool (idx_all p l), below_next ((Below.refl _ _).alloc (Nat.le_refl _) _) hb2⟩
set_option maxHeartbeats 400000 in
theorem notWk_any (x : Wk) (rb : Nat) (b : Bool) (w : World) (q : Value) (hr : w.cell? ⟨rb, 0, none⟩ = some (.func (.func 54) #[q] #[]))
  (hf : ∀ W, Below w.heap.size w W -> Calls Try.prog 54 #[q, wkV x] W fun e w' => e = .returned (.bool b) /\ Below W.heap.size W w') :
  Calls Try.prog 85 #[wkV x, .pointer (some ⟨rb, 0, none⟩)] w fun e w' => e = .returned (.bool (!b)) /\ Below w.heap.size w w' := by
 have HF := Lib.hid hf
 have hlt := World.block_lt_of_cell? w _ hr
 dsimp only at hlt
 clear hf
 go_enter Try.func85, Try.ntmps85
 go_wp2_with (go_at_call 54; refine (HF.out _ ((Below.refl _ _).alloc (Nat.le_refl _) _)).mono ?_; rintro e w' ⟨rfl, hb⟩)
 go_ret
 exact ⟨rfl, below_step ((Below.refl _ _).alloc (Nat.le_refl _) _) hb (by simp)⟩
set_option maxHeartbeats 400000 in
theorem idxWk_any (l : List Wk) (p : Wk -> Bool) (cp rb : Nat) (A : Option Addr) (w : World) (hn : l.length <= 1000) (hrow : Row wkL 6 w w.heap.size A l)
  (hf : ∀ c ∈ l, ∀ W, Below w.heap.size w W -> Calls Try.prog 85 #[wkV c, .pointer (some ⟨rb, 0, none⟩)] W fun e w' => e = .returned (.bool (p c)) /\ Below W.heap.size W w') :
  Calls Try.prog 98 #[.slice A l.length cp, .func (.func 85) #[] #[.pointer (some ⟨rb, 0, none⟩)]] w fun e w' => e = .returned (.int .i64 (idx p l)) /\ Below w.heap.size w w' := by
 have HF := Lib.hid hf
 clear hf
 obtain ⟨n, hnl⟩ : ∃ n, n = l.length := ⟨_, rfl⟩
 rw [<- hnl] at hn ⊢
 have HN := Lib.hid hnl
 clear hnl
 go_enter Try.func98, Try.ntmps98
 go_wp2
 go_loopw [4, 5, 8] (fun _ _ i wr => ∃ k : Nat, k <= n /\ i = .int .i64 k /\ Below w.heap.size w wr /\ early p l k) (fun _ _ i _ => n - (intOf i).toNat)
 case atStart => exact ⟨0, Nat.zero_le _, rfl, Below.refl _ _, early_zero _ _⟩
 case round =>
  obtain ⟨k, hk, rfl, hbw, he⟩ := hrel
  have HE := Lib.hid he
  clear he
  by_cases hlt : k < n
  ·obtain ⟨c, hc⟩ := get_of_lt (l := l) (k := k) (by have := HN.out; omega)
   obtain ⟨b, off, rfl, hb, h0, h1, h2, h3, h4, h5⟩ := row6 (hrow.below hbw) hc
   have HC := Lib.hid hc
   clear hc
   cases hp : p c
   ·go_wp2_with (go_at_call 85; refine (HF.out c (List.mem_of_getElem? HC.out) _ hbw).mono ?_; rintro e w' ⟨rfl, hb2⟩)
    go_roundw
    case rel => exact ⟨k + 1, by omega, by go_num, below_next hbw hb2, early_succ HE.out HC.out hp⟩
    case measure => simp [intOf]; omega
   ·go_wp2_with (go_at_call 85; refine (HF.out c (List.mem_of_getElem? HC.out) _ hbw).mono ?_; rintro e w' ⟨rfl, hb2⟩)
    go_ret
    exact ⟨ret_int (idx_here p l k c HC.out hp HE.out).symm, below_next hbw hb2⟩
  ·go_wp2_with fail
   go_ret
   have hkn : k = l.length := by have := HN.out; omega
   exact ⟨ret_int (idx_none p l (hkn ▸ HE.out)).symm, hbw⟩
set_option maxHeartbeats 400000 in
theorem containsWk_any (l : List Wk) (p : Wk -> Bool) (cp rb : Nat) (A : Option Addr) (w : World) (hn : l.length <= 1000) (hrow : Row wkL 6 w w.heap.size A l)
  (hf : ∀ c ∈ l, ∀ W, Below w.heap.size w W -> Calls Try.prog 85 #[wkV c, .pointer (some ⟨rb, 0, none⟩)] W fun e w' => e = .returned (.bool (p c)) /\ Below W.heap.size W w') :
  Calls Try.prog 84 #[.slice A l.length cp, .func (.func 85) #[] #[.pointer (some ⟨rb, 0, none⟩)]] w fun e w' => e = .returned (.bool (decide (0 <= idx p l))) /\ Below w.heap.size w w' := by
 have HF := Lib.hid hf
 clear hf
 go_enter Try.func84, Try.ntmps84
 go_wp2_with (go_at_call 98; refine (idxWk_any l p cp rb A _ hn hrow HF.out).mono ?_; rintro e w' ⟨rfl, hb2⟩)
 go_ret
 exact ⟨rfl, hb2⟩
set_option maxHeartbeats 400000 in
theorem allWk_any (l : List Wk) (p : Wk -> Bool) (cp : Nat) (A : Option Addr) (w : World) (q : Value) (hn : l.length <= 1000) (hrow : Row wkL 6 w w.heap.size A l)
  (hf : ∀ c ∈ l, ∀ W, Below w.heap.size w W -> Calls Try.prog 54 #[q, wkV c] W fun e w' => e = .returned (.bool (p c)) /\ Below W.heap.size W w') :
  Calls Try.prog 53 #[.slice A l.length cp, .func (.func 54) #[q] #[]] w fun e w' => e = .returned (.bool (l.all p)) /\ Below w.heap.size w w' := by
 have hX := containsWk_any l (fun c => !p c) cp w.heap.size A (w.alloc (.cells #[.func (.func 54) #[q] #[]] 127)) hn (hrow_ok hrow _) (fun c hc W hW => notWk_any c w.heap.size (p c) W q (keep_cell (Whole.at (Whole.made w 127 #[.func (.func 54) #[q] #[]]) 0 rfl) hW) fun W' hW' => hf c hc W' (below_next (below_next ((Below.refl _ _).alloc (Nat.le_refl _) _) hW) hW'))
 have HX := Lib.hid hX
 clear hX hf
 go_enter Try.func53, Try.ntmps53
 go_wp2_with (go_at_call 84; refine (HX.out).mono ?_; rintro e w' ⟨rfl, hb2⟩)
 go_ret
 exact ⟨ret_bool (idx_all p l), below_next ((Below.refl _ _).alloc (Nat.le_refl _) _) hb2⟩
set_option maxHeartbeats 400000 in
theorem notNd_any (x : Nd) (rb : Nat) (b : Bool) (w : World) (q : Value) (hr : w.cell? ⟨rb, 0, none⟩ = some (.func (.func 56) #[q] #[]))
  (hf : ∀ W, Below w.heap.size w W -> Calls Try.prog 56 #[q, ndV x] W fun e w' => e = .returned (.bool b) /\ Below W.heap.size W w') :
  Calls Try.prog 89 #[ndV x, .pointer (some ⟨rb, 0, none⟩)] w fun e w' => e = .returned (.bool (!b)) /\ Below w.heap.size w w' := by
 have HF := Lib.hid hf
 have hlt := World.block_lt_of_cell? w _ hr
 dsimp only at hlt
 clear hf
 go_enter Try.func89, Try.ntmps89
 go_wp2_with (go_at_call 56; refine (HF.out _ ((Below.refl _ _).alloc (Nat.le_refl _) _)).mono ?_; rintro e w' ⟨rfl, hb⟩)
 go_ret
 exact ⟨rfl, below_step ((Below.refl _ _).alloc (Nat.le_refl _) _) hb (by simp)⟩
set_option maxHeartbeats 400000 in
theorem idxNd_any (l : List Nd) (p : Nd -> Bool) (cp rb : Nat) (A : Option Addr) (w : World) (hn : l.length <= 1000) (hrow : Row ndL 3 w w.heap.size A l)
  (hf : ∀ c ∈ l, ∀ W, Below w.heap.size w W -> Calls Try.prog 89 #[ndV c, .pointer (some ⟨rb, 0, none⟩)] W fun e w' => e = .returned (.bool (p c)) /\ Below W.heap.size W w') :
  Calls Try.prog 101 #[.slice A l.length cp, .func (.func 89) #[] #[.pointer (some ⟨rb, 0, none⟩)]] w fun e w' => e = .returned (.int .i64 (idx p l)) /\ Below w.heap.size w w' := by
 have HF := Lib.hid hf
 clear hf
 obtain ⟨n, hnl⟩ : ∃ n, n = l.length := ⟨_, rfl⟩
 rw [<- hnl] at hn ⊢
 have HN := Lib.hid hnl
 clear hnl
 go_enter Try.func101, Try.ntmps101
 go_wp2
 go_loopw [4, 5, 8] (fun _ _ i wr => ∃ k : Nat, k <= n /\ i = .int .i64 k /\ Below w.heap.size w wr /\ early p l k) (fun _ _ i _ => n - (intOf i).toNat)
 case atStart => exact ⟨0, Nat.zero_le _, rfl, Below.refl _ _, early_zero _ _⟩
 case round =>
  obtain ⟨k, hk, rfl, hbw, he⟩ := hrel
  have HE := Lib.hid he
  clear he
  by_cases hlt : k < n
  ·obtain ⟨c, hc⟩ := get_of_lt (l := l) (k := k) (by have := HN.out; omega)
   obtain ⟨b, off, rfl, hb, h0, h1, h2⟩ := row3W (hrow.below hbw) hc
   have HC := Lib.hid hc
   clear hc
   cases hp : p c
   ·go_wp2_with (go_at_call 89; refine (HF.out c (List.mem_of_getElem? HC.out) _ hbw).mono ?_; rintro e w' ⟨rfl, hb2⟩)
    go_roundw
    case rel => exact ⟨k + 1, by omega, by go_num, below_next hbw hb2, early_succ HE.out HC.out hp⟩
    case measure => simp [intOf]; omega
   ·go_wp2_with (go_at_call 89; refine (HF.out c (List.mem_of_getElem? HC.out) _ hbw).mono ?_; rintro e w' ⟨rfl, hb2⟩)
    go_ret
    exact ⟨ret_int (idx_here p l k c HC.out hp HE.out).symm, below_next hbw hb2⟩
  ·go_wp2_with fail
   go_ret
   have hkn : k = l.length := by have := HN.out; omega
   exact ⟨ret_int (idx_none p l (hkn ▸ HE.out)).symm, hbw⟩
set_option maxHeartbeats 400000 in
theorem containsNd_any (l : List Nd) (p : Nd -> Bool) (cp rb : Nat) (A : Option Addr) (w : World) (hn : l.length <= 1000) (hrow : Row ndL 3 w w.heap.size A l)
  (hf : ∀ c ∈ l, ∀ W, Below w.heap.size w W -> Calls Try.prog 89 #[ndV c, .pointer (some ⟨rb, 0, none⟩)] W fun e w' => e = .returned (.bool (p c)) /\ Below W.heap.size W w') :
  Calls Try.prog 88 #[.slice A l.length cp, .func (.func 89) #[] #[.pointer (some ⟨rb, 0, none⟩)]] w fun e w' => e = .returned (.bool (decide (0 <= idx p l))) /\ Below w.heap.size w w' := by
 have HF := Lib.hid hf
 clear hf
 go_enter Try.func88, Try.ntmps88
 go_wp2_with (go_at_call 101; refine (idxNd_any l p cp rb A _ hn hrow HF.out).mono ?_; rintro e w' ⟨rfl, hb2⟩)
 go_ret
 exact ⟨rfl, hb2⟩
set_option maxHeartbeats 400000 in
theorem allNd_any (l : List Nd) (p : Nd -> Bool) (cp : Nat) (A : Option Addr) (w : World) (q : Value) (hn : l.length <= 1000) (hrow : Row ndL 3 w w.heap.size A l)
  (hf : ∀ c ∈ l, ∀ W, Below w.heap.size w W -> Calls Try.prog 56 #[q, ndV c] W fun e w' => e = .returned (.bool (p c)) /\ Below W.heap.size W w') :
  Calls Try.prog 55 #[.slice A l.length cp, .func (.func 56) #[q] #[]] w fun e w' => e = .returned (.bool (l.all p)) /\ Below w.heap.size w w' := by
 have hX := containsNd_any l (fun c => !p c) cp w.heap.size A (w.alloc (.cells #[.func (.func 56) #[q] #[]] 129)) hn (hrow_ok hrow _) (fun c hc W hW => notNd_any c w.heap.size (p c) W q (keep_cell (Whole.at (Whole.made w 129 #[.func (.func 56) #[q] #[]]) 0 rfl) hW) fun W' hW' => hf c hc W' (below_next (below_next ((Below.refl _ _).alloc (Nat.le_refl _) _) hW) hW'))
 have HX := Lib.hid hX
 clear hX hf
 go_enter Try.func55, Try.ntmps55
 go_wp2_with (go_at_call 88; refine (HX.out).mono ?_; rintro e w' ⟨rfl, hb2⟩)
 go_ret
 exact ⟨ret_bool (idx_all p l), below_next ((Below.refl _ _).alloc (Nat.le_refl _) _) hb2⟩
end

section
open Go.RowKit
set_option maxHeartbeats 2000000 in
theorem work_any (p : Pm) (x : Wk) (w : World) (hv : p.vs.length <= 1000) (hal : x.d.adds.length <= 1000) (har : Row rgLW 2 w w.heap.size x.a x.d.adds) :
  Calls Try.prog 54 #[pmV p, wkV x] w fun e w' => e = .returned (.bool (wdB p.years p.slopes p.vs.length x.d)) /\ Below w.heap.size w w' := by
 obtain ⟨years, slopes, ws, wa, wc, ns, na, nc, vs, va, vc, ps, pa, pc⟩ := p
 obtain ⟨⟨price, first, last, age, village, adds⟩, a, cp⟩ := x
 dsimp only at hv hal har
 dsimp only [pmV, pmC, wkV]
 have k1 : IntKind.i64.wrap ((vs.length : Int) - 1) = (vs.length : Int) - 1 := IntWalk.i64_in _ (by omega)
 cases q1 : inB price 1 1000000
 case false =>
  have he : wdB years slopes vs.length ⟨price, first, last, age, village, adds⟩ = false := by simp [wdB, q1]
  rw [he]
  clear he
  go_enter Try.func54, Try.ntmps54
  go_wp2_with (go_at_call 40; refine (within_anyW _ _ _ _).mono ?_; rintro e w' ⟨rfl, rfl⟩)
  go_ret
  exact ⟨rfl, ((Below.refl _ _).alloc (Nat.le_refl _) _).alloc (by simp) _⟩
 case true =>
  by_cases h2 : 0 <= first
  case neg =>
   have he : wdB years slopes vs.length ⟨price, first, last, age, village, adds⟩ = false := by simp [wdB, q1, h2]
   rw [he]
   clear he
   go_enter Try.func54, Try.ntmps54
   go_wp2_with (go_at_call 40; refine (within_anyW _ _ _ _).mono ?_; rintro e w' ⟨rfl, rfl⟩)
   go_ret
   exact ⟨rfl, ((Below.refl _ _).alloc (Nat.le_refl _) _).alloc (by simp) _⟩
  case pos =>
   by_cases h3 : first <= last
   case neg =>
    have he : wdB years slopes vs.length ⟨price, first, last, age, village, adds⟩ = false := by simp [wdB, q1, h2, h3]
    rw [he]
    clear he
    go_enter Try.func54, Try.ntmps54
    go_wp2_with (go_at_call 40; refine (within_anyW _ _ _ _).mono ?_; rintro e w' ⟨rfl, rfl⟩)
    go_ret
    exact ⟨rfl, ((Below.refl _ _).alloc (Nat.le_refl _) _).alloc (by simp) _⟩
   case pos =>
    by_cases h4 : last < years
    case neg =>
     have he : wdB years slopes vs.length ⟨price, first, last, age, village, adds⟩ = false := by simp [wdB, q1, h2, h3, h4]
     rw [he]
     clear he
     go_enter Try.func54, Try.ntmps54
     go_wp2_with (go_at_call 40; refine (within_anyW _ _ _ _).mono ?_; rintro e w' ⟨rfl, rfl⟩)
     go_ret
     exact ⟨rfl, ((Below.refl _ _).alloc (Nat.le_refl _) _).alloc (by simp) _⟩
    case pos =>
     cases q5 : inB age 0 1000
     case false =>
      have he : wdB years slopes vs.length ⟨price, first, last, age, village, adds⟩ = false := by simp [wdB, q1, h2, h3, h4, q5]
      rw [he]
      clear he
      go_enter Try.func54, Try.ntmps54
      go_wp2_with (go_at_call 40; refine (within_anyW _ _ _ _).mono ?_; rintro e w' ⟨rfl, rfl⟩)
      go_ret
      exact ⟨rfl, ((Below.refl _ _).alloc (Nat.le_refl _) _).alloc (by simp) _⟩
     case true =>
      cases q6 : inB village (-1) ((vs.length : Int) - 1)
      case false =>
       have he : wdB years slopes vs.length ⟨price, first, last, age, village, adds⟩ = false := by simp [wdB, q1, h2, h3, h4, q5, q6]
       rw [he]
       clear he
       go_enter Try.func54, Try.ntmps54
       go_wp2_with (go_at_call 40; refine (within_anyW _ _ _ _).mono ?_; rintro e w' ⟨rfl, rfl⟩)
       go_ret
       exact ⟨rfl, ((Below.refl _ _).alloc (Nat.le_refl _) _).alloc (by simp) _⟩
      case true =>
       by_cases h7 : (adds.length : Int) = slopes
       case neg =>
        have he : wdB years slopes vs.length ⟨price, first, last, age, village, adds⟩ = false := by simp [wdB, q1, h2, h3, h4, q5, q6, h7]
        rw [he]
        clear he
        go_enter Try.func54, Try.ntmps54
        go_wp2_with (go_at_call 40; refine (within_anyW _ _ _ _).mono ?_; rintro e w' ⟨rfl, rfl⟩)
        go_ret
        exact ⟨rfl, ((Below.refl _ _).alloc (Nat.le_refl _) _).alloc (by simp) _⟩
       case pos =>
        have he : wdB years slopes vs.length ⟨price, first, last, age, village, adds⟩ = adds.all rgB := by simp [wdB, q1, h2, h3, h4, q5, q6, h7]
        rw [he]
        clear he
        have HA := Lib.hid (allRg_any adds rgB cp a ((w.alloc (.cells (pmC ⟨years, slopes, ws, wa, wc, ns, na, nc, vs, va, vc, ps, pa, pc⟩) 55)).alloc (.cells #[vi price, vi first, vi last, vi age, vi village, .slice a adds.length cp] 78)) hal (row_alloc (row_alloc har _) _) (fun c _ W _ => right_anyW c W))
        clear har
        go_enter Try.func54, Try.ntmps54
        go_wp2_with (first | (go_at_call 40; refine (within_anyW _ _ _ _).mono ?_; rintro e w' ⟨rfl, rfl⟩) | (go_at_call 86; refine (HA.out).mono ?_; rintro e w' ⟨rfl, hb⟩))
        go_ret
        exact ⟨rfl, below_next (((Below.refl _ _).alloc (Nat.le_refl _) _).alloc (by simp) _) hb⟩
def faultN (p : Pj) : Int :=
 if 8 < p.works.length ∨ 20 < p.needs.length ∨ 6 < p.villages.length then 3
 else if inB p.years 1 5 && inB p.slopes 1 6 && decide ((p.purses.length : Int) = p.years) && p.purses.all (fun n => inB n 0 1000000) && p.works.all (wdB p.years p.slopes p.villages.length) && p.needs.all (ndB p.years p.slopes) then 0 else 1
structure PmFew (p : Pm) : Prop where
 ws : p.ws.length <= 1000
 ad : ∀ x ∈ p.ws, x.d.adds.length <= 1000
 ns : p.ns.length <= 1000
 vs : p.vs.length <= 1000
 ps : p.ps.length <= 1000
set_option maxRecDepth 100000 in
set_option maxHeartbeats 4000000 in
theorem checkProject_any (p : Pm) (w : World) (hok : PmOk p w) (few : PmFew p) :
  Calls Try.prog 27 #[pmV p] w fun e w' => e = .returned (.int .i64 (faultN p.pj)) /\ newer w w' := by
 have HA1 : Hid (∀ W, newer w W -> Calls Try.prog 52 #[.slice p.pa p.ps.length p.pc, .func (.func 51) #[] #[]] W fun e w' => e = .returned (.bool (p.ps.all fun n => inB n 0 1000000)) /\ newer W w') :=
  Lib.hid fun W hW => allPurse_any p.ps _ p.pc p.pa W few.ps (hok.next hW).ps fun c _ W _ => purse_any c W
 have HA2 : Hid (∀ W, newer w W -> Calls Try.prog 53 #[.slice p.wa p.ws.length p.wc, .func (.func 54) #[pmV p] #[]] W fun e w' => e = .returned (.bool (p.ws.all fun x => wdB p.years p.slopes p.vs.length x.d)) /\ newer W w') :=
  Lib.hid fun W hW => allWk_any p.ws _ p.wc p.wa W (pmV p) few.ws (hok.next hW).ws fun c hc W' hW' => work_any p c W' few.vs (few.ad c hc) (((hok.next hW).next hW').ad c hc)
 have HA3 : Hid (0 <= p.slopes /\ p.slopes <= 1000 -> 0 <= p.years /\ p.years <= 1000 -> ∀ W, newer w W -> Calls Try.prog 55 #[.slice p.na p.ns.length p.nc, .func (.func 56) #[pmV p] #[]] W fun e w' => e = .returned (.bool (p.ns.all (ndB p.years p.slopes))) /\ newer W w') :=
  Lib.hid fun h1 h2 W hW => allNd_any p.ns _ p.nc p.na W (pmV p) few.ns (hok.next hW).ns fun c _ W' _ => need_any p c W' h1 h2
 clear hok few
 obtain ⟨years, slopes, ws, wa, wc, ns, na, nc, vs, va, vc, ps, pa, pc⟩ := p
 dsimp only [pmV, pmC] at HA1 HA2 HA3 ⊢
 have hpj : Pm.pj ⟨years, slopes, ws, wa, wc, ns, na, nc, vs, va, vc, ps, pa, pc⟩ = ⟨years, slopes, ws.map (·.d), ns, vs, ps⟩ := rfl
 rw [hpj]
 clear hpj
 have hF : faultN ⟨years, slopes, ws.map (·.d), ns, vs, ps⟩ = if 8 < ws.length ∨ 20 < ns.length ∨ 6 < vs.length then 3 else if inB years 1 5 && inB slopes 1 6 && decide ((ps.length : Int) = years) && ps.all (fun n => inB n 0 1000000) && ws.all (fun x => wdB years slopes vs.length x.d) && ns.all (ndB years slopes) then 0 else 1 := by
  unfold faultN
  simp only [List.length_map, all_map]
 rw [hF]
 clear hF
 generalize (ps.all fun n => inB n 0 1000000) = b7 at HA1 ⊢
 generalize (ws.all fun x => wdB years slopes vs.length x.d) = b8 at HA2 ⊢
 generalize ns.all (ndB years slopes) = b9 at HA3 ⊢
 by_cases h1 : ws.length <= 8
 case neg =>
  rw [if_pos (by omega)]
  go_enter Try.func27, Try.ntmps27
  go_wp2_with fail
  go_ret
  exact ⟨rfl, newer_allocH w _⟩
 case pos =>
  by_cases h2 : ns.length <= 20
  case neg =>
   rw [if_pos (by omega)]
   go_enter Try.func27, Try.ntmps27
   go_wp2_with fail
   go_ret
   exact ⟨rfl, newer_allocH w _⟩
  case pos =>
   by_cases h3 : vs.length <= 6
   case neg =>
    rw [if_pos (by omega)]
    go_enter Try.func27, Try.ntmps27
    go_wp2_with fail
    go_ret
    exact ⟨rfl, newer_allocH w _⟩
   case pos =>
    cases q4 : inB years 1 5
    case false =>
     rw [if_neg (by omega)]
     rw [if_neg (by simp)]
     go_enter Try.func27, Try.ntmps27
     go_wp2_with (first | (go_at_call 40; refine (within_anyW _ _ _ _).mono ?_; rintro e w' ⟨rfl, rfl⟩))
     go_ret
     exact ⟨rfl, newer_allocH w _⟩
    case true =>
     cases q5 : inB slopes 1 6
     case false =>
      rw [if_neg (by omega)]
      rw [if_neg (by simp)]
      go_enter Try.func27, Try.ntmps27
      go_wp2_with (first | (go_at_call 40; refine (within_anyW _ _ _ _).mono ?_; rintro e w' ⟨rfl, rfl⟩))
      go_ret
      exact ⟨rfl, newer_allocH w _⟩
     case true =>
      by_cases h6 : (ps.length : Int) = years
      case neg =>
       rw [if_neg (by omega)]
       rw [if_neg (by simp [h6])]
       go_enter Try.func27, Try.ntmps27
       go_wp2_with (first | (go_at_call 40; refine (within_anyW _ _ _ _).mono ?_; rintro e w' ⟨rfl, rfl⟩))
       go_ret
       exact ⟨rfl, newer_allocH w _⟩
      case pos =>
       cases b7
       case false =>
        rw [if_neg (by omega)]
        rw [if_neg (by simp)]
        go_enter Try.func27, Try.ntmps27
        go_wp2_with (first | (go_at_call 40; refine (within_anyW _ _ _ _).mono ?_; rintro e w' ⟨rfl, rfl⟩) | (go_at_call 52; refine (HA1.out _ (newer_allocH w _)).mono ?_; rintro e w1 ⟨rfl, hb1⟩; have HW := (Whole.made w 55 #[vi years, vi slopes, .slice wa ws.length wc, .slice na ns.length nc, .slice va vs.length vc, .slice pa ps.length pc]).below hb1 (by simp); have x0 := HW.at 0 (v := vi years) rfl; have x1 := HW.at 1 (v := vi slopes) rfl; have x2 := HW.at 2 (v := .slice wa ws.length wc) rfl; have x3 := HW.at 3 (v := .slice na ns.length nc) rfl; have x4 := HW.at 4 (v := .slice va vs.length vc) rfl; have x5 := HW.at 5 (v := .slice pa ps.length pc) rfl; have HW1 := Lib.hid HW; clear HW; have hb1 := newer_trans (newer_allocH w _) hb1))
        go_ret
        exact ⟨rfl, hb1⟩
       case true =>
        cases b8
        case false =>
         rw [if_neg (by omega)]
         rw [if_neg (by simp)]
         have hsl : 0 <= slopes /\ slopes <= 1000 := by simp [inB] at q5; omega
         have hyr : 0 <= years /\ years <= 1000 := by simp [inB] at q4; omega
         go_enter Try.func27, Try.ntmps27
         go_wp2_with (first | (go_at_call 40; refine (within_anyW _ _ _ _).mono ?_; rintro e w' ⟨rfl, rfl⟩) | (go_at_call 52; refine (HA1.out _ (newer_allocH w _)).mono ?_; rintro e w1 ⟨rfl, hb1⟩; have HW := (Whole.made w 55 #[vi years, vi slopes, .slice wa ws.length wc, .slice na ns.length nc, .slice va vs.length vc, .slice pa ps.length pc]).below hb1 (by simp); have x0 := HW.at 0 (v := vi years) rfl; have x1 := HW.at 1 (v := vi slopes) rfl; have x2 := HW.at 2 (v := .slice wa ws.length wc) rfl; have x3 := HW.at 3 (v := .slice na ns.length nc) rfl; have x4 := HW.at 4 (v := .slice va vs.length vc) rfl; have x5 := HW.at 5 (v := .slice pa ps.length pc) rfl; have HW1 := Lib.hid HW; clear HW; have hb1 := newer_trans (newer_allocH w _) hb1) | (go_at_call 53; refine (HA2.out _ hb1).mono ?_; rintro e w2 ⟨rfl, hb2⟩; have HW := (HW1.out).below hb2 (HW1.out).lt; have y0 := HW.at 0 (v := vi years) rfl; have y1 := HW.at 1 (v := vi slopes) rfl; have y2 := HW.at 2 (v := .slice wa ws.length wc) rfl; have y3 := HW.at 3 (v := .slice na ns.length nc) rfl; have y4 := HW.at 4 (v := .slice va vs.length vc) rfl; have y5 := HW.at 5 (v := .slice pa ps.length pc) rfl; clear HW; have hb2 := newer_trans hb1 hb2; clear hb1))
         go_ret
         exact ⟨rfl, hb2⟩
        case true =>
         cases b9
         case false =>
          rw [if_neg (by omega)]
          rw [if_neg (by simp)]
          have hsl : 0 <= slopes /\ slopes <= 1000 := by simp [inB] at q5; omega
          have hyr : 0 <= years /\ years <= 1000 := by simp [inB] at q4; omega
          go_enter Try.func27, Try.ntmps27
          go_wp2_with (first | (go_at_call 40; refine (within_anyW _ _ _ _).mono ?_; rintro e w' ⟨rfl, rfl⟩) | (go_at_call 52; refine (HA1.out _ (newer_allocH w _)).mono ?_; rintro e w1 ⟨rfl, hb1⟩; have HW := (Whole.made w 55 #[vi years, vi slopes, .slice wa ws.length wc, .slice na ns.length nc, .slice va vs.length vc, .slice pa ps.length pc]).below hb1 (by simp); have x0 := HW.at 0 (v := vi years) rfl; have x1 := HW.at 1 (v := vi slopes) rfl; have x2 := HW.at 2 (v := .slice wa ws.length wc) rfl; have x3 := HW.at 3 (v := .slice na ns.length nc) rfl; have x4 := HW.at 4 (v := .slice va vs.length vc) rfl; have x5 := HW.at 5 (v := .slice pa ps.length pc) rfl; have HW1 := Lib.hid HW; clear HW; have hb1 := newer_trans (newer_allocH w _) hb1) | (go_at_call 53; refine (HA2.out _ hb1).mono ?_; rintro e w2 ⟨rfl, hb2⟩; have HW := (HW1.out).below hb2 (HW1.out).lt; have y0 := HW.at 0 (v := vi years) rfl; have y1 := HW.at 1 (v := vi slopes) rfl; have y2 := HW.at 2 (v := .slice wa ws.length wc) rfl; have y3 := HW.at 3 (v := .slice na ns.length nc) rfl; have y4 := HW.at 4 (v := .slice va vs.length vc) rfl; have y5 := HW.at 5 (v := .slice pa ps.length pc) rfl; clear HW; have hb2 := newer_trans hb1 hb2; clear hb1) | (go_at_call 55; refine (HA3.out hsl hyr _ hb2).mono ?_; rintro e w3 ⟨rfl, hb3⟩; have hb3 := newer_trans hb2 hb3; clear hb2))
          go_ret
          exact ⟨rfl, hb3⟩
         case true =>
          rw [if_neg (by omega)]
          rw [if_pos (by simp [h6])]
          have hsl : 0 <= slopes /\ slopes <= 1000 := by simp [inB] at q5; omega
          have hyr : 0 <= years /\ years <= 1000 := by simp [inB] at q4; omega
          go_enter Try.func27, Try.ntmps27
          go_wp2_with (first | (go_at_call 40; refine (within_anyW _ _ _ _).mono ?_; rintro e w' ⟨rfl, rfl⟩) | (go_at_call 52; refine (HA1.out _ (newer_allocH w _)).mono ?_; rintro e w1 ⟨rfl, hb1⟩; have HW := (Whole.made w 55 #[vi years, vi slopes, .slice wa ws.length wc, .slice na ns.length nc, .slice va vs.length vc, .slice pa ps.length pc]).below hb1 (by simp); have x0 := HW.at 0 (v := vi years) rfl; have x1 := HW.at 1 (v := vi slopes) rfl; have x2 := HW.at 2 (v := .slice wa ws.length wc) rfl; have x3 := HW.at 3 (v := .slice na ns.length nc) rfl; have x4 := HW.at 4 (v := .slice va vs.length vc) rfl; have x5 := HW.at 5 (v := .slice pa ps.length pc) rfl; have HW1 := Lib.hid HW; clear HW; have hb1 := newer_trans (newer_allocH w _) hb1) | (go_at_call 53; refine (HA2.out _ hb1).mono ?_; rintro e w2 ⟨rfl, hb2⟩; have HW := (HW1.out).below hb2 (HW1.out).lt; have y0 := HW.at 0 (v := vi years) rfl; have y1 := HW.at 1 (v := vi slopes) rfl; have y2 := HW.at 2 (v := .slice wa ws.length wc) rfl; have y3 := HW.at 3 (v := .slice na ns.length nc) rfl; have y4 := HW.at 4 (v := .slice va vs.length vc) rfl; have y5 := HW.at 5 (v := .slice pa ps.length pc) rfl; clear HW; have hb2 := newer_trans hb1 hb2; clear hb1) | (go_at_call 55; refine (HA3.out hsl hyr _ hb2).mono ?_; rintro e w3 ⟨rfl, hb3⟩; have hb3 := newer_trans hb2 hb3; clear hb2))
          go_ret
          exact ⟨rfl, hb3⟩
end

section
open Go.RowKit
def addsN (x : Wd) (built year number : Int) : Int := if built = -1 ∨ year < built then 0 else number * mxI 0 (1000 - x.age * (year - built)) / 1000
def endGW (hi : Bool) : Nat := if hi then 43 else 42
def endRW (hi : Bool) (r : RgW) : Int := if hi then r.hi else r.lo
theorem end_anyW (hi : Bool) (r : RgW) (w : World) : Calls Try.prog (endGW hi) #[rgVW r] w fun e w' => e = .returned (vi (endRW hi r)) /\ Below w.heap.size w w' := by
 cases hi
 ·exact low_anyW r w
 ·exact high_anyW r w
set_option maxRecDepth 100000 in
set_option maxHeartbeats 1000000 in
theorem adds_any (hi : Bool) (x : Wk) (built year : Int) (k : Nat) (r : RgW) (w : World) (hk : x.d.adds[k]? = some r) (hr : Row rgLW 2 w w.heap.size x.a x.d.adds) (ha0 : 0 <= x.d.age) (ha1 : x.d.age <= 1000)
  (hn0 : 0 <= endRW hi r) (hn1 : endRW hi r <= 10000) (hb0 : -1 <= built) (hb1 : built <= 1000) (hy0 : 0 <= year) (hy1 : year <= 1000) :
  Calls Try.prog 68 #[wkV x, vi built, vi (k : Int), vi year, .func (.func (endGW hi)) #[] #[]] w fun e w' => e = .returned (vi (addsN x.d built year (endRW hi r))) /\ newer w w' := by
 unfold addsN
 by_cases h1 : built = -1
 ·rw [if_pos (.inl h1)]
  go_enter Try.func68, Try.ntmps68
  go_wp2_with fail
  go_ret
  exact ⟨rfl, newer_allocH w _⟩
 ·have h1b : (built == -1) = false := by rw [beq_eq_false_iff_ne]; exact h1
  by_cases h2 : year < built
  ·rw [if_pos (.inr h2)]
   go_enter Try.func68, Try.ntmps68
   go_wp2_with fail
   go_ret
   exact ⟨rfl, newer_allocH w _⟩
  ·rw [if_neg (by omega)]
   have hkl : k < x.d.adds.length := (List.getElem?_eq_some_iff.1 hk).1
   have hkn : (k : Int) < x.d.adds.length := by omega
   obtain ⟨b, off, ea, _, c1, c2⟩ := row2 (row_alloc hr (.cells (wkC x) 78)) hk
   obtain ⟨d, hd⟩ : ∃ d, d = year - built := ⟨_, rfl⟩
   obtain ⟨g, hg⟩ : ∃ g, g = x.d.age * d := ⟨_, rfl⟩
   obtain ⟨hh, hhh⟩ : ∃ hh, hh = 1000 - g := ⟨_, rfl⟩
   obtain ⟨m, hm⟩ : ∃ m, m = mxI 0 hh := ⟨_, rfl⟩
   obtain ⟨n, hn⟩ : ∃ n, n = endRW hi r := ⟨_, rfl⟩
   obtain ⟨pr, hpr⟩ : ∃ pr, pr = n * m := ⟨_, rfl⟩
   obtain ⟨q, hq⟩ : ∃ q, q = pr / 1000 := ⟨_, rfl⟩
   have bg := mul_bd ha0 ha1 (show 0 <= d by omega) (show d <= 1001 by omega)
   rw [<- hg] at bg
   have bm : 0 <= m /\ m <= 1000 := by
    rw [hm]
    unfold mxI
    split <;> omega
   rw [<- hn] at hn0 hn1
   have bp := mul_bd hn0 hn1 bm.1 bm.2
   rw [<- hpr] at bp
   have e11 : IntKind.i64.wrap (year - built) = d := by rw [<- hd]; exact IntWalk.i64_in _ (by omega)
   have e12 : IntKind.i64.wrap (x.d.age * d) = g := by rw [<- hg]; exact IntWalk.i64_in _ (by omega)
   have e13 : IntKind.i64.wrap (1000 - g) = hh := by rw [<- hhh]; exact IntWalk.i64_in _ (by omega)
   have e15 : IntKind.i64.wrap (n * m) = pr := by rw [<- hpr]; exact IntWalk.i64_in _ (by omega)
   have e16 : pr.tdiv 1000 = q := by rw [hq]; exact Int.tdiv_eq_ediv_of_nonneg bp.1
   have e17 : IntKind.i64.wrap q = q := IntWalk.i64_in _ (by omega)
   have hres : endRW hi r * mxI 0 (1000 - x.d.age * (year - built)) / 1000 = q := by rw [<- hd, <- hg, <- hhh, <- hm, <- hn, <- hpr, <- hq]
   rw [hres]
   have HM := Lib.hid hm
   have HN := Lib.hid hn
   clear hres hm hn hpr hq hd hg hhh bg bm bp hn0 hn1 hr hk ha0 ha1 hb0 hb1 hy0 hy1
   have hw := Whole.made w 78 (wkC x)
   have x3 := hw.at 3 (v := vi x.d.age) rfl
   have x5 := hw.at 5 (v := .slice x.a x.d.adds.length x.cp) rfl
   rw [ea] at x5
   clear ea
   go_enter Try.func68, Try.ntmps68
   go_upto_region 3 with fail
   refine genQ (fun X => X = w.alloc (.cells (wkC x) 78)) rfl ?_
   intro wv hwv
   rw [<- hwv] at x3 x5 c1 c2
   have HB : Hid (newer w wv) := Lib.hid (by rw [hwv]; exact newer_allocH w _)
   clear hwv hw
   refine wp_words (by kernel_rfl) (region_told 17 (by kernel_rfl) (by kernel_rfl) (fun W => Below wv.heap.size wv W) newer (pickD [vIs (.func (.func (endGW hi)) #[] #[]), vIs (.pointer (some ⟨w.heap.size, 5, none⟩)), vIs (.slice (some ⟨b, off, none⟩) x.d.adds.length x.cp), vIs (vi (k : Int)), vIs (.pointer (some ⟨b, off + k * 2, none⟩)), vIs (.agg #[vi r.lo, vi r.hi]), vIs (vi n), vIs (.pointer (some ⟨w.heap.size, 3, none⟩)), vIs (vi x.d.age), vIs (vi year), vIs (vi built), vIs (vi d), vIs (vi g), vIs (vi hh), vIs (vi m), vIs (vi pr), vIs (vi q)]) (fun h k => newer_trans h k) (pickD_stable _ ⟨vIs_st, vIs_st, vIs_st, vIs_st, vIs_st, vIs_st, vIs_st, vIs_st, vIs_st, vIs_st, vIs_st, vIs_st, vIs_st, vIs_st, vIs_st, vIs_st, vIs_st, trivial⟩) (Below.refl _ wv).drew (Below.refl _ _) ?_ ?_)
   ·refine ⟨?_, ?_, ?_, ?_, ?_, ?_, ?_, ?_, ?_, ?_, ?_, ?_, ?_, ?_, ?_, ?_, ?_, trivial⟩
    ·intro a W hG hR hO hp; have h4 := hO.slot 4 (by kernel_rfl); refine wp_yields (v := .func (.func (endGW hi)) #[] #[]) ?_ ⟨_, rfl, rfl, Below.refl _ _, hG⟩; simp [slotOf] at h4; simp [execOp, go_sem, h4]
    ·intro a W hG hR hO hp; have h5 := hO.slot 5 (by kernel_rfl); refine wp_yields (v := .pointer (some ⟨w.heap.size, 5, none⟩)) ?_ ⟨_, rfl, rfl, Below.refl _ _, hG⟩; simp [slotOf] at h5; simp [execOp, go_sem, h5]
    ·intro a W hG hR hO hp; have h19 : slotOf a 19 = .pointer (some ⟨w.heap.size, 5, none⟩) := hp.1; have c0 := keep_cell x5 hG; refine wp_yields (v := .slice (some ⟨b, off, none⟩) x.d.adds.length x.cp) ?_ ⟨_, rfl, rfl, Below.refl _ _, hG⟩; simp [slotOf] at h19; simp [execOp, go_sem, h19, c0]
    ·intro a W hG hR hO hp; have h2 := hO.slot 2 (by kernel_rfl); refine wp_yields (v := vi (k : Int)) ?_ ⟨_, rfl, rfl, Below.refl _ _, hG⟩; simp [slotOf] at h2; simp [execOp, go_sem, h2]
    ·intro a W hG hR hO hp; have h20 : slotOf a 20 = .slice (some ⟨b, off, none⟩) x.d.adds.length x.cp := hp.1; have h21 : slotOf a 21 = vi (k : Int) := hp.2.1; refine wp_yields (v := .pointer (some ⟨b, off + k * 2, none⟩)) ?_ ⟨_, rfl, rfl, Below.refl _ _, hG⟩; simp [slotOf] at h20 h21; simp [execOp, go_sem, h20, h21, hkn]
    ·intro a W hG hR hO hp; have h22 : slotOf a 22 = .pointer (some ⟨b, off + k * 2, none⟩) := hp.1; have c0 := keep_cell c1 hG; have c1 := keep_cell c2 hG; refine wp_yields (v := .agg #[vi r.lo, vi r.hi]) ?_ ⟨_, rfl, rfl, Below.refl _ _, hG⟩; simp [slotOf] at h22; simp [execOp, go_sem, h22, c0, c1]
    ·intro a W hG hR hO hp
     have h18 : slotOf a 18 = .func (.func (endGW hi)) #[] #[] := hp.1
     have h23 : slotOf a 23 = .agg #[vi r.lo, vi r.hi] := hp.2.1
     refine wp_enters (f := endGW hi) (args := #[rgVW r]) ?_ ((end_anyW hi r W).mono ?_)
     ·simp [slotOf] at h18 h23
      cases hi <;> simp only [endGW, if_true, if_false, Bool.false_eq_true] at h18 ⊢ <;> simp [go_sem, h18, h23]
     ·rintro e w' ⟨rfl, hb⟩
      exact ⟨_, rfl, _, rfl, (by show vi (endRW hi r) = vi n; rw [HN.out]), hb, below_next hG hb⟩
    ·intro a W hG hR hO hp; have h5 := hO.slot 5 (by kernel_rfl); refine wp_yields (v := .pointer (some ⟨w.heap.size, 3, none⟩)) ?_ ⟨_, rfl, rfl, Below.refl _ _, hG⟩; simp [slotOf] at h5; simp [execOp, go_sem, h5]
    ·intro a W hG hR hO hp; have h25 : slotOf a 25 = .pointer (some ⟨w.heap.size, 3, none⟩) := hp.1; have c0 := keep_cell x3 hG; refine wp_yields (v := vi x.d.age) ?_ ⟨_, rfl, rfl, Below.refl _ _, hG⟩; simp [slotOf] at h25; simp [execOp, go_sem, h25, c0]
    ·intro a W hG hR hO hp; have h3 := hO.slot 3 (by kernel_rfl); refine wp_yields (v := vi year) ?_ ⟨_, rfl, rfl, Below.refl _ _, hG⟩; simp [slotOf] at h3; simp [execOp, go_sem, h3]
    ·intro a W hG hR hO hp; have h1 := hO.slot 1 (by kernel_rfl); refine wp_yields (v := vi built) ?_ ⟨_, rfl, rfl, Below.refl _ _, hG⟩; simp [slotOf] at h1; simp [execOp, go_sem, h1]
    ·intro a W hG hR hO hp; have h27 : slotOf a 27 = vi year := hp.1; have h28 : slotOf a 28 = vi built := hp.2.1; refine wp_yields (v := vi d) ?_ ⟨_, rfl, rfl, Below.refl _ _, hG⟩; simp [slotOf] at h27 h28; simp [execOp, go_sem, h27, h28, e11]
    ·intro a W hG hR hO hp; have h26 : slotOf a 26 = vi x.d.age := hp.1; have h29 : slotOf a 29 = vi d := hp.2.1; refine wp_yields (v := vi g) ?_ ⟨_, rfl, rfl, Below.refl _ _, hG⟩; simp [slotOf] at h26 h29; simp [execOp, go_sem, h26, h29, e12]
    ·intro a W hG hR hO hp; have h30 : slotOf a 30 = vi g := hp.1; refine wp_yields (v := vi hh) ?_ ⟨_, rfl, rfl, Below.refl _ _, hG⟩; simp [slotOf] at h30; simp [execOp, go_sem, h30, e13]
    ·intro a W hG hR hO hp; have h31 : slotOf a 31 = vi hh := hp.1; refine wp_yields (v := vi m) ?_ ⟨_, rfl, rfl, Below.refl _ _, hG⟩; simp [slotOf] at h31; simp [go_sem, h31, HM.out, mxI]
    ·intro a W hG hR hO hp; have h24 : slotOf a 24 = vi n := hp.1; have h32 : slotOf a 32 = vi m := hp.2.1; refine wp_yields (v := vi pr) ?_ ⟨_, rfl, rfl, Below.refl _ _, hG⟩; simp [slotOf] at h24 h32; simp [execOp, go_sem, h24, h32, e15]
    ·intro a W hG hR hO hp; have h33 : slotOf a 33 = vi pr := hp.1; refine wp_yields (v := vi q) ?_ ⟨_, rfl, rfl, Below.refl _ _, hG⟩; simp [slotOf] at h33; simp [execOp, go_sem, h33, e16, e17]
   ·intro W hG hR
    rintro _ rfl _ rfl _ rfl _ rfl _ rfl _ rfl _ rfl _ rfl _ rfl _ rfl _ rfl _ rfl _ rfl _ rfl _ rfl _ rfl _ rfl
    change wpList _ _ _ _ _ _
    simp only [Act.put, List.setIfInBounds_toArray, List.set_cons_zero, List.set_cons_succ, List.drop_succ_cons, List.drop_zero]
    have HF := Lib.hid (newer_trans HB.out hG)
    clear hG hR HB x3 x5 c1 c2
    go_wp2_with fail
    go_ret
    exact ⟨rfl, HF.out⟩
end

section
open Go.RowKit
def okY (q : Int × Wd) : Bool := decide (q.1 = -1) || inB q.1 q.2.first q.2.last
def planB (ws : List Wd) (plan : List Int) : Bool := decide (plan.length = ws.length) && (plan.zip ws).all okY
set_option maxRecDepth 100000 in
set_option maxHeartbeats 1000000 in
theorem planned_any (p : Pm) (plan : List Int) (L : Option Addr) (lp : Nat) (w : World) (hok : PmOk p w) (few : PmFew p) (hl : plan.length <= 1000) (hr : Row intL 1 w w.heap.size L plan) :
  Calls Try.prog 67 #[pmV p, .slice L plan.length lp] w fun e w' => e = .returned (.bool (planB (p.ws.map (·.d)) plan)) /\ newer w w' := by
 have hnw := newer_allocH w (.cells (pmC p) 55)
 have HOK := Lib.hid hok
 have HR := Lib.hid hr
 have HFW := Lib.hid few.ws
 have HBX := Lib.hid (Whole.made w 55 (pmC p))
 clear hok hr few
 by_cases hlen : plan.length = p.ws.length
 ·have hzl : (plan.zip (p.ws.map (·.d))).length = plan.length := by rw [List.length_zip, List.length_map]; omega
  have HZ := Lib.hid (And.intro hlen hzl)
  have hpl : planB (p.ws.map (·.d)) plan = (plan.zip (p.ws.map (·.d))).all okY := by
   unfold planB
   rw [List.length_map, decide_eq_true hlen, Bool.true_and]
  rw [hpl]
  have hb1 : ((plan.length : Int) == (p.ws.length : Int)) = true := by rw [beq_iff_eq]; omega
  have hb2 : ((plan.length : Int) != (p.ws.length : Int)) = false := by rw [bne, hb1]; rfl
  clear hlen hzl hpl
  go_enter Try.func67, Try.ntmps67
  go_wp2_with fail
  clear hb1 hb2
  go_loopw [16] (fun s16 wr => ∃ k : Nat, k <= plan.length /\ s16 = .int .i64 k /\ newer w wr /\ Whole wr w.heap.size 55 (pmC p) /\ early (fun x => !okY x) (plan.zip (p.ws.map (·.d))) k) (fun s16 _ => plan.length - (intOf s16).toNat)
  case atStart => exact ⟨0, Nat.zero_le _, rfl, hnw, HBX.out, early_zero _ _⟩
  case round =>
   obtain ⟨k, hk, rfl, hbw, hbx, he⟩ := hrel
   have HE := Lib.hid he
   clear he HBX
   by_cases hlt : k < plan.length
   ·have hkn : (k : Int) < plan.length := by omega
    have hkw : (k : Int) < p.ws.length := by have := HZ.out.1; omega
    obtain ⟨y, hy⟩ := get_of_lt hlt
    obtain ⟨x, hx⟩ := get_of_lt (l := p.ws) (k := k) (by have := HZ.out.1; omega)
    have HZK := Lib.hid (zip_at (l := plan) (m := p.ws.map (·.d)) hy (by rw [List.getElem?_map, hx]; rfl))
    obtain ⟨b1, o1, e1, _, c1⟩ := row1 (HR.out.below hbw) hy
    obtain ⟨b2, o2, e2, _, d0, d1, d2, d3, d4, d5⟩ := row6 (HOK.out.next hbw).ws hx
    subst e1
    have z2 := hbx.at 2 (v := .slice p.wa p.ws.length p.wc) rfl
    rw [e2] at z2
    have HB := Lib.hid (And.intro hbw hbx)
    have HNX := Lib.hid (newer_trans hbw (newer_allocH wr (.cells (wkC x) 78)))
    have HBN := Lib.hid (hbx.alloc (.cells (wkC x) 78))
    clear hbw hbx hy hx e2
    by_cases hy1 : y = -1
    ·have hyb : (y != -1) = false := by simp [hy1]
     have HOKY : Hid (okY (y, x.d) = true) := Lib.hid (by simp [okY, hy1])
     clear hy1
     go_wp2_with fail
     go_roundw
     case rel => exact ⟨k + 1, by omega, by go_num, HNX.out, HBN.out, early_succ HE.out HZK.out (by rw [HOKY.out]; rfl)⟩
     case measure => simp [intOf]; omega
    ·have hyb : (y != -1) = true := by simp [hy1]
     cases hin : inB y x.d.first x.d.last
     ·have HOKY : Hid (okY (y, x.d) = false) := Lib.hid (by simp [okY, hy1, hin])
      clear hy1
      go_wp2_with (go_at_call 40; refine (within_anyW _ _ _ _).mono ?_; rintro e w' ⟨rfl, rfl⟩)
      go_ret
      exact ⟨ret_bool (all_bad HZK.out HOKY.out).symm, HNX.out⟩
     ·have HOKY : Hid (okY (y, x.d) = true) := Lib.hid (by simp [okY, hin])
      clear hy1
      go_wp2_with (go_at_call 40; refine (within_anyW _ _ _ _).mono ?_; rintro e w' ⟨rfl, rfl⟩)
      go_roundw
      case rel => exact ⟨k + 1, by omega, by go_num, HNX.out, HBN.out, early_succ HE.out HZK.out (by rw [HOKY.out]; rfl)⟩
      case measure => simp [intOf]; omega
   ·obtain rfl : k = plan.length := by omega
    have hkn : ¬ ((plan.length : Int) < plan.length) := by omega
    go_wp2_with fail
    go_ret
    exact ⟨ret_bool (all_early (by rw [HZ.out.2]; exact HE.out)).symm, hbw⟩
 ·have hpl : planB (p.ws.map (·.d)) plan = false := by
   unfold planB
   rw [List.length_map, decide_eq_false hlen, Bool.false_and]
  rw [hpl]
  have hb1 : ((plan.length : Int) == (p.ws.length : Int)) = false := by rw [beq_eq_false_iff_ne]; omega
  have hb2 : ((plan.length : Int) != (p.ws.length : Int)) = true := by rw [bne, hb1]; rfl
  clear hlen hpl
  go_enter Try.func67, Try.ntmps67
  go_wp2_with fail
  go_ret
  exact ⟨rfl, hnw⟩
end

section
open Go.RowKit
def checkN (p : Pj) (plan : List Int) : Int := if faultN p = 0 then (if planB p.works plan then 0 else 2) else faultN p
set_option maxRecDepth 100000 in
set_option maxHeartbeats 1000000 in
theorem check_anyW (p : Pm) (plan : List Int) (L : Option Addr) (lp : Nat) (w : World) (hok : PmOk p w) (few : PmFew p) (hl : plan.length <= 1000) (hr : Row intL 1 w w.heap.size L plan) :
  Calls Try.prog 39 #[pmV p, .slice L plan.length lp] w fun e w' => e = .returned (.int .i64 (checkN p.pj plan)) /\ newer w w' := by
 have HBX := Lib.hid (Whole.made w 55 (pmC p))
 have hnw := newer_allocH w (.cells (pmC p) 55)
 have HCK := Lib.hid (checkProject_any p (w.alloc (.cells (pmC p) 55)) (hok.next hnw) few)
 have HPL : Hid (∀ W, newer w W -> Calls Try.prog 67 #[pmV p, .slice L plan.length lp] W fun e w' => e = .returned (.bool (planB p.pj.works plan)) /\ newer W w') := Lib.hid fun W hW => planned_any p plan L lp W (hok.next hW) few hl ((hr.below hW).more hW.size)
 clear hok few hr
 unfold checkN
 by_cases hf : faultN p.pj = 0
 ·rw [if_pos hf]
  rw [hf] at HCK
  clear hf
  generalize planB p.pj.works plan = bb at HPL ⊢
  cases bb
  all_goals
   (go_enter Try.func39, Try.ntmps39
    go_wp2_with (first | (go_at_call 27; refine (HCK.out).mono ?_; rintro e w1 ⟨rfl, hb1⟩; have hw := (HBX.out).below hb1 (HBX.out).lt; have x0 := hw.at 0 (v := vi p.years) rfl; have x1 := hw.at 1 (v := vi p.slopes) rfl; have x2 := hw.at 2 (v := .slice p.wa p.ws.length p.wc) rfl; have x3 := hw.at 3 (v := .slice p.na p.ns.length p.nc) rfl; have x4 := hw.at 4 (v := .slice p.va p.vs.length p.vc) rfl; have x5 := hw.at 5 (v := .slice p.pa p.ps.length p.pc) rfl; clear hw; have HN := Lib.hid (newer_trans hnw hb1); clear hb1) | (go_at_call 67; refine (HPL.out _ (HN.out)).mono ?_; rintro e w2 ⟨rfl, hb2⟩))
    go_ret
    exact ⟨rfl, newer_trans HN.out hb2⟩)
 ·rw [if_neg hf]
  obtain ⟨f, hff⟩ : ∃ f, f = faultN p.pj := ⟨_, rfl⟩
  rw [<- hff] at HCK hf ⊢
  have hfb : (f != 0) = true := by simpa using hf
  clear hf hff
  go_enter Try.func39, Try.ntmps39
  go_wp2_with (go_at_call 27; refine (HCK.out).mono ?_; rintro e w1 ⟨rfl, hb1⟩)
  go_ret
  exact ⟨rfl, newer_trans hnw hb1⟩
def agreeB (vs : List Bool) (x : Wd) : Bool := decide (x.village = -1) || vs[x.village.toNat]?.getD false
set_option maxRecDepth 100000 in
set_option maxHeartbeats 1000000 in
theorem agreed_any (p : Pm) (x : Wk) (w : World) (hok : PmOk p w) (hv : inB x.d.village (-1) ((p.vs.length : Int) - 1) = true) :
  Calls Try.prog 57 #[pmV p, wkV x] w fun e w' => e = .returned (.bool (agreeB p.vs x.d)) /\ newer w w' := by
 have hnw := newer_trans (newer_allocH w (.cells (pmC p) 55)) (newer_allocH (w.alloc (.cells (pmC p) 55)) (.cells (wkC x) 78))
 simp only [inB, Bool.and_eq_true, decide_eq_true_eq] at hv
 unfold agreeB
 by_cases h1 : x.d.village = -1
 ·have h1b : (x.d.village == -1) = true := by rw [beq_iff_eq]; exact h1
  rw [decide_eq_true h1, Bool.true_or]
  clear h1 hv
  go_enter Try.func57, Try.ntmps57
  go_wp2_with fail
  go_ret
  exact ⟨rfl, hnw⟩
 ·have h1b : (x.d.village == -1) = false := by rw [beq_eq_false_iff_ne]; exact h1
  obtain ⟨k, hk⟩ : ∃ k : Nat, x.d.village = k := ⟨x.d.village.toNat, by omega⟩
  obtain ⟨b, hb⟩ := get_of_lt (l := p.vs) (k := k) (by omega)
  have hkn : (k : Int) < p.vs.length := by omega
  rw [decide_eq_false h1, Bool.false_or, show p.vs[x.d.village.toNat]?.getD false = b by rw [hk, Int.toNat_natCast, hb]; rfl]
  obtain ⟨ab, ao, ea, _, c0⟩ := rowB (hok.next hnw).vs hb
  have HNW := Lib.hid hnw
  obtain ⟨⟨price, first, last, age, village, adds⟩, a, cp⟩ := x
  obtain ⟨years, slopes, ws, wa, wc, ns, na, nc, vs, va, vc, ps, pa, pc⟩ := p
  dsimp only at hk h1b ea hkn c0
  subst hk
  subst ea
  clear hok hb hv h1 hnw
  dsimp only [pmV, pmC, wkV]
  go_enter Try.func57, Try.ntmps57
  go_wp2_with fail
  go_ret
  exact ⟨rfl, HNW.out⟩
set_option maxRecDepth 100000 in
set_option maxHeartbeats 1000000 in
theorem sum_any (l : List Int) (A : Option Addr) (cp : Nat) (w : World) (hl : l.length <= 1000) (hb : ∀ x ∈ l, 0 <= x /\ x <= 1000000000) (hr : Row intL 1 w w.heap.size A l) :
  Calls Try.prog 90 #[.slice A l.length cp] w fun e w' => e = .returned (vi l.sum) /\ newer w w' := by
 have HR := Lib.hid hr
 have HB := Lib.hid (sum_bd hb)
 clear hr hb
 go_enter Try.func90, Try.ntmps90
 go_wp2_with fail
 go_loopw [2, 7] (fun s2 s7 wr => ∃ k : Nat, k <= l.length /\ s7 = .int .i64 k /\ s2 = vi (l.take k).sum /\ newer w wr) (fun _ s7 _ => l.length - (intOf s7).toNat)
 case atStart => exact ⟨0, Nat.zero_le _, rfl, rfl, Below.refl _ _⟩
 case round =>
  obtain ⟨k, hk, rfl, rfl, hnw⟩ := hrel
  have HN := Lib.hid hnw
  clear hnw
  by_cases hlt : k < l.length
  ·have hkm : (k : Int) < l.length := by omega
   obtain ⟨x, hx⟩ := get_of_lt hlt
   obtain ⟨b, off, e, _, c0⟩ := row1 (HR.out.below HN.out) hx
   subst e
   have h2 := HB.out (k + 1)
   have hs := sum_take hx
   have hw : IntKind.i64.wrap ((l.take k).sum + x) = (l.take (k + 1)).sum := by rw [hs]; exact IntWalk.i64_in _ (by rw [hs] at h2; push_cast at h2; omega)
   clear h2 hs hx
   go_wp2_with fail
   exact ⟨⟨k + 1, by omega, by go_num, rfl, HN.out⟩, by (simp only [intOf]; omega)⟩
  ·obtain rfl : k = l.length := by omega
   rw [List.take_length]
   go_wp2_with fail
   go_ret
   exact ⟨rfl, HN.out⟩
def rAt (l : List RgW) (k : Nat) : RgW := l[k]?.getD ⟨0, 0⟩
def togL (hi : Bool) (slope : Nat) (year : Int) (ws : List Wd) (plan : List Int) : List Int := (plan.zip ws).map fun q => addsN q.2 q.1 year (endRW hi (rAt q.2.adds slope))
def togN (hi : Bool) (slope : Nat) (year : Int) (ws : List Wd) (plan : List Int) : Int := (togL hi slope year ws plan).sum
theorem addsN_bd {x : Wd} {built year number : Int} (h0 : 0 <= number) (h1 : number <= 10000) (ha : 0 <= x.age) : 0 <= addsN x built year number /\ addsN x built year number <= 10000 := by
 unfold addsN
 split
 ·omega
 ·rename_i h
  have hd : 0 <= x.age * (year - built) := Int.mul_nonneg ha (by omega)
  have hm : 0 <= mxI 0 (1000 - x.age * (year - built)) /\ mxI 0 (1000 - x.age * (year - built)) <= 1000 := by unfold mxI; split <;> omega
  have hp := mul_bd h0 h1 hm.1 hm.2
  omega
end

section
open Go.RowKit
theorem wdB_parts {years slopes : Int} {vn : Nat} {x : Wd} (h : wdB years slopes vn x = true) : (1 <= x.price /\ x.price <= 1000000) /\ (0 <= x.first /\ x.first <= x.last /\ x.last < years) /\ (0 <= x.age /\ x.age <= 1000) /\ (-1 <= x.village /\ x.village <= (vn : Int) - 1) /\ (x.adds.length : Int) = slopes /\ ∀ r ∈ x.adds, 0 <= r.lo /\ r.lo <= r.hi /\ r.hi <= 10000 := by
 simp only [wdB, inB, Bool.and_eq_true, decide_eq_true_eq] at h
 obtain ⟨⟨⟨⟨⟨⟨⟨h1, h2⟩, h3⟩, h4⟩, h5⟩, h6⟩, h7⟩, h8⟩ := h
 refine ⟨h1, ⟨h2, h3, h4⟩, h5, h6, h7, fun r hr => ?_⟩
 have := List.all_eq_true.1 h8 r hr
 simp only [rgB, Bool.and_eq_true, decide_eq_true_eq] at this
 exact ⟨this.1.1, this.1.2, this.2⟩
theorem endR_bd {hi : Bool} {r : RgW} (h : 0 <= r.lo /\ r.lo <= r.hi /\ r.hi <= 10000) : 0 <= endRW hi r /\ endRW hi r <= 10000 := by
 cases hi <;> simp only [endRW, if_true, if_false, Bool.false_eq_true] <;> omega
theorem rAt_of {l : List RgW} {k : Nat} {r : RgW} (h : l[k]? = some r) : rAt l k = r := by unfold rAt; rw [h]; rfl
theorem togL_bd {hi : Bool} {sl : Nat} {year : Int} {ws : List Wd} {plan : List Int} {years slopes : Int} {vn : Nat} (hv : ∀ x ∈ ws, wdB years slopes vn x = true) (hsl : (sl : Int) < slopes) : ∀ z ∈ togL hi sl year ws plan, 0 <= z /\ z <= 10000 := by
 intro z hz
 obtain ⟨q, hq, rfl⟩ := List.mem_map.1 hz
 have hw := wdB_parts (hv q.2 (List.of_mem_zip hq).2)
 obtain ⟨r, hr⟩ := get_of_lt (l := q.2.adds) (k := sl) (by have := hw.2.2.2.2.1; omega)
 rw [rAt_of hr]
 have hb := endR_bd (hi := hi) (hw.2.2.2.2.2 r (List.mem_of_getElem? hr))
 exact addsN_bd hb.1 hb.2 hw.2.2.1.1
set_option maxRecDepth 100000 in
set_option maxHeartbeats 2000000 in
theorem together_any (hi : Bool) (p : Pm) (plan : List Int) (L : Option Addr) (lp sl : Nat) (year : Int) (w : World) (hok : PmOk p w) (few : PmFew p) (hl : plan.length = p.ws.length) (hr : Row intL 1 w w.heap.size L plan)
  (hval : ∀ x ∈ p.ws, wdB p.years p.slopes p.vs.length x.d = true) (hsl : (sl : Int) < p.slopes) (hy0 : 0 <= year) (hy1 : year <= 1000) (hplan : ∀ y ∈ plan, -1 <= y /\ y <= 1000) :
  Calls Try.prog 41 #[pmV p, .slice L plan.length lp, vi (sl : Int), vi year, .func (.func (endGW hi)) #[] #[]] w fun e w' => e = .returned (vi (togN hi sl year (p.ws.map (·.d)) plan)) /\ newer w w' := by
 unfold togN
 have hnw := newer_allocH w (.cells (pmC p) 55)
 have hbd := togL_bd (hi := hi) (year := year) (plan := plan) (ws := p.ws.map (·.d)) (years := p.years) (vn := p.vs.length) (fun x hx => by
  obtain ⟨k, hk, rfl⟩ := List.mem_map.1 hx
  exact hval k hk) hsl
 have hTlen : (togL hi sl year (p.ws.map (·.d)) plan).length = p.ws.length := by
  unfold togL
  rw [List.length_map, List.length_zip, List.length_map]
  omega
 have HT : Hid (∀ (k : Nat) (y : Int) (x : Wk) (r : RgW), plan[k]? = some y -> p.ws[k]? = some x -> x.d.adds[sl]? = some r -> (togL hi sl year (p.ws.map (·.d)) plan)[k]? = some (addsN x.d y year (endRW hi r))) := Lib.hid (by
  intro k y x r h1 h2 h3
  unfold togL
  rw [List.getElem?_map, zip_at h1 (by rw [List.getElem?_map, h2]; rfl : (p.ws.map (·.d))[k]? = some x.d)]
  simp only [Option.map_some, rAt_of h3])
 have HSB := Lib.hid (sum_bd (l := togL hi sl year (p.ws.map (·.d)) plan) (fun x hx => by have := hbd x hx; omega))
 generalize togL hi sl year (p.ws.map (·.d)) plan = tl at HT HSB hTlen ⊢
 have HLE := Lib.hid (And.intro hl hTlen)
 have HOK := Lib.hid hok
 have HR := Lib.hid hr
 have HFW := Lib.hid few.ws
 have HVAL := Lib.hid hval
 have HPLAN := Lib.hid hplan
 have HBX := Lib.hid (Whole.made w 55 (pmC p))
 have HSL := Lib.hid hsl
 clear hok hr few hl hTlen hbd hval hplan hsl
 go_enter Try.func41, Try.ntmps41
 go_wp2_with fail
 obtain ⟨wa, hwa⟩ : ∃ wa, wa = p.wa := ⟨_, rfl⟩
 rw [<- hwa]
 have HWA := Lib.hid hwa
 clear hwa
 go_loopw [10, 16] (fun s10 s16 wr => ∃ k : Nat, k <= p.ws.length /\ s16 = .int .i64 k /\ s10 = vi (tl.take k).sum /\ newer w wr /\ Whole wr w.heap.size 55 (pmC p)) (fun _ s16 _ => p.ws.length - (intOf s16).toNat)
 case atStart => exact ⟨0, Nat.zero_le _, rfl, rfl, hnw, HBX.out⟩
 case round =>
  obtain ⟨k, hk, rfl, rfl, hbw, hbx⟩ := hrel
  clear HBX
  by_cases hlt : k < p.ws.length
  ·have hkn : (k : Int) < p.ws.length := by omega
   have hkp : (k : Int) < plan.length := by have := HLE.out.1; omega
   obtain ⟨x, hx⟩ := get_of_lt hlt
   obtain ⟨y, hy⟩ := get_of_lt (l := plan) (k := k) (by omega)
   have hw := wdB_parts (HVAL.out x (List.mem_of_getElem? hx))
   obtain ⟨r, hrr⟩ := get_of_lt (l := x.d.adds) (k := sl) (by have := hw.2.2.2.2.1; have := HSL.out; omega)
   have hbr := endR_bd (hi := hi) (hw.2.2.2.2.2 r (List.mem_of_getElem? hrr))
   have hby := HPLAN.out y (List.mem_of_getElem? hy)
   have htk := HT.out k y x r hy hx hrr
   have HADD : Hid (∀ W, newer wr W -> Calls Try.prog 68 #[wkV x, vi y, vi (sl : Int), vi year, .func (.func (endGW hi)) #[] #[]] W fun e w' => e = .returned (vi (addsN x.d y year (endRW hi r))) /\ newer W w') :=
    Lib.hid fun W hW => adds_any hi x y year sl r W hrr (((HOK.out.next hbw).next hW).ad x (List.mem_of_getElem? hx)) hw.2.2.1.1 hw.2.2.1.2 hbr.1 hbr.2 hby.1 hby.2 hy0 hy1
   obtain ⟨ad, had⟩ : ∃ ad, ad = addsN x.d y year (endRW hi r) := ⟨_, rfl⟩
   rw [<- had] at HADD htk
   have HAD := HADD
   have hs := sum_take htk
   have h1 := HSB.out k
   have h2 := HSB.out (k + 1)
   have h3 := HFW.out
   obtain ⟨acc, hacc⟩ : ∃ acc, acc = (tl.take k).sum := ⟨_, rfl⟩
   obtain ⟨nx, hnx⟩ : ∃ nx, nx = (tl.take (k + 1)).sum := ⟨_, rfl⟩
   rw [<- hacc, <- hnx] at hs
   rw [<- hacc] at h1 ⊢
   rw [<- hnx] at h2
   have enx : IntKind.i64.wrap (acc + ad) = nx := by rw [<- hs]; exact IntWalk.i64_in _ (by push_cast at h2; omega)
   have HNX := Lib.hid hnx
   obtain ⟨b1, o1, e1, _, c1⟩ := row1 (HR.out.below hbw) hy
   obtain ⟨b2, o2, e2, _, d0, d1, d2, d3, d4, d5⟩ := row6 (HOK.out.next hbw).ws hx
   subst e1
   have e3 := HWA.out.trans e2
   clear e2 HWA
   subst e3
   have HBW := Lib.hid (And.intro hbw hbx)
   clear hx hy hw hrr hbr hby htk had hs h1 h2 h3 hacc hnx hbw hbx HADD
   go_upto_region 4 with fail
   refine genQ (fun X => newer wr X /\ Whole X wr.heap.size 78 (wkC x)) ⟨newer_allocH _ _, Whole.made _ _ _⟩ ?_
   rintro wv ⟨hn, hwx⟩
   have z0 := hwx.at 0 (v := vi x.d.price) rfl
   have z1 := hwx.at 1 (v := vi x.d.first) rfl
   have z2 := hwx.at 2 (v := vi x.d.last) rfl
   have z3 := hwx.at 3 (v := vi x.d.age) rfl
   have z4 := hwx.at 4 (v := vi x.d.village) rfl
   have z5 := hwx.at 5 (v := .slice x.a x.d.adds.length x.cp) rfl
   have c1 := keep_cell c1 hn
   have HB := Lib.hid (And.intro hn hwx)
   clear hn hwx d0 d1 d2 d3 d4 d5
   refine wp_words (by kernel_rfl) (region_told 11 (by kernel_rfl) (by kernel_rfl) (fun W => Below wv.heap.size wv W) newer (pickD [vIs (vi acc), vIs (wkV x), vIs (.slice (some ⟨b1, o1, none⟩) plan.length lp), vIs (.int .i64 k), vIs (.pointer (some ⟨b1, o1 + k, none⟩)), vIs (vi y), vIs (vi (sl : Int)), vIs (vi year), vIs (.func (.func (endGW hi)) #[] #[]), vIs (vi ad), vIs (vi nx)]) (fun h k => newer_trans h k) (pickD_stable _ ⟨vIs_st, vIs_st, vIs_st, vIs_st, vIs_st, vIs_st, vIs_st, vIs_st, vIs_st, vIs_st, vIs_st, trivial⟩) (Below.refl _ wv).drew (Below.refl _ _) ?_ ?_)
   ·refine ⟨?_, ?_, ?_, ?_, ?_, ?_, ?_, ?_, ?_, ?_, ?_, trivial⟩
    ·intro a W hG hR hO hp; have h10 := hO.slot 10 (by kernel_rfl); refine wp_yields (v := vi acc) ?_ ⟨_, rfl, rfl, Below.refl _ _, hG⟩; simp [slotOf] at h10; simp [execOp, go_sem, h10]
    ·intro a W hG hR hO hp; have h12 := hO.slot 12 (by kernel_rfl); have c0 := keep_cell z0 hG; have c1 := keep_cell z1 hG; have c2 := keep_cell z2 hG; have c3 := keep_cell z3 hG; have c4 := keep_cell z4 hG; have c5 := keep_cell z5 hG; refine wp_yields (v := wkV x) ?_ ⟨_, rfl, rfl, Below.refl _ _, hG⟩; simp [slotOf] at h12; simp [execOp, go_sem, h12, c0, c1, c2, c3, c4, c5]
    ·intro a W hG hR hO hp; have h1 := hO.slot 1 (by kernel_rfl); refine wp_yields (v := .slice (some ⟨b1, o1, none⟩) plan.length lp) ?_ ⟨_, rfl, rfl, Below.refl _ _, hG⟩; simp [slotOf] at h1; simp [execOp, go_sem, h1]
    ·intro a W hG hR hO hp; have h11 := hO.slot 11 (by kernel_rfl); refine wp_yields (v := .int .i64 k) ?_ ⟨_, rfl, rfl, Below.refl _ _, hG⟩; simp [slotOf] at h11; simp [execOp, go_sem, h11]
    ·intro a W hG hR hO hp; have h23 : slotOf a 23 = .slice (some ⟨b1, o1, none⟩) plan.length lp := hp.1; have h24 : slotOf a 24 = .int .i64 k := hp.2.1; refine wp_yields (v := .pointer (some ⟨b1, o1 + k, none⟩)) ?_ ⟨_, rfl, rfl, Below.refl _ _, hG⟩; simp [slotOf] at h23 h24; simp [execOp, go_sem, h23, h24, hkp]
    ·intro a W hG hR hO hp; have h25 : slotOf a 25 = .pointer (some ⟨b1, o1 + k, none⟩) := hp.1; have c0 := keep_cell c1 hG; refine wp_yields (v := vi y) ?_ ⟨_, rfl, rfl, Below.refl _ _, hG⟩; simp [slotOf] at h25; simp [execOp, go_sem, h25, c0]
    ·intro a W hG hR hO hp; have h2 := hO.slot 2 (by kernel_rfl); refine wp_yields (v := vi (sl : Int)) ?_ ⟨_, rfl, rfl, Below.refl _ _, hG⟩; simp [slotOf] at h2; simp [execOp, go_sem, h2]
    ·intro a W hG hR hO hp; have h3 := hO.slot 3 (by kernel_rfl); refine wp_yields (v := vi year) ?_ ⟨_, rfl, rfl, Below.refl _ _, hG⟩; simp [slotOf] at h3; simp [execOp, go_sem, h3]
    ·intro a W hG hR hO hp; have h4 := hO.slot 4 (by kernel_rfl); refine wp_yields (v := .func (.func (endGW hi)) #[] #[]) ?_ ⟨_, rfl, rfl, Below.refl _ _, hG⟩; simp [slotOf] at h4; simp [execOp, go_sem, h4]
    ·intro a W hG hR hO hp
     have h22 : slotOf a 22 = wkV x := hp.1
     have h26 : slotOf a 26 = vi y := hp.2.1
     have h27 : slotOf a 27 = vi (sl : Int) := hp.2.2.1
     have h28 : slotOf a 28 = vi year := hp.2.2.2.1
     have h29 : slotOf a 29 = .func (.func (endGW hi)) #[] #[] := hp.2.2.2.2.1
     refine wp_enters (f := 68) (args := #[wkV x, vi y, vi (sl : Int), vi year, .func (.func (endGW hi)) #[] #[]]) ?_ ((HAD.out W (newer_trans HB.out.1 hG)).mono ?_)
     ·simp [slotOf] at h22 h26 h27 h28 h29
      simp [go_sem, h22, h26, h27, h28, h29]
     ·rintro e w' ⟨rfl, hb⟩
      exact ⟨_, rfl, _, rfl, rfl, hb, below_next hG hb⟩
    ·intro a W hG hR hO hp; have h21 : slotOf a 21 = vi acc := hp.1; have h30 : slotOf a 30 = vi ad := hp.2.1; refine wp_yields (v := vi nx) ?_ ⟨_, rfl, rfl, Below.refl _ _, hG⟩; simp [slotOf] at h21 h30; simp [execOp, go_sem, h21, h30, enx]
   ·intro W hG hR
    rintro _ rfl _ rfl _ rfl _ rfl _ rfl _ rfl _ rfl _ rfl _ rfl _ rfl _ rfl
    change wpList _ _ _ _ _ _
    simp only [Act.put, List.setIfInBounds_toArray, List.set_cons_zero, List.set_cons_succ, List.drop_succ_cons, List.drop_zero]
    have HF := Lib.hid (newer_trans HB.out.1 hG)
    clear hG hR HB z0 z1 z2 z3 z4 z5 c1
    have hfw := HFW.out
    go_wp2_with fail
    go_roundw
    case rel => exact ⟨k + 1, by omega, by go_num, by rw [HNX.out], newer_trans HBW.out.1 HF.out, HBW.out.2.below HF.out HBW.out.2.lt⟩
    case measure => simp [intOf]; omega
  ·obtain rfl : k = p.ws.length := by omega
   have hkn : ¬ ((p.ws.length : Int) < p.ws.length) := by omega
   rw [List.take_of_length_le (Nat.le_of_eq HLE.out.2)]
   go_wp2_with fail
   go_ret
   exact ⟨rfl, hbw⟩
end

section
open Go.RowKit
structure PjOk (p : Pm) : Prop where
 years : 1 <= p.years /\ p.years <= 5
 slopes : 1 <= p.slopes /\ p.slopes <= 6
 wn : p.ws.length <= 8
 nn : p.ns.length <= 20
 vn : p.vs.length <= 7
 pn : (p.ps.length : Int) = p.years
 ps : ∀ n ∈ p.ps, 0 <= n /\ n <= 1000000
 ws : ∀ x ∈ p.ws, wdB p.years p.slopes p.vs.length x.d = true
 ns : ∀ x ∈ p.ns, ndB p.years p.slopes x = true
theorem fault_ok {p : Pm} (h : faultN p.pj = 0) : PjOk p := by
 obtain ⟨years, slopes, ws, wa, wc, ns, na, nc, vs, va, vc, ps, pa, pc⟩ := p
 unfold faultN Pm.pj at h
 dsimp only at h
 rw [List.length_map] at h
 split at h
 ·omega
 ·split at h
  ·rename_i h1 h2
   simp only [Bool.and_eq_true, decide_eq_true_eq, inB, all_map] at h2
   obtain ⟨⟨⟨⟨⟨a1, a2⟩, a3⟩, a4⟩, a5⟩, a6⟩ := h2
   refine ⟨a1, a2, by show ws.length <= 8; omega, by show ns.length <= 20; omega, by show vs.length <= 7; omega, a3, fun n hn => ?_, fun x hx => List.all_eq_true.1 a5 x hx, fun x hx => List.all_eq_true.1 a6 x hx⟩
   have := List.all_eq_true.1 a4 n hn
   simpa only [Bool.and_eq_true, decide_eq_true_eq] using this
  ·omega
theorem plan_ok {p : Pm} {plan : List Int} (h : PjOk p) (hp : planB p.pj.works plan = true) : plan.length = p.ws.length /\ ∀ y ∈ plan, -1 <= y /\ y <= 4 := by
 unfold planB Pm.pj at hp
 dsimp only at hp
 rw [List.length_map, Bool.and_eq_true, decide_eq_true_eq] at hp
 refine ⟨hp.1, fun y hy => ?_⟩
 obtain ⟨k, hk⟩ := List.mem_iff_getElem?.1 hy
 have hkl := (List.getElem?_eq_some_iff.1 hk).1
 obtain ⟨x, hx⟩ := get_of_lt (l := p.ws) (k := k) (by omega)
 have := List.all_eq_true.1 hp.2 (y, x.d) (List.mem_of_getElem? (zip_at hk (by rw [List.getElem?_map, hx]; rfl)))
 simp only [okY, inB, Bool.or_eq_true, Bool.and_eq_true, decide_eq_true_eq] at this
 have hw := wdB_parts (h.ws x (List.mem_of_getElem? hx))
 have hy := h.years
 omega
def addsE (p : Pj) (plan : List Int) (slope year : Int) : Int := if checkN p plan = 0 then (if inB slope 0 (p.slopes - 1) && inB year 0 (p.years - 1) then 0 else 2) else checkN p plan
def addsV (p : Pj) (plan : List Int) (slope year : Int) : Value :=
 if addsE p plan slope year = 0 then .tuple #[.agg #[vi (togN false slope.toNat year p.works plan), vi (togN true slope.toNat year p.works plan)], vi 0] else .tuple #[.agg #[vi 0, vi 0], vi (addsE p plan slope year)]
set_option maxRecDepth 100000 in
set_option maxHeartbeats 2000000 in
theorem worksAdds_any (p : Pm) (plan : List Int) (L : Option Addr) (lp : Nat) (slope year : Int) (w : World) (hok : PmOk p w) (few : PmFew p) (hl : plan.length <= 1000) (hr : Row intL 1 w w.heap.size L plan) :
  Calls Try.prog 18 #[pmV p, .slice L plan.length lp, vi slope, vi year] w fun e w' => e = .returned (addsV p.pj plan slope year) /\ newer w w' := by
 have hnw := newer_trans (newer_allocH w (.cells (pmC p) 55)) (newer_allocH (w.alloc (.cells (pmC p) 55)) (.cells #[vi 0, vi 0] 67))
 have HCK := Lib.hid (check_anyW p plan L lp _ (hok.next hnw) few hl ((hr.below hnw).more hnw.size))
 have hbx := (Whole.made w 55 (pmC p)).alloc (.cells #[vi 0, vi 0] 67)
 have hrx := Whole.made (w.alloc (.cells (pmC p) 55)) 67 #[vi 0, vi 0]
 simp only [World.size_alloc] at hrx
 have HW := Lib.hid (And.intro hbx (And.intro hrx hnw))
 clear hbx hrx hnw
 by_cases hc : checkN p.pj plan = 0
 ·rw [hc] at HCK
  have hfz : faultN p.pj = 0 := by
   unfold checkN at hc
   by_cases hf : faultN p.pj = 0
   ·exact hf
   ·rw [if_neg hf] at hc; exact absurd hc hf
  have hpl : planB p.pj.works plan = true := by
   unfold checkN at hc
   rw [if_pos hfz] at hc
   cases hq : planB p.pj.works plan with
   | true => rfl
   | false => rw [hq] at hc; simp at hc
  have hpo := fault_ok hfz
  have hplo := plan_ok hpo hpl
  have HPO := Lib.hid (And.intro hpo hplo)
  have hy := hpo.years
  have hs := hpo.slopes
  have k1 : IntKind.i64.wrap (p.slopes - 1) = p.slopes - 1 := IntWalk.i64_in _ (by omega)
  have k2 : IntKind.i64.wrap (p.years - 1) = p.years - 1 := IntWalk.i64_in _ (by omega)
  have hAE : addsE p.pj plan slope year = if inB slope 0 (p.slopes - 1) && inB year 0 (p.years - 1) then 0 else 2 := by unfold addsE; rw [if_pos hc]; rfl
  unfold addsV
  rw [hAE]
  have HOK := Lib.hid hok
  have HR := Lib.hid hr
  have HFW := Lib.hid few
  clear hc hfz hpl hpo hplo hAE hok hr few hy hs
  cases q1 : inB slope 0 (p.slopes - 1)
  case false =>
   rw [if_neg (by simp), if_neg (by simp)]
   clear HPO HOK HR HFW
   go_enter Try.func18, Try.ntmps18
   go_wp2_with (first | (go_at_call 39; refine (HCK.out).mono ?_; rintro e w1 ⟨rfl, hb1⟩; have hw := (HW.out.1).below hb1 (HW.out.1).lt; have x0 := hw.at 0 (v := vi p.years) rfl; have x1 := hw.at 1 (v := vi p.slopes) rfl; clear hw; have hw2 := (HW.out.2.1).below hb1 (HW.out.2.1).lt; have HX := Lib.hid (And.intro hw2 (newer_trans HW.out.2.2 hb1)); have y0 := hw2.at 0 rfl; have y1 := hw2.at 1 rfl; have f0 := hw2.free 0; have f1 := hw2.free 1; clear hw2 hb1) | (go_at_call 40; refine (within_anyW _ _ _ _).mono ?_; rintro e w' ⟨rfl, rfl⟩))
   have c := (HX.out.1.set 0 (vi 0)).set 1 (vi 0)
   have k0 := c.at 0 rfl
   have k1 := c.at 1 rfl
   exact bodyPost_ret (v := .tuple #[.agg #[vi 0, vi 0], vi 2]) (by simp [results, Try.results18, go_sem, k0, k1]) rfl ⟨rfl, (HX.out.2.setCell (p := ⟨w.heap.size + 1, 0, none⟩) (by dsimp only; omega) _).setCell (p := ⟨w.heap.size + 1, 1, none⟩) (by dsimp only; omega) _⟩
  case true =>
   cases q2 : inB year 0 (p.years - 1)
   case false =>
    rw [if_neg (by simp), if_neg (by simp)]
    clear HPO HOK HR HFW
    go_enter Try.func18, Try.ntmps18
    go_wp2_with (first | (go_at_call 39; refine (HCK.out).mono ?_; rintro e w1 ⟨rfl, hb1⟩; have hw := (HW.out.1).below hb1 (HW.out.1).lt; have x0 := hw.at 0 (v := vi p.years) rfl; have x1 := hw.at 1 (v := vi p.slopes) rfl; clear hw; have hw2 := (HW.out.2.1).below hb1 (HW.out.2.1).lt; have HX := Lib.hid (And.intro hw2 (newer_trans HW.out.2.2 hb1)); have y0 := hw2.at 0 rfl; have y1 := hw2.at 1 rfl; have f0 := hw2.free 0; have f1 := hw2.free 1; clear hw2 hb1) | (go_at_call 40; refine (within_anyW _ _ _ _).mono ?_; rintro e w' ⟨rfl, rfl⟩))
    have c := (HX.out.1.set 0 (vi 0)).set 1 (vi 0)
    have k0 := c.at 0 rfl
    have k1 := c.at 1 rfl
    exact bodyPost_ret (v := .tuple #[.agg #[vi 0, vi 0], vi 2]) (by simp [results, Try.results18, go_sem, k0, k1]) rfl ⟨rfl, (HX.out.2.setCell (p := ⟨w.heap.size + 1, 0, none⟩) (by dsimp only; omega) _).setCell (p := ⟨w.heap.size + 1, 1, none⟩) (by dsimp only; omega) _⟩
   case true =>
    rw [if_pos (by simp)]
    have hs1 := q1
    have hy1 := q2
    simp only [inB, Bool.and_eq_true, decide_eq_true_eq] at hs1 hy1
    obtain ⟨sl, hsl⟩ : ∃ sl : Nat, slope = sl := ⟨slope.toNat, by omega⟩
    have HT : Hid (∀ (hi : Bool) W, newer w W -> Calls Try.prog 41 #[pmV p, .slice L plan.length lp, vi (sl : Int), vi year, .func (.func (endGW hi)) #[] #[]] W fun e w' => e = .returned (vi (togN hi sl year (p.ws.map (·.d)) plan)) /\ newer W w') := Lib.hid fun hi W hW =>
     together_any hi p plan L lp sl year W (HOK.out.next hW) HFW.out HPO.out.2.1 ((HR.out.below hW).more hW.size) HPO.out.1.ws (by omega) hy1.1 (by have := HPO.out.1.years; omega) (fun y hy => by have := HPO.out.2.2 y hy; omega)
    have hwk : p.pj.works = p.ws.map (·.d) := rfl
    rw [hwk, show slope.toNat = sl by omega]
    subst hsl
    obtain ⟨na, hna⟩ : ∃ na, na = togN false sl year (p.ws.map (·.d)) plan := ⟨_, rfl⟩
    obtain ⟨nb, hnb⟩ : ∃ nb, nb = togN true sl year (p.ws.map (·.d)) plan := ⟨_, rfl⟩
    rw [<- hna, <- hnb]
    have HVna := Lib.hid hna
    have HVnb := Lib.hid hnb
    clear hna hnb hwk HPO HOK HR HFW hs1 hy1
    go_enter Try.func18, Try.ntmps18
    go_upto_region 6 with (first | (go_at_call 39; refine (HCK.out).mono ?_; rintro e w1 ⟨rfl, hb1⟩; have hw := (HW.out.1).below hb1 (HW.out.1).lt; have x0 := hw.at 0 (v := vi p.years) rfl; have x1 := hw.at 1 (v := vi p.slopes) rfl; clear hw; have hw2 := (HW.out.2.1).below hb1 (HW.out.2.1).lt; have HX := Lib.hid (And.intro hw2 (newer_trans HW.out.2.2 hb1)); have y0 := hw2.at 0 rfl; have y1 := hw2.at 1 rfl; have f0 := hw2.free 0; have f1 := hw2.free 1; have HB1 := Lib.hid hb1; clear hw2 hb1) | (go_at_call 40; refine (within_anyW _ _ _ _).mono ?_; rintro e w' ⟨rfl, rfl⟩))
    refine genQ (fun X => newer w X /\ Whole X w.heap.size 55 (pmC p) /\ Whole X (w.heap.size + 1) 67 #[vi 0, vi 0]) ⟨HX.out.2, (HW.out.1).below HB1.out (HW.out.1).lt, HX.out.1⟩ ?_
    clear HX HB1 HW x0 x1 y0 y1 f0 f1
    rintro wv ⟨hn, hx, hr⟩
    have x0 := hx.at 0 (v := vi p.years) rfl
    have x1 := hx.at 1 (v := vi p.slopes) rfl
    have x2 := hx.at 2 (v := .slice p.wa p.ws.length p.wc) rfl
    have x3 := hx.at 3 (v := .slice p.na p.ns.length p.nc) rfl
    have x4 := hx.at 4 (v := .slice p.va p.vs.length p.vc) rfl
    have x5 := hx.at 5 (v := .slice p.pa p.ps.length p.pc) rfl
    have HB := Lib.hid (And.intro hn hr)
    clear hn hx hr
    refine wp_words (by kernel_rfl) (region_told 11 (by kernel_rfl) (by kernel_rfl) (fun W => Below wv.heap.size wv W) newer (pickD [vIs (pmV p), vIs (.slice L plan.length lp), vIs (vi (sl : Int)), vIs (vi year), vIs (vi na), vIs (pmV p), vIs (.slice L plan.length lp), vIs (vi (sl : Int)), vIs (vi year), vIs (vi nb), vIs (.agg #[vi na, vi nb])]) (fun h k => newer_trans h k) (pickD_stable _ ⟨vIs_st, vIs_st, vIs_st, vIs_st, vIs_st, vIs_st, vIs_st, vIs_st, vIs_st, vIs_st, vIs_st, trivial⟩) (Below.refl _ wv).drew (Below.refl _ _) ?_ ?_)
    ·refine ⟨?_, ?_, ?_, ?_, ?_, ?_, ?_, ?_, ?_, ?_, ?_, trivial⟩
     ·intro a W hG hR hO hp; have h4 := hO.slot 4 (by kernel_rfl); have c0 := keep_cell x0 hG; have c1 := keep_cell x1 hG; have c2 := keep_cell x2 hG; have c3 := keep_cell x3 hG; have c4 := keep_cell x4 hG; have c5 := keep_cell x5 hG; refine wp_yields (v := pmV p) ?_ ⟨_, rfl, rfl, Below.refl _ _, hG⟩; simp [slotOf] at h4; simp [execOp, go_sem, h4, c0, c1, c2, c3, c4, c5]
     ·intro a W hG hR hO hp; have h1 := hO.slot 1 (by kernel_rfl); refine wp_yields (v := .slice L plan.length lp) ?_ ⟨_, rfl, rfl, Below.refl _ _, hG⟩; simp [slotOf] at h1; simp [execOp, go_sem, h1]
     ·intro a W hG hR hO hp; have h2 := hO.slot 2 (by kernel_rfl); refine wp_yields (v := vi (sl : Int)) ?_ ⟨_, rfl, rfl, Below.refl _ _, hG⟩; simp [slotOf] at h2; simp [execOp, go_sem, h2]
     ·intro a W hG hR hO hp; have h3 := hO.slot 3 (by kernel_rfl); refine wp_yields (v := vi year) ?_ ⟨_, rfl, rfl, Below.refl _ _, hG⟩; simp [slotOf] at h3; simp [execOp, go_sem, h3]
     ·intro a W hG hR hO hp
      have h33 : slotOf a 33 = pmV p := hp.1
      have h34 : slotOf a 34 = .slice L plan.length lp := hp.2.1
      have h35 : slotOf a 35 = vi (sl : Int) := hp.2.2.1
      have h36 : slotOf a 36 = vi year := hp.2.2.2.1
      refine wp_enters (f := 41) (args := #[pmV p, .slice L plan.length lp, vi (sl : Int), vi year, .func (.func 42) #[] #[]]) ?_ ((HT.out false W (newer_trans HB.out.1 hG)).mono ?_)
      ·simp [slotOf] at h33 h34 h35 h36
       simp [go_sem, h33, h34, h35, h36]
      ·rintro e w' ⟨rfl, hb⟩
       exact ⟨_, rfl, _, rfl, (by show vi (togN false sl year (p.ws.map (·.d)) plan) = vi na; rw [HVna.out]), hb, below_next hG hb⟩
     ·intro a W hG hR hO hp; have h4 := hO.slot 4 (by kernel_rfl); have c0 := keep_cell x0 hG; have c1 := keep_cell x1 hG; have c2 := keep_cell x2 hG; have c3 := keep_cell x3 hG; have c4 := keep_cell x4 hG; have c5 := keep_cell x5 hG; refine wp_yields (v := pmV p) ?_ ⟨_, rfl, rfl, Below.refl _ _, hG⟩; simp [slotOf] at h4; simp [execOp, go_sem, h4, c0, c1, c2, c3, c4, c5]
     ·intro a W hG hR hO hp; have h1 := hO.slot 1 (by kernel_rfl); refine wp_yields (v := .slice L plan.length lp) ?_ ⟨_, rfl, rfl, Below.refl _ _, hG⟩; simp [slotOf] at h1; simp [execOp, go_sem, h1]
     ·intro a W hG hR hO hp; have h2 := hO.slot 2 (by kernel_rfl); refine wp_yields (v := vi (sl : Int)) ?_ ⟨_, rfl, rfl, Below.refl _ _, hG⟩; simp [slotOf] at h2; simp [execOp, go_sem, h2]
     ·intro a W hG hR hO hp; have h3 := hO.slot 3 (by kernel_rfl); refine wp_yields (v := vi year) ?_ ⟨_, rfl, rfl, Below.refl _ _, hG⟩; simp [slotOf] at h3; simp [execOp, go_sem, h3]
     ·intro a W hG hR hO hp
      have h38 : slotOf a 38 = pmV p := hp.1
      have h39 : slotOf a 39 = .slice L plan.length lp := hp.2.1
      have h40 : slotOf a 40 = vi (sl : Int) := hp.2.2.1
      have h41 : slotOf a 41 = vi year := hp.2.2.2.1
      refine wp_enters (f := 41) (args := #[pmV p, .slice L plan.length lp, vi (sl : Int), vi year, .func (.func 43) #[] #[]]) ?_ ((HT.out true W (newer_trans HB.out.1 hG)).mono ?_)
      ·simp [slotOf] at h38 h39 h40 h41
       simp [go_sem, h38, h39, h40, h41]
      ·rintro e w' ⟨rfl, hb⟩
       exact ⟨_, rfl, _, rfl, (by show vi (togN true sl year (p.ws.map (·.d)) plan) = vi nb; rw [HVnb.out]), hb, below_next hG hb⟩
     ·intro a W hG hR hO hp; have h37 : slotOf a 37 = vi na := hp.1; have h42 : slotOf a 42 = vi nb := hp.2.1; refine wp_yields (v := .agg #[vi na, vi nb]) ?_ ⟨_, rfl, rfl, Below.refl _ _, hG⟩; simp [slotOf] at h37 h42; simp [execOp, go_sem, h37, h42]
    ·intro W hG hR
     rintro _ rfl _ rfl _ rfl _ rfl _ rfl _ rfl _ rfl _ rfl _ rfl _ rfl _ rfl
     change wpList _ _ _ _ _ _
     simp only [Act.put, List.setIfInBounds_toArray, List.set_cons_zero, List.set_cons_succ, List.drop_succ_cons, List.drop_zero]
     have HX := Lib.hid (And.intro (HB.out.2.below hG HB.out.2.lt) (newer_trans HB.out.1 hG))
     have y0 := HX.out.1.at 0 rfl
     have y1 := HX.out.1.at 1 rfl
     have f0 := HX.out.1.free 0
     have f1 := HX.out.1.free 1
     clear hG hR HB x0 x1 x2 x3 x4 x5
     go_wp2_with fail
     have c := (HX.out.1.set 0 (vi na)).set 1 (vi nb)
     have k0 := c.at 0 rfl
     have k1 := c.at 1 rfl
     exact bodyPost_ret (v := .tuple #[.agg #[vi na, vi nb], vi 0]) (by simp [results, Try.results18, go_sem, k0, k1]) rfl ⟨rfl, (HX.out.2.setCell (p := ⟨w.heap.size + 1, 0, none⟩) (by dsimp only; omega) _).setCell (p := ⟨w.heap.size + 1, 1, none⟩) (by dsimp only; omega) _⟩
 ·have hAE : addsE p.pj plan slope year = checkN p.pj plan := by unfold addsE; rw [if_neg hc]
  unfold addsV
  rw [hAE, if_neg hc]
  obtain ⟨f, hff⟩ : ∃ f, f = checkN p.pj plan := ⟨_, rfl⟩
  rw [<- hff] at HCK hc ⊢
  have hfb : (f != 0) = true := by simpa using hc
  clear hc hff hAE hok few hr
  go_enter Try.func18, Try.ntmps18
  go_wp2_with (go_at_call 39; refine (HCK.out).mono ?_; rintro e w1 ⟨rfl, hb1⟩; have hw := (HW.out.1).below hb1 (HW.out.1).lt; have x0 := hw.at 0 (v := vi p.years) rfl; have x1 := hw.at 1 (v := vi p.slopes) rfl; clear hw; have hw2 := (HW.out.2.1).below hb1 (HW.out.2.1).lt; have HX := Lib.hid (And.intro hw2 (newer_trans HW.out.2.2 hb1)); have y0 := hw2.at 0 rfl; have y1 := hw2.at 1 rfl; have f0 := hw2.free 0; have f1 := hw2.free 1; clear hw2 hb1)
  have c := (HX.out.1.set 0 (vi 0)).set 1 (vi 0)
  have k0 := c.at 0 rfl
  have k1 := c.at 1 rfl
  exact bodyPost_ret (v := .tuple #[.agg #[vi 0, vi 0], vi f]) (by simp [results, Try.results18, go_sem, k0, k1]) rfl ⟨rfl, (HX.out.2.setCell (p := ⟨w.heap.size + 1, 0, none⟩) (by dsimp only; omega) _).setCell (p := ⟨w.heap.size + 1, 1, none⟩) (by dsimp only; omega) _⟩
end

end Go.Proofs.Ytcdhhfgpdokkoaa
