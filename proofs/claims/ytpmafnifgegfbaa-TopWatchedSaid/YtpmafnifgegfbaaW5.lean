/- Memory of the hours: rows and speeds, and a survey whose reads are laid anew. -/
import Derived.Test.YtpmafnifgegfbaaW2
import Derived.Test.YtpmafnifgegfbaaPB
import Derived.Test.YtpmafnifgegfbaaPE
import Derived.Test.YtpmafnifgegfbaaW3
import Derived.Test.YtpmafnifgegfbaaAL2
namespace Go.Proofs.Ytpmafnifgegfbaa


theorem near_x {q : Int} {a b : Mv} (h : nearB q a b = true) : a.1 - q ≤ b.1 ∧ b.1 ≤ a.1 + q := by
  unfold nearB at h
  rw [Bool.and_eq_true, decide_eq_true_eq, decide_eq_true_eq, amt_le, amt_le] at h
  omega
theorem chain_x {s : Sd} {f : Nat → Mv} (h : FieldIn s f) (hs : 0 ≤ s.strain) : ∀ (i : Nat), i < s.spots.length → (f i).1 - s.strain * i ≤ (f 0).1 ∧ (f 0).1 ≤ (f i).1 + s.strain * i
  | 0, _ => by simp
  | i + 1, hi => by
    have h1 := chain_x h hs i (by omega)
    have h2 := near_x (h.2 i hi)
    have e : s.strain * ((i + 1 : Nat) : Int) = s.strain * (i : Int) + s.strain := by
      rw [show ((i + 1 : Nat) : Int) = (i : Int) + 1 by omega, Int.mul_add, Int.mul_one]
    rw [e]
    generalize s.strain * (i : Int) = p at *
    omega
/-- What a gauge reads of a spot. -/
def midN (p : Sp) : Int := (p.x.lo + 30 + p.x.hi + 30) / 2
/-- An hour: the reads, and the speed of the first spot. -/
structure HourOk (s : Sd) (l : List Int) (v : Int) : Prop where
  len : l.length = s.spots.length
  vb : 0 ≤ v ∧ v ≤ 60
  at_ : ∀ (i : Nat) (n : Int), l[i]? = some n → (0 ≤ n ∧ n ≤ 60) ∧ n - (6 + s.strain * (i : Int)) ≤ v ∧ v ≤ n + (6 + s.strain * (i : Int))
theorem hour_ok {s : Sd} (h : SdOk s) {f : List Mv} (hf : FieldIn s (fnL f)) {rd : List Int} {ks : List (Option Int)} (hrl : rd.length = s.tools.length) (hk : ks.length = s.tools.length) (hm : ∀ (j : Nat) (t : Tl) (r : Int), s.tools[j]? = some t → rd[j]? = some r → Made s f ks j t r) :
    SdOk { s with reads := rd } ∧ okS { s with reads := rd } (freeL { s with reads := rd }) = true ∧ (∀ p ∈ knL { s with reads := rd }, -30 ≤ p.x.lo ∧ p.x.lo ≤ p.x.hi ∧ p.x.hi ≤ 30) ∧ HourOk s ((knL { s with reads := rd }).map midN) ((fnL f 0).1 + 30) := by
  obtain ⟨hz, ha, _, _⟩ := truth_law h hf hrl hk hm
  have hok : okS { s with reads := rd } (freeL { s with reads := rd }) = true := (ok_iff (s := { s with reads := rd }) (by have := h.spots.1; exact this)).2 ⟨fnL f, ha⟩
  have hst := h.strain
  have hat : ∀ (i : Nat) (q : Sp), (knL { s with reads := rd })[i]? = some q → ∃ p, s.spots[i]? = some p ∧ i < s.spots.length ∧ q = learnN { s with reads := rd } i := fun i q hq => by
    have hl := (List.getElem?_eq_some_iff.1 hq).1
    have hl2 : i < s.spots.length := by
      have e : (knL { s with reads := rd }).length = s.spots.length := knK_len _ _
      omega
    rw [knL_at (s := { s with reads := rd }) hl2] at hq
    injection hq with hq
    exact ⟨_, List.getElem?_eq_getElem hl2, hl2, hq.symm⟩
  have hbd : ∀ (i : Nat) (q : Sp), (knL { s with reads := rd })[i]? = some q → i < s.spots.length ∧ -30 ≤ q.x.lo ∧ q.x.lo ≤ (fnL f i).1 ∧ (fnL f i).1 ≤ q.x.hi ∧ q.x.hi ≤ 30 ∧ q.x.hi ≤ q.x.lo + 12 := fun i q hq => by
    obtain ⟨p, hp, hl2, rfl⟩ := hat i q hq
    have h1 := learn_in hok hz (k := i) (p := p) hp
    have h2 := learn_has (s := { s with reads := rd }) ha (i := i) hl2
    have h3 := (h.spot p (List.mem_of_getElem? hp)).1
    unfold rgOk at h3
    refine ⟨hl2, ?_⟩
    omega
  refine ⟨hz, hok, fun p hp => ?_, ?_, ?_, ?_⟩
  · obtain ⟨i, hi⟩ := List.mem_iff_getElem?.1 hp
    have := hbd i p hi
    omega
  · rw [List.length_map]
    exact knK_len _ _
  · obtain ⟨q, hq⟩ : ∃ q, (knL { s with reads := rd })[0]? = some q := ⟨_, List.getElem?_eq_getElem (by have e : (knL { s with reads := rd }).length = s.spots.length := knK_len _ _; have := h.spots; omega)⟩
    have := hbd 0 q hq
    omega
  · intro i n hn
    rw [List.getElem?_map] at hn
    obtain ⟨q, hq, rfl⟩ := Option.map_eq_some_iff.1 hn
    have h1 := hbd i q hq
    have h2 := chain_x hf hst.1 i h1.1
    have h3 : midN q = (q.x.lo + 30 + q.x.hi + 30) / 2 := rfl
    generalize s.strain * (i : Int) = p at *
    rw [h3]
    omega
/-- The post of a survey. -/
def postW (s : Sd) (fall out : Nat) : Po := ⟨(List.range s.spots.length).map fun i => 6 + s.strain * (i : Nat), 1 + (fall % 60 : Nat), (out % 5 : Nat), 60, 60, 1⟩
theorem postW_at (s : Sd) (fall out : Nat) {i : Nat} (hi : i < s.spots.length) : (postW s fall out).es[i]? = some (6 + s.strain * (i : Nat)) := by
  unfold postW
  rw [List.getElem?_map, List.getElem?_range hi]
  rfl
theorem postW_len (s : Sd) (fall out : Nat) : (postW s fall out).es.length = s.spots.length := by
  unfold postW
  rw [List.length_map, List.length_range]
theorem postW_ok {s : Sd} (h : SdOk s) (fall out : Nat) : PoOk (postW s fall out) := by
  have h1 := h.spots
  have h2 := h.strain
  refine ⟨by rw [postW_len]; omega, by rw [postW_len]; omega, fun e he => ?_, ?_, ?_, .inl ⟨rfl, rfl, rfl⟩⟩
  · obtain ⟨i, hi, rfl⟩ := List.mem_map.1 he
    have hi := List.mem_range.1 hi
    have h3 : s.strain * (i : Nat) ≤ 60 * (i : Nat) := Int.mul_le_mul_of_nonneg_right h2.2 (by omega)
    have h4 : 0 ≤ s.strain * (i : Nat) := Int.mul_nonneg h2.1 (by omega)
    omega
  · show 1 ≤ 1 + ((fall % 60 : Nat) : Int) ∧ 1 + ((fall % 60 : Nat) : Int) ≤ 60
    have := Nat.mod_lt fall (show 0 < 60 by decide)
    omega
  · show 0 ≤ ((out % 5 : Nat) : Int) ∧ ((out % 5 : Nat) : Int) ≤ 4
    have := Nat.mod_lt out (show 0 < 5 by decide)
    omega
/-- Hours. -/
def Hours (s : Sd) (R : List (List Int)) (vs : List Int) : Prop := vs.length = R.length ∧ ∀ (h : Nat) (l : List Int) (v : Int), R[h]? = some l → vs[h]? = some v → HourOk s l v
theorem Hours.app {s : Sd} {R : List (List Int)} {vs : List Int} (h : Hours s R vs) {l : List Int} {v : Int} (h1 : HourOk s l v) : Hours s (R ++ [l]) (vs ++ [v]) := by
  refine ⟨by rw [List.length_append, List.length_append, h.1]; rfl, fun k a b hk hb => ?_⟩
  by_cases e : k < R.length
  · rw [List.getElem?_append_left e] at hk
    rw [List.getElem?_append_left (by rw [h.1]; exact e)] at hb
    exact h.2 k a b hk hb
  · have hl := (List.getElem?_eq_some_iff.1 hk).1
    rw [List.length_append, List.length_singleton] at hl
    obtain rfl : k = R.length := by omega
    rw [List.getElem?_append_right (Nat.le_refl _), Nat.sub_self] at hk
    rw [← h.1, List.getElem?_append_right (Nat.le_refl _), Nat.sub_self] at hb
    simp only [List.getElem?_cons_zero, Option.some.injEq] at hk hb
    rw [← hk, ← hb]
    exact h1
theorem hours_rows {s : Sd} {R : List (List Int)} {vs : List Int} (h : Hours s R vs) (hn : R.length ≤ 60) (fall out : Nat) : RowsOk (postW s fall out) R := by
  refine ⟨hn, fun l hl => ?_, fun l hl n hm => ?_⟩
  · obtain ⟨k, hk⟩ := List.mem_iff_getElem?.1 hl
    obtain ⟨v, hv⟩ : ∃ v, vs[k]? = some v := ⟨_, List.getElem?_eq_getElem (by have h1 := (List.getElem?_eq_some_iff.1 hk).1; have h2 := h.1; omega)⟩
    rw [postW_len]
    exact (h.2 k l v hk hv).len
  · obtain ⟨k, hk⟩ := List.mem_iff_getElem?.1 hl
    obtain ⟨v, hv⟩ : ∃ v, vs[k]? = some v := ⟨_, List.getElem?_eq_getElem (by have h1 := (List.getElem?_eq_some_iff.1 hk).1; have h2 := h.1; omega)⟩
    obtain ⟨i, hi⟩ := List.mem_iff_getElem?.1 hm
    have := (h.2 k l v hk hv).at_ i n hi
    omega
theorem hours_true {s : Sd} {R : List (List Int)} {vs : List Int} (h : Hours s R vs) (fall out : Nat) : TrueAt (postW s fall out) R vs := by
  have hrow : ∀ (k : Nat) (v : Int), vs[k]? = some v → ∃ l, R[k]? = some l ∧ HourOk s l v := fun k v hv => by
    obtain ⟨l, hl⟩ : ∃ l, R[k]? = some l := ⟨_, List.getElem?_eq_getElem (by have h1 := (List.getElem?_eq_some_iff.1 hv).1; have h2 := h.1; omega)⟩
    exact ⟨l, hl, h.2 k l v hl hv⟩
  have hbd : ∀ v ∈ vs, 0 ≤ v ∧ v ≤ 60 := fun v hv => by
    obtain ⟨k, hk⟩ := List.mem_iff_getElem?.1 hv
    obtain ⟨l, _, hh⟩ := hrow k v hk
    exact hh.vb
  refine ⟨h.1, hbd, fun k v v' h1 h2 => ?_, fun v _ => .inl rfl, fun k l v hl hv => ?_⟩
  · have a := hbd v (List.mem_of_getElem? h1)
    have b := hbd v' (List.mem_of_getElem? h2)
    show v - 60 ≤ v' ∧ v' ≤ v + 60
    omega
  · have hh := h.2 k l v hl hv
    refine agN_law (by have := hh.vb; omega) fun i hi _ => ?_
    obtain ⟨n, hn⟩ : ∃ n, l[i]? = some n := ⟨_, List.getElem?_eq_getElem hi⟩
    rw [hn, postW_at s fall out (by rw [← hh.len]; exact hi)]
    exact (hh.at_ i n hn).2
/-- Whenever the speed is at least Fall, the level is Call in that hour and the Out hours before. -/
theorem call_level {p : Po} (hp : PoOk p) {vs : List Int} {S : List (Int × Int)} (hS : Holds vs S) {h k : Nat} {v : Int} {s : Int × Int} (hv : vs[h]? = some v) (hk : S[k]? = some s) (hkh : k ≤ h) (hout : (h : Int) - p.out ≤ k) (hf : p.fall ≤ v) (hu : ∃ u, vs[k]? = some u) : levelA p s.2 = 3 := by
  obtain ⟨u, hu⟩ := hu
  have h1 := hS k s u hk hu
  unfold levelA
  rw [if_pos]
  by_cases e : p.fall ≤ s.2
  · unfold leftA
    rw [if_pos e]
    exact hp.o.1
  · have h2 := leftA_few hp (v := s.2) (by omega)
    have hne : k ≠ h := fun e2 => by
      subst e2
      rw [hv] at hu
      injection hu with hu
      omega
    omega

end Go.Proofs.Ytpmafnifgegfbaa

namespace Go.Proofs.Ytpmafnifgegfbaa


/-- What a tool reads in an hour. -/
def readH (s : Sd) (f : List Mv) (ws : List Hlf) (h i : Nat) (t : Tl) : Int := sightN t (fnL f t.spot.toNat) - offN t s.day + wordK ws (7 * h + i) % (2 * offN t s.day + 1) + t.turn * (wordK ws (5 * h + i) % 5 - 2)
def readsH (s : Sd) (f : List Mv) (ws : List Hlf) (h : Nat) : List Int := (List.range s.tools.length).map fun i => match s.tools[i]? with
  | some t => readH s f ws h i t
  | none => 0
def ksH (s : Sd) (ws : List Hlf) (h : Nat) : List (Option Int) := (List.range s.tools.length).map fun i => match s.tools[i]? with
  | some t => if t.turn = 0 then none else some (2 - wordK ws (5 * h + i) % 5)
  | none => none
theorem readsH_len (s : Sd) (f : List Mv) (ws : List Hlf) (h : Nat) : (readsH s f ws h).length = s.tools.length := by
  unfold readsH
  rw [List.length_map, List.length_range]
theorem readsH_at {s : Sd} {f : List Mv} {ws : List Hlf} {h i : Nat} {t : Tl} (ht : s.tools[i]? = some t) : (readsH s f ws h)[i]? = some (readH s f ws h i t) := by
  unfold readsH
  rw [List.getElem?_map, List.getElem?_range (List.getElem?_eq_some_iff.1 ht).1]
  simp only [Option.map_some, ht]
theorem ksH_at {s : Sd} {ws : List Hlf} {h i : Nat} {t : Tl} (ht : s.tools[i]? = some t) : (ksH s ws h).getD i none = if t.turn = 0 then none else some (2 - wordK ws (5 * h + i) % 5) := by
  unfold ksH
  rw [List.getD_eq_getElem?_getD, List.getElem?_map, List.getElem?_range (List.getElem?_eq_some_iff.1 ht).1]
  simp only [Option.map_some, ht]
  rfl
theorem ksH_len (s : Sd) (ws : List Hlf) (h : Nat) : (ksH s ws h).length = s.tools.length := by
  unfold ksH
  rw [List.length_map, List.length_range]
theorem made_hour {s : Sd} (h : SdOk s) {f : List Mv} {ws : List Hlf} {k : Nat} (hin : ∀ (i : Nat) (r : Int), i < s.tools.length → (readsH s f ws k)[i]? = some r → -1000 ≤ r ∧ r ≤ 1000) : ∀ (j : Nat) (t : Tl) (r : Int), s.tools[j]? = some t → (readsH s f ws k)[j]? = some r → Made s f (ksH s ws k) j t r := by
  intro j t r ht hr
  have hb := hin j r (List.getElem?_eq_some_iff.1 ht).1 hr
  have hto := h.tool t (List.mem_of_getElem? ht)
  have ho := off_bd hto h.day.1 h.day.2
  rw [readsH_at ht] at hr
  injection hr with hr
  refine ⟨hb, -offN t s.day + wordK ws (7 * k + j) % (2 * offN t s.day + 1), ?_, ?_⟩
  · have h1 := Int.emod_nonneg (wordK ws (7 * k + j)) (show 2 * offN t s.day + 1 ≠ 0 by omega)
    have h2 := Int.emod_lt_of_pos (wordK ws (7 * k + j)) (show 0 < 2 * offN t s.day + 1 by omega)
    omega
  · rw [ksH_at ht]
    unfold readH at hr
    by_cases e : t.turn = 0
    · left
      refine ⟨e, by rw [if_pos e], ?_⟩
      rw [e, Int.zero_mul] at hr
      omega
    · right
      refine ⟨e, _, by rw [if_neg e], ?_⟩
      have e2 : t.turn * (wordK ws (5 * k + j) % 5 - 2) = -((2 - wordK ws (5 * k + j) % 5) * t.turn) := by
        rw [← Int.neg_mul, Int.mul_comm, show -(2 - wordK ws (5 * k + j) % 5) = wordK ws (5 * k + j) % 5 - 2 by omega]
      rw [e2] at hr
      omega
/-- A list whose first entries are laid anew. -/
def mixL (a l : List Int) (i : Nat) : List Int := a.take i ++ l.drop i
theorem mixL_len {a l : List Int} (h : a.length = l.length) (i : Nat) : (mixL a l i).length = l.length := by
  unfold mixL
  rw [List.length_append, List.length_take, List.length_drop]
  omega
theorem mixL_zero (a l : List Int) : mixL a l 0 = l := by simp [mixL]
theorem mixL_all {a l : List Int} (h : a.length = l.length) : mixL a l l.length = a := by
  unfold mixL
  rw [← h, List.take_length, h, List.drop_length, List.append_nil]
theorem mixL_set {a l : List Int} (h : a.length = l.length) {i : Nat} {v : Int} (hv : a[i]? = some v) : (mixL a l i).set i v = mixL a l (i + 1) := by
  have hi := (List.getElem?_eq_some_iff.1 hv).1
  apply List.ext_getElem?
  intro j
  unfold mixL
  rw [List.getElem?_set, List.length_append, List.length_take, List.length_drop, List.getElem?_append, List.getElem?_append, List.length_take, List.length_take, List.getElem?_take, List.getElem?_take, List.getElem?_drop, List.getElem?_drop]
  by_cases e : i = j
  · subst e
    rw [if_pos rfl, if_pos (by omega), if_pos (by omega), if_pos (by omega), hv]
  · rw [if_neg e]
    by_cases e1 : j < i
    · rw [if_pos (by omega), if_pos e1, if_pos (by omega), if_pos (by omega)]
    · rw [if_neg (by omega), if_neg (by omega)]
      congr 1
      omega
theorem mixL_at {a l : List Int} {i : Nat} {v : Int} (hv : a[i]? = some v) : (mixL a l (i + 1))[i]? = some v := by
  have hi := (List.getElem?_eq_some_iff.1 hv).1
  unfold mixL
  rw [List.getElem?_append_left (by rw [List.length_take]; omega), List.getElem?_take, if_pos (by omega), hv]
/-- What an hour comes to. -/
theorem hour_all {s : Sd} (h : SdOk s) {f : List Mv} (hf : FieldIn s (fnL f)) {ws : List Hlf} {k : Nat} (hin : ∀ (i : Nat) (r : Int), i < s.tools.length → (readsH s f ws k)[i]? = some r → -1000 ≤ r ∧ r ≤ 1000) :
    (learnE { s with reads := readsH s f ws k } = 0 ∧ learnL { s with reads := readsH s f ws k } = knL { s with reads := readsH s f ws k }) ∧ (∀ p ∈ knL { s with reads := readsH s f ws k }, -30 ≤ p.x.lo ∧ p.x.lo ≤ p.x.hi ∧ p.x.hi ≤ 30) ∧ HourOk s ((knL { s with reads := readsH s f ws k }).map midN) ((fnL f 0).1 + 30) := by
  obtain ⟨h1, h2, h3, h4⟩ := hour_ok h hf (readsH_len s f ws k) (ksH_len s ws k) (made_hour h hin)
  exact ⟨learn_yes h1 h2, h3, h4⟩

end Go.Proofs.Ytpmafnifgegfbaa

namespace Go.Proofs.Ytpmafnifgegfbaa
open Go.RowKit Go.Shelf Go.Deep

theorem row_grown2 {α : Type} {enc : α → List Value} {s : Nat} {w w' : World} {A : Option Addr} {l : List α} {o1 o2 : Option Nat} (h : Row enc s w w.heap.size A l) (hg : Grown2 w w' o1 o2) (h1 : ∀ ad, A = some ad → o1 ≠ some ad.block) (h2 : ∀ ad, A = some ad → o2 ≠ some ad.block) : Row enc s w' w'.heap.size A l := by
  intro hl
  obtain ⟨b, off, rfl, hb, hc⟩ := h hl
  have hk := hg.block b hb (fun e => h1 _ rfl e.symm) (fun e => h2 _ rfl e.symm)
  refine ⟨b, off, rfl, Nat.lt_of_lt_of_le hb hg.size, fun i y hy j u hu => ?_⟩
  rw [cell_of_same hk]
  exact hc i y hy j u hu
/-- Hours that are laid: the rows, the speeds. -/
structure HrJ (s : Sd) (w : World) (k : Nat) (A1 : Option Addr) (c1 : Nat) (A2 : Option Addr) (c2 : Nat) (us : List Ln) (R : List (List Int)) (vs : List Int) (W : World) : Prop where
  nw : newer w W
  lk : LkJ w.heap.size R us A1 c1 W
  un : us.length = k
  rn : R.length = k
  sp : W.ownsRow w.heap.size 3 1 (.slice A2 k c2) k (vs.map vi)
  ap : ∀ x ∈ us, ∀ ad, x.a = some ad → own1 A2 k c2 ≠ some ad.block
  hr : Hours s R vs
theorem HrJ.start (s : Sd) (w : World) : HrJ s w 0 none 0 none 0 [] [] [] w := ⟨newer_refl _, LkJ.none _ _, rfl, rfl, ⟨rfl, .inl ⟨rfl, rfl⟩⟩, (fun x hx => by cases hx), ⟨rfl, fun h l v hl => by simp at hl⟩⟩
section
variable {s : Sd} {w : World} {k : Nat} {A1 : Option Addr} {c1 : Nat} {A2 : Option Addr} {c2 : Nat} {us : List Ln} {R : List (List Int)} {vs : List Int} {W X : World}
theorem HrJ.next (h : HrJ s w k A1 c1 A2 c2 us R vs W) (hb : newer W X) : HrJ s w k A1 c1 A2 c2 us R vs X := ⟨newer_trans h.nw hb, h.lk.next hb, h.un, h.rn, own_below h.sp hb, h.ap, h.hr⟩
theorem HrJ.o1 (h : HrJ s w k A1 c1 A2 c2 us R vs W) : W.ownsRow w.heap.size 24 1 (.slice A1 k c1) k (us.flatMap lnL) := by
  have h1 := h.lk.own
  rw [h.un] at h1
  exact h1
theorem HrJ.irows (h : HrJ s w k A1 c1 A2 c2 us R vs W) : IRows R A1 W := LksAt.irows (row_of_own (enc := lnL) (size := 1) (by decide) (fun _ => rfl) h.lk.own) h.lk.sin h.lk.eq
theorem HrJ.low (h : HrJ s w k A1 c1 A2 c2 us R vs W) : (∀ q, own1 A1 k c1 = some q → q < W.heap.size) ∧ ∀ q, own1 A2 k c2 = some q → q < W.heap.size := ⟨fun q hq => own_lt h.o1 q hq, fun q hq => own_lt h.sp q hq⟩
/-- One hour more. -/
theorem HrJ.app (h : HrJ s w k A1 c1 A2 c2 us R vs X) {l : List Int} {A3 : Option Addr} {c3 B8 g1 g2 d1 d2 : Nat} {v : Int} (hrow : X.ownsRow B8 3 1 (.slice A3 l.length c3) l.length (l.map vi)) (hlo : w.heap.size ≤ B8)
    (h1 : ∀ q, own1 A1 k c1 = some q → q < B8) (h2 : ∀ q, own1 A2 k c2 = some q → q < B8) (hv : HourOk s l v) (hg : Grown2 X W (own1 A1 k c1) (own1 A2 k c2))
    (r1 : W.ownsRow w.heap.size 24 1 (.slice (some ⟨g1, 0, none⟩) (k + 1) d1) (k + 1) (us.flatMap lnL ++ [.slice A3 l.length c3])) (r2 : W.ownsRow w.heap.size 3 1 (.slice (some ⟨g2, 0, none⟩) (k + 1) d2) (k + 1) (vs.map vi ++ [vi v]))
    (l1 : own1 A1 k c1 = some g1 ∨ X.heap.size ≤ g1) (l2 : own1 A2 k c2 = some g2 ∨ X.heap.size ≤ g2) :
    HrJ s w (k + 1) (some ⟨g1, 0, none⟩) d1 (some ⟨g2, 0, none⟩) d2 (us ++ [⟨l, A3, c3⟩]) (R ++ [l]) (vs ++ [v]) W := by
  have hun := h.un
  have hall : ∀ x ∈ us ++ [(⟨l, A3, c3⟩ : Ln)], Row intL 1 X X.heap.size x.a x.l ∧ (∀ ad, x.a = some ad → w.heap.size ≤ ad.block) ∧ (∀ ad, x.a = some ad → ad.block < X.heap.size) ∧ (∀ ad, x.a = some ad → own1 A1 k c1 ≠ some ad.block) ∧ ∀ ad, x.a = some ad → own1 A2 k c2 ≠ some ad.block := fun x hx => by
    rcases List.mem_append.1 hx with hx | hx
    · exact ⟨h.lk.sin.ok x hx, h.lk.sin.hi x hx, h.lk.sin.lt x hx, fun ad had => by have h3 := h.lk.far x hx ad had; rw [hun] at h3; exact h3, h.ap x hx⟩
    · rw [List.mem_singleton.1 hx]
      have key : ∀ ad, A3 = some ad → B8 ≤ ad.block ∧ ad.block < X.heap.size := fun ad had => by
        subst had
        rcases hrow.2 with ⟨e, _⟩ | ⟨g, cap, cur, e, hb, hw, _⟩
        · cases e
        · injection e with e _ _
          injection e with e
          subst e
          exact ⟨hb, (Array.getElem?_eq_some_iff.1 hw).1⟩
      refine ⟨row_of_own (enc := intL) (size := 1) (by decide) (fun _ => rfl) (by rw [map_vi]; exact hrow), fun ad had => ?_, fun ad had => (key ad had).2, fun ad had e => ?_, fun ad had e => ?_⟩
      · have := (key ad had).1; omega
      · have := (key ad had).1; have := h1 _ e; omega
      · have := (key ad had).1; have := h2 _ e; omega
  have hlen : (us ++ [(⟨l, A3, c3⟩ : Ln)]).length = k + 1 := by rw [List.length_append, hun]; rfl
  refine ⟨?_, ⟨?_, ⟨fun x hx => row_grown2 (hall x hx).1 hg (hall x hx).2.2.2.1 (hall x hx).2.2.2.2, fun x hx => (hall x hx).2.1, fun x hx ad had => Nat.lt_of_lt_of_le ((hall x hx).2.2.1 ad had) hg.size⟩, fun x hx ad had e => ?_, ?_⟩, hlen, by rw [List.length_append, h.rn]; rfl, ?_, fun x hx ad had e => ?_, h.hr.app hv⟩
  · refine ⟨hg.os.trans h.nw.os, hg.tape.trans h.nw.tape, hg.output.trans h.nw.output, Nat.le_trans h.nw.size hg.size, fun q hq => (hg.block q (Nat.lt_of_lt_of_le hq h.nw.size) (fun e => ?_) (fun e => ?_)).trans (h.nw.block q hq)⟩
    · have := own_ge h.o1 q e.symm; omega
    · have := own_ge h.sp q e.symm; omega
  · rw [hlen, List.flatMap_append]
    exact r1
  · have e3 : g1 = ad.block := by rw [hlen] at e; simpa [Value.ownBlock] using e
    rcases l1 with l1 | l1
    · exact (hall x hx).2.2.2.1 ad had (by rw [l1, e3])
    · have := (hall x hx).2.2.1 ad had; omega
  · rw [List.map_append, h.lk.eq]
    rfl
  · rw [List.map_append]
    exact r2
  · have e3 : g2 = ad.block := by simpa [Value.ownBlock] using e
    rcases l2 with l2 | l2
    · exact (hall x hx).2.2.2.2 ad had (by rw [l2, e3])
    · have := (hall x hx).2.2.1 ad had; omega
end
/-- A survey whose reads are laid anew. -/
structure ToJ (y : Sm) (w : World) (xb : Nat) (sa : Option Addr) (sc : Nat) (ta : Option Addr) (tc : Nat) (ra : Option Addr) (rc : Nat) (a : List Int) (i : Nat) (W : World) : Prop where
  nw : newer w W
  bx : Whole W xb 40 #[.slice sa y.s.spots.length sc, vi y.s.strain, .slice ta y.s.tools.length tc, vi y.s.day, .slice ra y.s.reads.length rc]
  sp : W.ownsRow w.heap.size 56 4 (.slice sa y.s.spots.length sc) y.s.spots.length (y.s.spots.flatMap spL)
  tl : W.ownsRow w.heap.size 112 7 (.slice ta y.s.tools.length tc) y.s.tools.length (y.s.tools.flatMap tlL)
  rd : W.ownsRow w.heap.size 3 1 (.slice ra y.s.reads.length rc) y.s.reads.length ((mixL a y.s.reads i).map vi)
/-- The first reads are in range. -/
def InTo (a : List Int) (i : Nat) : Prop := ∀ (j : Nat) (r : Int), j < i → a[j]? = some r → -1000 ≤ r ∧ r ≤ 1000
theorem InTo.step {a : List Int} {i : Nat} {v : Int} (h : InTo a i) (hv : a[i]? = some v) (hb : -1000 ≤ v ∧ v ≤ 1000) : InTo a (i + 1) := fun j r hj hr => by
  by_cases e : j = i
  · subst e
    rw [hv] at hr
    injection hr with hr
    omega
  · exact h j r (by omega) hr
section
variable {y : Sm} {w : World} {xb : Nat} {sa : Option Addr} {sc : Nat} {ta : Option Addr} {tc : Nat} {ra : Option Addr} {rc : Nat} {a : List Int} {i : Nat} {W W' : World}
theorem ToJ.next (h : ToJ y w xb sa sc ta tc ra rc a i W) (hb : newer W W') : ToJ y w xb sa sc ta tc ra rc a i W' := ⟨newer_trans h.nw hb, h.bx.below hb h.bx.lt, own_below h.sp hb, own_below h.tl hb, own_below h.rd hb⟩
theorem ToJ.set (h : ToJ y w xb sa sc ta tc ra rc a i W) {g : Nat} {v : Int} (he : ra = some ⟨g, 0, none⟩) (hv : a[i]? = some v) (hl : a.length = y.s.reads.length) : ToJ y w xb sa sc ta tc ra rc a (i + 1) (W.setCell ⟨g, i, none⟩ (vi v)) := by
  subst he
  have hgb : w.heap.size ≤ g := own_ge h.rd g rfl
  have hfar : ∀ {e : TypeId} {q n : Nat} {u : Value} {ys : List Value}, W.ownsRow w.heap.size e q u n ys → e ≠ 3 → (W.setCell ⟨g, i, none⟩ (vi v)).ownsRow w.heap.size e q u n ys := fun hv hne => own_set hv (fun e2 => own_own_ne hv h.rd hne g e2 rfl) _
  refine ⟨h.nw.setCell (p := ⟨g, i, none⟩) hgb _, h.bx.far (p := ⟨g, i, none⟩) (fun e => own_ne h.rd h.bx (by decide) (by rw [e]; rfl)) _, hfar h.sp (by decide), hfar h.tl (by decide), ?_⟩
  have h1 := own_setAt (off := i) (u := vi v) h.rd
  rw [← List.map_set, mixL_set hl hv] at h1
  exact h1
/-- The survey that it comes to. -/
theorem ToJ.ok (h : ToJ y w xb sa sc ta tc ra rc a y.s.reads.length W) (hl : a.length = y.s.reads.length) : SmOk ⟨{ y.s with reads := a }, sa, sc, ta, tc, ra, rc⟩ W :=
  ⟨row_of_own (enc := spL) (size := 4) (by decide) (fun _ => rfl) h.sp, row_of_own (enc := tlL) (size := 7) (by decide) (fun _ => rfl) h.tl, by
    have h1 := h.rd
    rw [mixL_all hl, ← map_vi, ← hl] at h1
    exact row_of_own (enc := intL) (size := 1) (by decide) (fun _ => rfl) h1⟩
end
/-- A value appended. -/
def vApp (t b H m : Nat) (o : Option Nat) (ys : List Value) (u v : Value) (W : World) : Prop := ∃ g c', v = .slice (some ⟨g, 0, none⟩) (m + 1) c' ∧ W.ownsRow b t 1 (.slice (some ⟨g, 0, none⟩) (m + 1) c') (m + 1) (ys ++ [u]) ∧ (o = some g ∨ H ≤ g)
theorem vApp_st {t b H m : Nat} {o : Option Nat} {ys : List Value} {u : Value} : ∀ v W W', vApp t b H m o ys u v W → newer W W' → vApp t b H m o ys u v W' := fun _ _ _ ⟨g, c, h1, h2, h3⟩ hb => ⟨g, c, h1, own_below h2 hb, h3⟩
theorem vApp_off {t b H m : Nat} {o o' : Option Nat} {ys : List Value} {u v : Value} {W W' : World} (ho : ∀ q, o' = some q → q < H) (hne : ∀ q, o = some q → o' ≠ some q) (h : vApp t b H m o ys u v W) (hg : W.grownBy W' o') : vApp t b H m o ys u v W' := by
  obtain ⟨g, c', h1, h2, h4⟩ := h
  refine ⟨g, c', h1, own_off h2 hg fun q hq e => ?_, h4⟩
  have e3 : g = q := by simpa [Value.ownBlock] using hq
  rcases h4 with h4 | h4
  · exact hne q (by rw [← e3]; exact h4) e
  · have := ho q e; omega
/-- What the two appends hold, stage by stage. -/
structure ApH (b : Nat) (o1 o2 : Option Nat) (v1 v2 : Value) (m : Nat) (y1 y2 : List Value) (w : World) (s : Nat) (W : World) : Prop where
  gr : Grown2 w W o1 o2
  r1 : s = 0 → W.ownsRow b 24 1 v1 m y1
  r2 : s ≤ 1 → W.ownsRow b 3 1 v2 m y2
theorem ApH.next {b : Nat} {o1 o2 : Option Nat} {v1 v2 : Value} {m s : Nat} {y1 y2 : List Value} {w W W' : World} (h : ApH b o1 o2 v1 v2 m y1 y2 w s W) (hb : newer W W') : ApH b o1 o2 v1 v2 m y1 y2 w s W' := ⟨h.gr.next hb, fun e => own_below (h.r1 e) hb, fun e => own_below (h.r2 e) hb⟩
/-- Rows in new memory; states; speeds. -/
def vCop (R : List (List Int)) (v : Value) (W : World) : Prop := ∃ B d, v = .slice B R.length d ∧ IRows R B W
theorem vCop_st {R : List (List Int)} : ∀ v W W', vCop R v W → newer W W' → vCop R v W' := fun _ _ _ ⟨B, d, h1, h2⟩ hb => ⟨B, d, h1, h2.next hb⟩
def StOk (p : Po) (R : List (List Int)) (vs : List Int) (B : Option Addr) (Z : List (Int × Int)) (W : World) : Prop := Row (stL p) 3 W W.heap.size B Z ∧ Z.length = R.length ∧ Holds vs Z
theorem StOk.next {p : Po} {R : List (List Int)} {vs : List Int} {B : Option Addr} {Z : List (Int × Int)} {W W' : World} (h : StOk p R vs B Z W) (hb : newer W W') : StOk p R vs B Z W' := ⟨(h.1.below hb).more hb.size, h.2⟩
def vLev (p : Po) (R : List (List Int)) (vs : List Int) (v : Value) (W : World) : Prop := ∃ Z B d, v = .tuple #[.slice B Z.length d, vi 0] ∧ StOk p R vs B Z W
theorem vLev_st {p : Po} {R : List (List Int)} {vs : List Int} : ∀ v W W', vLev p R vs v W → newer W W' → vLev p R vs v W' := fun _ _ _ ⟨Z, B, d, h1, h2⟩ hb => ⟨Z, B, d, h1, h2.next hb⟩
def vLv (p : Po) (R : List (List Int)) (vs : List Int) (v : Value) (W : World) : Prop := ∃ Z B d, v = .slice B Z.length d ∧ StOk p R vs B Z W
theorem vLv_st {p : Po} {R : List (List Int)} {vs : List Int} : ∀ v W W', vLv p R vs v W → newer W W' → vLv p R vs v W' := fun _ _ _ ⟨Z, B, d, h1, h2⟩ hb => ⟨Z, B, d, h1, h2.next hb⟩
def vSpd (vs : List Int) (v : Value) (W : World) : Prop := ∃ B d, v = .slice B vs.length d ∧ Row intL 1 W W.heap.size B vs
theorem vSpd_st {vs : List Int} : ∀ v W W', vSpd vs v W → newer W W' → vSpd vs v W' := fun _ _ _ ⟨B, d, h1, h2⟩ hb => ⟨B, d, h1, (h2.below hb).more hb.size⟩
theorem rowSt {p : Po} {w : World} {B : Nat} {A : Option Addr} {Z : List (Int × Int)} (h : Row (stL p) 3 w B A Z) {k : Nat} {c : Int × Int} (hk : Z[k]? = some c) :
    ∃ b off, A = some ⟨b, off, none⟩ ∧ b < B ∧ w.cell? ⟨b, off + k * 3, none⟩ = some (vi c.1) ∧ w.cell? ⟨b, off + k * 3 + 1, none⟩ = some (vi c.2) ∧ w.cell? ⟨b, off + k * 3 + 2, none⟩ = some (.int .u8 (levelA p c.2)) := by
  obtain ⟨b, off, e, hb, hc⟩ := h (ne_nil_of_get hk)
  exact ⟨b, off, e, hb, hc k c hk 0 _ rfl, hc k c hk 1 _ rfl, hc k c hk 2 _ rfl⟩
theorem inBH_yes {v a b : Int} (h : inB v a b = true) : a ≤ v ∧ v ≤ b := by
  unfold inB at h
  rw [Bool.and_eq_true, decide_eq_true_eq, decide_eq_true_eq] at h
  exact h

end Go.Proofs.Ytpmafnifgegfbaa
