/- What a look at a survey holds. -/
import Derived.Test.YtpmafnifgegfbaaR
import Derived.Test.YtpmafnifgegfbaaI
namespace Go.Proofs.Ytpmafnifgegfbaa
open Go.RowKit Go.Shelf Go.Deep

open Go.ChangeMaps (setBlock)
/-- A movement comes into the set of a spot. -/
def comeB (s : Sd) (ks : List (Option Int)) (i : Nat) (m : Mv) : Bool := mayB s ks i m && (decide (i = 0) || (fwS s ks (i - 1)).any fun o => nearB s.strain o m)
theorem fwS_at {s : Sd} {ks : List (Option Int)} {i : Nat} {p : Sp} (h : s.spots[i]? = some p) : fwS s ks i = (movesL p).filter (comeB s ks i) := by
  have hc : candB s ks i = (movesL p).filter (mayB s ks i) := by unfold candB; rw [h]
  cases i with
  | zero =>
    unfold fwS
    rw [fwL, hc]
    apply List.filter_congr
    intro m _
    simp [comeB]
  | succ i =>
    unfold fwS
    rw [fwL, hc, List.filter_filter]
    apply List.filter_congr
    intro m _
    unfold comeB
    rw [Bool.and_comm]
    simp [fwS]
theorem fw_bd {s : Sd} (hs : SdOk s) {ks : List (Option Int)} {i : Nat} (hi : i < s.spots.length) {m : Mv} (hm : m ∈ fwS s ks i) : (-30 ≤ m.1 ∧ m.1 ≤ 30) ∧ -30 ≤ m.2 ∧ m.2 ≤ 30 := by
  obtain ⟨p, hp⟩ : ∃ p, s.spots[i]? = some p := ⟨_, List.getElem?_eq_getElem hi⟩
  rw [fwS_at hp] at hm
  exact moves_bd hs hp (List.mem_filter.1 hm).1
theorem alive_last {s : Sd} {ks : List (Option Int)} (h : 0 < s.spots.length) : aliveS s ks (s.spots.length - 1) = fwS s ks (s.spots.length - 1) := by
  unfold aliveS fwS
  rw [show s.spots.length - 1 - (s.spots.length - 1) = 0 by omega, bwL]
theorem alive_step {s : Sd} {ks : List (Option Int)} {i : Nat} (h : i + 1 < s.spots.length) : aliveS s ks i = (fwS s ks i).filter fun m => (aliveS s ks (i + 1)).any fun o => nearB s.strain o m := by
  unfold aliveS fwS
  rw [show s.spots.length - 1 - i = (s.spots.length - 1 - (i + 1)) + 1 by omega, bwL, show s.spots.length - 1 - (s.spots.length - 1 - (i + 1) + 1) = i by omega]
theorem alive_fw {s : Sd} {ks : List (Option Int)} {i : Nat} (h : i < s.spots.length) {m : Mv} (hm : m ∈ aliveS s ks i) : m ∈ fwS s ks i := by
  by_cases e : i + 1 < s.spots.length
  · rw [alive_step e] at hm
    exact (List.mem_filter.1 hm).1
  · obtain rfl : i = s.spots.length - 1 := by omega
    rw [alive_last (by omega)] at hm
    exact hm
abbrev mapL (m : Nat) : List Value := [.map (some m)]
theorem rowM {w : World} {B : Nat} {A : Option Addr} {l : List Nat} (h : Row mapL 1 w B A l) {k : Nat} {c : Nat} (hk : l[k]? = some c) :
    ∃ b off, A = some ⟨b, off, none⟩ ∧ b < B ∧ w.cell? ⟨b, off + k, none⟩ = some (.map (some c)) := by
  obtain ⟨b, off, e, hb, hc⟩ := h (ne_nil_of_get hk)
  exact ⟨b, off, e, hb, by simpa using hc k c hk 0 _ rfl⟩
theorem own_map {w : World} {base : Nat} {e : TypeId} {size n : Nat} {v : Value} {xs : List Value} {b : Nat} {K V : Type} {ek : K → Value} {ev : V → Value} {l : List (K × V)} (h : w.ownsRow base e size v n xs) (hm : KMap ek ev b l w) : v.ownBlock ≠ some b := by
  obtain ⟨es, k, h1, _⟩ := hm.len
  rcases h.2 with ⟨rfl, _⟩ | ⟨g, cap, cur, rfl, _, hg, _⟩
  · simp [Value.ownBlock]
  · intro e2
    have e3 : g = b := by simpa [Value.ownBlock] using e2
    rw [e3, h1] at hg
    injection hg with hg
    cases hg
theorem mark_map {Ds : List Nat} {W : World} (h : MarksOk Ds W) {b : Nat} {K V : Type} {ek : K → Value} {ev : V → Value} {l : List (K × V)} (hm : KMap ek ev b l W) : b ∉ Ds := fun hd => by
  obtain ⟨es, k, h1, _⟩ := hm.len
  rw [h.at_ b hd] at h1
  injection h1 with h1
  cases h1
theorem mark_own {Ds : List Nat} {W : World} (h : MarksOk Ds W) {base : Nat} {e : TypeId} {size n : Nat} {v : Value} {xs : List Value} (ho : W.ownsRow base e size v n xs) : ∀ q, v.ownBlock = some q → q ∉ Ds := fun q hq hd => by
  rcases ho.2 with ⟨rfl, _⟩ | ⟨g, cap, cur, rfl, _, hg, _⟩
  · simp [Value.ownBlock] at hq
  · have e3 : g = q := by simpa [Value.ownBlock] using hq
    rw [e3, h.at_ q hd] at hg
    injection hg with hg
    cases hg
abbrev mayV (b : Nat) : Value := .func (.func 92) #[.pointer (some ⟨b + 1, 0, none⟩)] #[]
/-- What 'at' holds: the sets of the first spots (all but the x-th are known). -/
structure AtL (y : Sm) (ks : List (Option Int)) (ka : Option Addr) (kc b i x : Nat) (Ls : Nat → List Mv) (ms Ds : List Nat) (A : Option Addr) (c : Nat) (w W : World) : Prop where
  nw : newer w W
  b0 : Whole W b 40 (smC y)
  lk : Whole W (b + 1) 126 (lkC y ka ks.length kc (.slice A i c))
  xv : Whole W (b + 1 + 1) 120 #[.pointer (some ⟨b + 1, 0, none⟩)]
  fv : Whole W (b + 1 + 1 + 1) 159 #[mayV b]
  ow : W.ownsRow (b + 4) 128 1 (.slice A i c) i (ms.flatMap mapL)
  ln : ms.length = i
  mp : ∀ (j m : Nat), ms[j]? = some m → j ≠ x → KMap mvV trV m (kvL (Ls j)) W
  ml : ∀ m ∈ ms, b + 4 ≤ m ∧ m < W.heap.size
  md : ∀ m ∈ ms, m ∉ Ds ∧ (Value.slice A i c).ownBlock ≠ some m
  nd : ms.Nodup
  mks : MarksOk Ds W
  dg : ∀ D ∈ Ds, b + 4 ≤ D
  wb : w.heap.size = b
/-- All blocks lie below N. -/
structure AtN (A : Option Addr) (i c : Nat) (ms Ds : List Nat) (b N : Nat) : Prop where
  a : ∀ q, (Value.slice A i c).ownBlock = some q → q < N
  m : ∀ m ∈ ms, m < N
  d : ∀ D ∈ Ds, D < N
  n : b + 4 ≤ N
section
variable {y : Sm} {ks : List (Option Int)} {ka : Option Addr} {kc b i x : Nat} {Ls : Nat → List Mv} {ms Ds : List Nat} {A : Option Addr} {c : Nat} {w W W' : World}
theorem AtL.lts (h : AtL y ks ka kc b i x Ls ms Ds A c w W) : AtN A i c ms Ds b W.heap.size := ⟨own_lt h.ow, fun m hm => (h.ml m hm).2, h.mks.lt, by have := h.fv.lt; omega⟩
theorem AtL.next (h : AtL y ks ka kc b i x Ls ms Ds A c w W) (hb : newer W W') : AtL y ks ka kc b i x Ls ms Ds A c w W' :=
  ⟨newer_trans h.nw hb, h.b0.below hb h.b0.lt, h.lk.below hb h.lk.lt, h.xv.below hb h.xv.lt, h.fv.below hb h.fv.lt, own_below h.ow hb, h.ln, fun j m hm hx => (h.mp j m hm hx).next hb, fun m hm => ⟨(h.ml m hm).1, Nat.lt_of_lt_of_le (h.ml m hm).2 hb.size⟩, h.md, h.nd, h.mks.next hb, h.dg, h.wb⟩
theorem AtL.far (h : AtL y ks ka kc b i x Ls ms Ds A c w W) {d : Nat} (hg : W.grownBy W' (some d)) (h1 : b + 4 ≤ d) (h2 : (Value.slice A i c).ownBlock ≠ some d) (h3 : ∀ j, ms[j]? = some d → j = x) (h4 : d ∉ Ds) : AtL y ks ka kc b i x Ls ms Ds A c w W' := by
  have ne : ∀ {x : Nat}, x < d → some x ≠ some d := fun h e => by injection e; omega
  refine ⟨Below.trans h.nw (below_of_grown hg (by rw [h.wb]; omega) h.nw.size), h.b0.grown hg (ne (by omega)), h.lk.grown hg (ne (by omega)), h.xv.grown hg (ne (by omega)), h.fv.grown hg (ne (by omega)), h.ow.kept hg (.inr h2), h.ln, fun j m hm hx => ?_, fun m hm => ⟨(h.ml m hm).1, Nat.lt_of_lt_of_le (h.ml m hm).2 hg.size⟩, h.md, h.nd, h.mks.grown hg h4, h.dg, h.wb⟩
  have hmp := h.mp j m hm hx
  exact hmp.same (hg.block m hmp.lt (fun e => by injection e with e; exact hx (h3 j (by rw [← e]; exact hm))))
theorem AtL.fresh (h : AtL y ks ka kc b i x Ls ms Ds A c w W) {N d : Nat} (hl : AtN A i c ms Ds b N) (hd : N ≤ d) (hg : W.grownBy W' (some d)) : AtL y ks ka kc b i x Ls ms Ds A c w W' := by
  have h1 := hl.n
  exact h.far hg (by omega) (fun e => by have := hl.a d e; omega) (fun j hj => by have := hl.m d (List.mem_of_getElem? hj); omega) (fun hm => by have := hl.d _ hm; omega)
theorem AtL.row (h : AtL y ks ka kc b i x Ls ms Ds A c w W) : Row mapL 1 W W.heap.size A ms := by
  have h1 := h.ow
  rw [← h.ln] at h1
  exact row_of_own (by omega) (fun _ => rfl) h1
/-- The x-th set turns. -/
theorem AtL.mapAt (h : AtL y ks ka kc b i x Ls ms Ds A c w W) {m : Nat} (hm : ms[x]? = some m) (hg : W.grownBy W' (some m)) : AtL y ks ka kc b i x Ls ms Ds A c w W' := by
  have h1 := List.mem_of_getElem? hm
  refine h.far hg (h.ml m h1).1 (h.md m h1).2 (fun j hj => ?_) (h.md m h1).1
  exact (List.getElem?_inj (List.getElem?_eq_some_iff.1 hj).1 h.nd).1 (hj.trans hm.symm)
/-- One set less is spoken of. -/
theorem AtL.less (h : AtL y ks ka kc b i x Ls ms Ds A c w W) (hx : ms.length ≤ x) (x' : Nat) : AtL y ks ka kc b i x' Ls ms Ds A c w W :=
  ⟨h.nw, h.b0, h.lk, h.xv, h.fv, h.ow, h.ln, fun j m hm _ => h.mp j m hm (by have := (List.getElem?_eq_some_iff.1 hm).1; omega), h.ml, h.md, h.nd, h.mks, h.dg, h.wb⟩
/-- The x-th set is known now. -/
theorem AtL.more (h : AtL y ks ka kc b i x Ls ms Ds A c w W) {Ls' : Nat → List Mv} (he : ∀ j, j < ms.length → j ≠ x → Ls' j = Ls j) {m : Nat} (hm : ms[x]? = some m) (hk : KMap mvV trV m (kvL (Ls' x)) W) (x' : Nat) : AtL y ks ka kc b i x' Ls' ms Ds A c w W :=
  ⟨h.nw, h.b0, h.lk, h.xv, h.fv, h.ow, h.ln, fun j q hq _ => by
    by_cases e : j = x
    · subst e
      rw [hm] at hq
      injection hq with hq
      rw [← hq]
      exact hk
    · rw [he j (List.getElem?_eq_some_iff.1 hq).1 e]
      exact h.mp j q hq e, h.ml, h.md, h.nd, h.mks, h.dg, h.wb⟩
end
/-- What the rounds over the movements of a spot hold. -/
structure AtB (y : Sm) (ks : List (Option Int)) (ka : Option Addr) (kc b i : Nat) (ms Ds : List Nat) (A : Option Addr) (c : Nat) (p : Sp) (ib nb mb cb D N : Nat) (L : List Mv) (r : Loop) (w W : World) : Prop where
  at_ : AtL y ks ka kc b i y.s.spots.length (fwS y.s ks) ms Ds A c w W
  ix : Whole W ib 3 #[vi i]
  nx : Whole W nb 128 #[.map (some mb)]
  cx : Whole W cb 56 (spC p)
  mx : KMap mvV trV mb (kvL L) W
  df : W.heap[D]? = some (.deferred (some []))
  lo : W.heap[D + 1]? = some (.loop r)
  lm : AtN A i c ms Ds b N
  so : N ≤ ib ∧ ib < nb ∧ nb < cb ∧ cb < D ∧ N ≤ mb ∧ mb < D
section
variable {y : Sm} {ks : List (Option Int)} {ka : Option Addr} {kc b i : Nat} {ms Ds : List Nat} {A : Option Addr} {c : Nat} {p : Sp} {ib nb mb cb D N : Nat} {L : List Mv} {r : Loop} {w W W' : World}
theorem AtB.next (h : AtB y ks ka kc b i ms Ds A c p ib nb mb cb D N L r w W) (hb : newer W W') : AtB y ks ka kc b i ms Ds A c p ib nb mb cb D N L r w W' :=
  ⟨h.at_.next hb, h.ix.below hb h.ix.lt, h.nx.below hb h.nx.lt, h.cx.below hb h.cx.lt, h.mx.next hb, (hb.block _ (Array.getElem?_eq_some_iff.1 h.df).1).trans h.df, (hb.block _ (Array.getElem?_eq_some_iff.1 h.lo).1).trans h.lo, h.lm, h.so⟩
theorem AtB.put (h : AtB y ks ka kc b i ms Ds A c p ib nb mb cb D N L r w W) (r' : Loop) : AtB y ks ka kc b i ms Ds A c p ib nb mb cb D N L r' w (W.putObj (D + 1) (.loop r')) := by
  have h3 := h.so
  have hD := (Array.getElem?_eq_some_iff.1 h.lo).1
  exact ⟨h.at_.fresh h.lm (by omega) (grown_putL _ _ _), h.ix.put (by omega) _, h.nx.put (by omega) _, h.cx.put (by omega) _, h.mx.same (World.putObj_heap_other (by omega)), (World.putObj_heap_other (by omega)).trans h.df, World.putObj_heap_same hD, h.lm, h.so⟩
/-- A movement was laid into the set. -/
theorem AtB.lay_ (h : AtB y ks ka kc b i ms Ds A c p ib nb mb cb D N L r w W) (ob : Obj) {L' : List Mv} (hm : KMap mvV trV mb (kvL L') (setBlock W mb ob)) : AtB y ks ka kc b i ms Ds A c p ib nb mb cb D N L' r w (setBlock W mb ob) := by
  have h3 := h.so
  have hg := grown_setBlock W mb ob
  obtain ⟨es, k, hes, _⟩ := h.mx.len
  have ne : ∀ {x : Nat} {t : TypeId} {cs : Array Value}, Whole W x t cs → some x ≠ some mb := fun hw e => by
    injection e with e
    unfold Whole at hw
    rw [e, hes] at hw
    injection hw with hw
    cases hw
  exact ⟨h.at_.fresh h.lm (by omega) hg, h.ix.grown hg (ne h.ix), h.nx.grown hg (ne h.nx), h.cx.grown hg (ne h.cx), hm, (hg.block _ (Array.getElem?_eq_some_iff.1 h.df).1 (fun e => by injection e; omega)).trans h.df, (hg.block _ (Array.getElem?_eq_some_iff.1 h.lo).1 (fun e => by injection e; omega)).trans h.lo, h.lm, h.so⟩
end

end Go.Proofs.Ytpmafnifgegfbaa
