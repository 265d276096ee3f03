/- What the last text of this chain needs: BD, AJ, AH2, BL, BT, BG, BU, BP. -/
import Derived.Test.YtcdhhfgpdokkoaaGreatZH05
namespace Go.Proofs.YtcdhhfgpdokkoaaGreat
section
open Go.RowKit Go.Shelf Go.Deep
def wE (s : Sd) : Int := match worstS s with
 | none => 7
 | some _ => 0
def wV (s : Sd) : Int := match worstS s with
 | none => 0
 | some (_, v) => v
theorem worst_of {s : Sd} (q : Option ((Nat × List Nat) × Int)) (h : worstS s = q) : (q = none /\ wE s = 7 /\ wV s = 0) ∨ ∃ u v, q = some (u, v) /\ wE s = 0 /\ wV s = v := by
 unfold wE wV
 rw [h]
 cases q with
 | none => exact .inl ⟨rfl, rfl, rfl⟩
 | some q => exact .inr ⟨_, _, rfl, rfl, rfl⟩
theorem worst_wet {s : Sd} (m : Int) : worstS (wetS s m) = worstR (hAt false (wetS s m)) (dAt s) s.n s.cols.length s.K := by
 unfold worstS
 rw [wet_drive, wet_n]
 have e1 : (wetS s m).cols.length = s.cols.length := by simp [wetS]
 rw [e1]
 rfl
theorem wet_less {s : Sd} (hs : SdOk s) {m m' : Nat} (h : m <= m') : wE (wetS s m) = wE (wetS s m') /\ wV (wetS s m') <= wV (wetS s m) := by
 have ok := wet_hd hs m
 have ok' := wet_hd hs m'
 rcases worst_of _ (worst_wet (s := s) m) with ⟨h1, h2, h3⟩ | ⟨u, v, h1, h2, h3⟩
 ·have h4 := (worst_none_iff ok').2 ((worst_none_iff ok).1 h1)
  rcases worst_of _ (worst_wet (s := s) m') with ⟨_, h5, h6⟩ | ⟨u, v, h5, _, _⟩
  ·omega
  ·rw [h4] at h5; cases h5
 ·obtain ⟨u', v', h4, h5⟩ := worst_weak ok ok' (fun k b => wet_hold hs (by omega) k b) (fun _ _ => Int.le_refl _) h1
  rcases worst_of _ (worst_wet (s := s) m') with ⟨h6, _, _⟩ | ⟨u2, v2, h6, h7, h8⟩
  ·rw [h4] at h6; cases h6
  ·rw [h4] at h6
   simp only [Option.some.injEq, Prod.mk.injEq] at h6
   omega
theorem low_w {s : Sd} (hs : SdOk s) {f : Int} (f0 : 0 <= f) (f1 : f <= 10000) (m : Nat) : (lowT (wetS s m) f (some false)).isSome = true ↔ wE (wetS s m) = 0 /\ wV (wetS s m) < f := by
 rw [lowW_is, low_worst (wet_hd hs m) f0 f1, <- worst_wet]
 rcases worst_of _ (rfl : worstS (wetS s m) = worstS (wetS s m)) with ⟨h1, h2, h3⟩ | ⟨u, v, h1, h2, h3⟩
 ·rw [h1, h2]
  constructor
  ·rintro ⟨u, v, h, _⟩
   cases h
  ·rintro ⟨h, _⟩
   cases h
 ·rw [h1, h2, h3]
  constructor
  ·rintro ⟨u', v', h, h4⟩
   simp only [Option.some.injEq, Prod.mk.injEq] at h
   exact ⟨rfl, by omega⟩
  ·rintro ⟨_, h⟩
   exact ⟨u, v, rfl, h⟩
theorem margin_says {s : Sd} (hs : SdOk s) {f : Int} (f0 : 0 <= f) (f1 : f <= 10000) : ∃ (m : Nat) (q : Int), marginOut s f = .tuple #[vi m, vi q] /\ ((q = 10 /\ wE s = 0 /\ wV s < f) ∨ (q = 0 /\ m <= 100000 /\ (wE (wetS s m) = 0 -> f <= wV (wetS s m)) /\ (m < 100000 -> wE (wetS s (m + 1 : Nat)) = 0 /\ wV (wetS s (m + 1 : Nat)) < f))) := by
 have ha : askedN s f = 0 := by
  unfold askedN
  rw [sdOk_iff.2 hs, show inB f 0 10000 = true by simp only [inB, Bool.and_eq_true, decide_eq_true_eq]; omega]
  rfl
 have hw := low_w hs f0 f1 0
 rw [show ((0 : Nat) : Int) = 0 from rfl, wet_zero hs] at hw
 cases hl : lowT s f (some false) with
 | some u =>
  have he : enoughN s f = 10 := by unfold enoughN; rw [if_pos ha, hl]; rfl
  rw [hl] at hw
  exact ⟨0, 10, by unfold marginOut; rw [if_neg (by rw [he]; decide), he]; rfl, .inl ⟨rfl, hw.1 rfl⟩⟩
 | none =>
  have he : enoughN s f = 0 := by unfold enoughN; rw [if_pos ha, hl]; rfl
  have h0 : lowF (hAt false (wetS s ((0 : Nat) : Int))) (dAt s) s.n s.cols.length s.K f = none := by rw [<- lowW_is, show ((0 : Nat) : Int) = 0 from rfl, wet_zero hs]; exact hl
  obtain ⟨g1, g2, g3⟩ := margin_is (hw := fun m : Nat => hAt false (wetS s m)) h0
  refine ⟨marginS s f, 0, by unfold marginOut; rw [if_pos he], .inr ⟨rfl, g1, fun h => ?_, fun h => ?_⟩⟩
  ·by_cases hlt : f <= wV (wetS s (marginS s f))
   ·exact hlt
   ·have h2 := (low_w hs f0 f1 (marginS s f)).2 ⟨h, by omega⟩
    rw [lowW_is] at h2
    have h3 : lowF (hAt false (wetS s (marginS s f))) (dAt s) s.n s.cols.length s.K f = none := g2
    rw [h3] at h2
    cases h2
  ·refine (low_w hs f0 f1 (marginS s f + 1)).1 ?_
   rw [lowW_is]
   exact g3 h
theorem row_nats {w : World} {B : Nat} {A : Option Addr} {c : Nat} {l : List Nat} {L : List Int} (hL : L = l.map fun x : Nat => (x : Int)) (h : w.ownsRow B 3 1 (.slice A l.length c) l.length (l.map fun x : Nat => vi x)) : L.length = l.length /\ Row intL 1 w w.heap.size A L := by
 have e2 : L.length = l.length := by rw [hL, List.length_map]
 have e1 : (l.map fun x : Nat => vi x) = L.flatMap intL := by rw [hL, <- map_intL, List.map_map]; rfl
 rw [e1, <- e2] at h
 exact ⟨e2, row_of_own (enc := intL) (size := 1) (by omega) (fun _ => rfl) h⟩
end

section
open Go.RowKit Go.Shelf Go.Deep
def spanE (s : Sd) (frm : Int) (l : List Int) : Int := if checkUN s frm l = 0 then (if dK (bedsU s frm l) (bedsU s frm l).length < 1 then 7 else 0) else checkUN s frm l
def spanP (s : Sd) (frm : Int) (l : List Int) (hi : Bool) : Int := if spanE s frm l = 0 then facE (bedsU s frm l) hi else 0
def vSlo (d : Sd) (v : Value) (W : World) : Prop := ∃ s : Sm, v = smV s /\ s.sd = d /\ SmOk s W
theorem vSlo_st {d : Sd} : ∀ v W W', vSlo d v W -> newer W W' -> vSlo d v W' := fun _ _ _ ⟨s, h1, h2, h3⟩ hb => ⟨s, h1, h2, h3.next hb⟩
def vSuf (frm : Int) (l : List Int) (v : Value) (W : World) : Prop := ∃ u : Su, v = suV u /\ u.frm = frm /\ u.beds = l /\ SuOk u W
theorem vSuf_st {frm : Int} {l : List Int} : ∀ v W W', vSuf frm l v W -> newer W W' -> vSuf frm l v W' := fun _ _ _ ⟨u, h1, h2, h3, h4⟩ hb => ⟨u, h1, h2, h3, h4.next hb⟩
theorem few_sd {s s2 : Sm} (h : s2.sd = s.sd) (f : SmFew s) : SmFew s2 := by
 have hc : s2.cs.map (fun x => x.beds) = s.cs.map (fun x => x.beds) := congrArg Sd.cols h
 refine ⟨by have := congrArg List.length hc; simp at this; rw [this]; exact f.cs, fun x hx => ?_⟩
 have hm : x.beds ∈ s.cs.map (fun x => x.beds) := by rw [<- hc]; exact List.mem_map.2 ⟨x, hx, rfl⟩
 obtain ⟨y, hy, hxy⟩ := List.mem_map.1 hm
 rw [<- hxy]
 exact f.bd y hy
end

section
open Go.RowKit Go.Shelf Go.Deep
theorem hK_cons (x : Bd) (bs : List Bd) (tr : Nat -> Rl) : ∀ m, hK (x :: bs) tr (m + 1) = holdsN x (tr 0) + hK bs (fun i => tr (i + 1)) m
 | 0 => by simp [hK, List.getD]
 | m + 1 => by
  rw [hK, hK_cons x bs tr m]
  simp [hK, List.getD]
  omega
theorem dK_cons (x : Bd) (bs : List Bd) : ∀ m, dK (x :: bs) (m + 1) = x.drive + dK bs m
 | 0 => by simp [dK, List.getD]
 | m + 1 => by
  rw [dK, dK_cons x bs m]
  simp [dK, List.getD]
  omega
theorem hK_sum (s : Sd) (hi : Bool) : ∀ (l : List Nat) (k : Nat), hK (bedsL s.cols k l) (fun i => endR hi ((bedsL s.cols k l).getD i zeroBd)) l.length = sumH (hAt hi s) k l
 | [], _ => rfl
 | b :: t, k => by
  show hK (bdAt s.cols k b :: bedsL s.cols (k + 1) t) (fun i => endR hi ((bdAt s.cols k b :: bedsL s.cols (k + 1) t).getD i zeroBd)) (t.length + 1) = hAt hi s k b + sumH (hAt hi s) (k + 1) t
  rw [hK_cons]
  have ih := hK_sum s hi t (k + 1)
  have e : holdsN (bdAt s.cols k b) (endR hi (bdAt s.cols k b)) = hAt hi s k b := by
   unfold bdAt hAt
   cases bedAt s.cols k b with
   | none => cases hi <;> decide
   | some x => rfl
  simp only [List.getD_cons_zero, List.getD_cons_succ]
  rw [ih, e]
theorem dK_sum (s : Sd) : ∀ (l : List Nat) (k : Nat), dK (bedsL s.cols k l) l.length = sumH (dAt s) k l
 | [], _ => rfl
 | b :: t, k => by
  show dK (bdAt s.cols k b :: bedsL s.cols (k + 1) t) (t.length + 1) = dAt s k b + sumH (dAt s) (k + 1) t
  rw [dK_cons, dK_sum s t (k + 1)]
  have e : (bdAt s.cols k b).drive = dAt s k b := by
   unfold bdAt dAt
   cases bedAt s.cols k b with
   | none => rfl
   | some x => rfl
  rw [e]
end

section
open Go.RowKit Go.Shelf Go.Deep
theorem hK_le {bs : List Bd} {tr tr' : Nat -> Rl} : ∀ k, (∀ i, i < k -> holdsN (bs.getD i zeroBd) (tr i) <= holdsN (bs.getD i zeroBd) (tr' i)) -> hK bs tr k <= hK bs tr' k
 | 0, _ => Int.le_refl _
 | k + 1, h => by
  have h1 := hK_le (bs := bs) (tr := tr) (tr' := tr') k (fun i hi => h i (by omega))
  have h2 := h k (by omega)
  simp only [hK]
  omega
theorem hK_eq {bs : List Bd} {tr tr' : Nat -> Rl} (k : Nat) (h : ∀ i, i < k -> tr i = tr' i) : hK bs tr k = hK bs tr' k :=
 Int.le_antisymm (hK_le k (fun i hi => by rw [h i hi]; exact Int.le_refl _)) (hK_le k (fun i hi => by rw [h i hi]; exact Int.le_refl _))
theorem ends_get {bs : List Bd} {hi : Bool} {i : Nat} (h : i < bs.length) : (bs.map (endR hi)).getD i ⟨0, 0, 0⟩ = endR hi (bs.getD i zeroBd) := by
 obtain ⟨b, hb⟩ := get_of_lt h
 simp [List.getD, hb]
theorem ends_fit {bs : List Bd} (hb : ∀ b ∈ bs, bdB b = true) (hi : Bool) : fitsA bs (bs.map (endR hi)) = true := by
 refine fitsA_iff.2 ⟨by rw [List.length_map], fun i h => ?_⟩
 obtain ⟨b, hb2⟩ := get_of_lt h
 rw [ends_get h]
 have hge : bs.getD i zeroBd = b := by simp [List.getD, hb2]
 rw [hge]
 exact fit_end (hb b (List.mem_of_getElem? hb2)) hi
theorem fits_hK {bs : List Bd} (hb : ∀ b ∈ bs, bdB b = true) {tl : List Rl} (hf : fitsA bs tl = true) : hK bs (fun i => endR false (bs.getD i zeroBd)) bs.length <= hK bs (fun i => tl.getD i ⟨0, 0, 0⟩) bs.length /\ hK bs (fun i => tl.getD i ⟨0, 0, 0⟩) bs.length <= hK bs (fun i => endR true (bs.getD i zeroBd)) bs.length := by
 have h := (fitsA_iff.1 hf).2
 have h1 : ∀ i, i < bs.length -> bdB (bs.getD i zeroBd) = true := fun i hi => by
  obtain ⟨b, hb2⟩ := get_of_lt hi
  have hge : bs.getD i zeroBd = b := by simp [List.getD, hb2]
  rw [hge]
  exact hb b (List.mem_of_getElem? hb2)
 exact ⟨hK_le _ (fun i hi => (fit_mono (h1 i hi) (h i hi)).1), hK_le _ (fun i hi => (fit_mono (h1 i hi) (h i hi)).2)⟩
theorem hK_nonneg {bs : List Bd} (hb : ∀ b ∈ bs, bdB b = true) (hi : Bool) : 0 <= hK bs (fun i => endR hi (bs.getD i zeroBd)) bs.length :=
 (hK_bd (l := bs) (tr := fun i => endR hi (bs.getD i zeroBd)) bs.length (Nat.le_refl _) hb (fun i hi2 => by
  obtain ⟨b, hb2⟩ := get_of_lt hi2
  have e : bs.getD i zeroBd = b := by simp [List.getD, hb2]
  rw [e]
  exact end_rlB (hb b (List.mem_of_getElem? hb2)) hi)).1
structure SurfK (s : Sd) (frm : Int) (l : List Int) (e r0 r1 : Int) : Prop where
 ck : checkUN s frm l = 0
 sp : spanE s frm l = e /\ spanP s frm l false = r0 /\ spanP s frm l true = r1
 fit : ∀ tl, fitsA (bedsU s frm l) tl = true -> (e = 7 -> facO s frm l tl = (0, 7)) /\ (e = 0 -> (facO s frm l tl).2 = 0 /\ r0 <= (facO s frm l tl).1 /\ (facO s frm l tl).1 <= r1)
 ends : e = 0 -> facO s frm l ((bedsU s frm l).map (endR false)) = (r0, 0) /\ facO s frm l ((bedsU s frm l).map (endR true)) = (r1, 0)
 low : e = 0 -> wE s = 0 /\ wV s <= r0
 eor : e = 7 ∨ e = 0
theorem surf_known {s : Sm} (hs : SdOk s.sd) {frm : Int} {l : List Int} {k0 : Nat} {m : List Nat} (hf : frm = (k0 : Nat)) (hl : l = m.map fun x : Nat => (x : Int)) (hsf : SurfB s.sd.n s.cs.length s.sd.K k0 m) : bedsU s.sd frm l = bedsL s.sd.cols k0 m /\ ∃ e r0 r1, SurfK s.sd frm l e r0 r1 := by
 have hsf' : SurfB s.sd.n s.sd.cols.length s.sd.K k0 m := by rw [sd_len]; exact hsf
 have hck : checkUN s.sd frm l = 0 := by
  unfold checkUN
  rw [sdOk_iff.2 hs, hf, hl, (surfB_nat hs).2 hsf']
  rfl
 have eb : bedsU s.sd frm l = bedsL s.sd.cols k0 m := by
  unfold bedsU
  rw [hf, hl, List.map_map]
  have e1 : (Int.toNat ∘ fun x : Nat => (x : Int)) = id := by funext x; simp
  rw [e1, List.map_id, Int.toNat_natCast]
 refine ⟨eb, ?_⟩
 have hbo := bedsL_ok hs hsf.2.2 hsf.2.1
 have hbl := bedsL_len s.sd.cols m k0
 obtain ⟨bs, hbs⟩ : ∃ bs, bs = bedsL s.sd.cols k0 m := ⟨_, rfl⟩
 rw [<- hbs] at eb hbo hbl
 have hfac : ∀ tl, fitsA bs tl = true -> facO s.sd frm l tl = if dK bs bs.length < 1 then (0, 7) else (factorN (hK bs (fun i => tl.getD i ⟨0, 0, 0⟩) bs.length) (dK bs bs.length), 0) := fun tl h => by
  unfold facO
  rw [hck, if_pos rfl, eb, if_pos h]
 by_cases hd : dK bs bs.length < 1
 ·have he : spanE s.sd frm l = 7 := by unfold spanE; rw [hck, if_pos rfl, eb, if_pos hd]
  have hp : ∀ hi, spanP s.sd frm l hi = 0 := fun hi => by unfold spanP; rw [he, if_neg (by decide)]
  exact ⟨7, 0, 0, hck, ⟨he, hp _, hp _⟩, fun tl h => ⟨fun _ => by rw [hfac tl (by rw [eb] at h; exact h), if_pos hd], fun h => absurd h (by decide)⟩, fun h => absurd h (by decide), fun h => absurd h (by decide), .inl rfl⟩
 ·have he : spanE s.sd frm l = 0 := by unfold spanE; rw [hck, if_pos rfl, eb, if_neg hd]
  have hp : ∀ hi, spanP s.sd frm l hi = facE bs hi := fun hi => by unfold spanP; rw [he, if_pos rfl, eb]
  have hend : ∀ hi, facO s.sd frm l (bs.map (endR hi)) = (facE bs hi, 0) := fun hi => by
   rw [hfac _ (ends_fit hbo hi), if_neg hd]
   unfold facE
   rw [hK_eq bs.length (fun i h => ends_get h)]
  refine ⟨0, facE bs false, facE bs true, hck, ⟨he, hp _, hp _⟩, fun tl h => ⟨fun h => absurd h (by decide), fun _ => ?_⟩, fun _ => by rw [eb]; exact ⟨hend _, hend _⟩, fun _ => ?_, .inr rfl⟩
  ·rw [eb] at h
   rw [hfac tl h, if_neg hd]
   have h1 := fits_hK hbo h
   have h2 := hK_nonneg hbo false
   exact ⟨rfl, factor_le h2 h1.1 (by omega) (Int.le_refl _), factor_le (by omega) h1.2 (by omega) (Int.le_refl _)⟩
  ·have hd2 : 1 <= sumH (dAt s.sd) k0 m := by rw [<- dK_sum, <- hbs, <- hbl]; omega
   have hfe : facE bs false = factorN (sumH (hAt false s.sd) k0 m) (sumH (dAt s.sd) k0 m) := by
    unfold facE
    rw [hbl, hbs, hK_sum, dK_sum]
   rcases worst_of _ (rfl : worstS s.sd = worstS s.sd) with ⟨h1, _, _⟩ | ⟨⟨k, l'⟩, v, h1, h2, h3⟩
   ·exact absurd hd2 (worst_none (hd_ok hs false) h1 k0 m hsf')
   ·refine ⟨h2, ?_⟩
    rw [h3, hfe]
    exact (worst_some (hd_ok hs false) h1).2.2.2 k0 m hsf' hd2
end

section
open Go.RowKit Go.Shelf Go.Deep
theorem holds_le {b b' : Bd} {x y : Rl} (hn : b'.normal = b.normal) (h0 : 0 <= x.fr) (h1 : x.fr <= y.fr) (h2 : x.co <= y.co) (h3 : y.wa <= x.wa) : holdsN b x <= holdsN b' y := by
 have h := holds_mono (b := b) h0 h1 h2 h3
 unfold holdsN at h ⊢
 rw [hn]
 exact h
def chS (s : Sd) (k0 b0 : Nat) (b' : Bd) : Sd := ⟨s.cols.set k0 ((s.cols.getD k0 []).set b0 b'), s.least⟩
theorem chS_at (s : Sd) (k0 b0 : Nat) (b' : Bd) (k b : Nat) : bedAt (chS s k0 b0 b').cols k b = if k = k0 /\ b = b0 then (bedAt s.cols k b).map (fun _ => b') else bedAt s.cols k b := by
 unfold bedAt chS
 dsimp only
 rw [List.getElem?_set]
 by_cases hk : k0 = k
 ·subst hk
  rw [if_pos rfl]
  by_cases hl : k0 < s.cols.length
  ·rw [if_pos hl]
   obtain ⟨l, hl2⟩ := get_of_lt hl
   have e : s.cols.getD k0 [] = l := by simp [List.getD, hl2]
   rw [hl2, e]
   dsimp only
   rw [List.getElem?_set]
   by_cases hb : b0 = b
   ·subst hb
    by_cases hbl : b0 < l.length
    ·obtain ⟨x, hx⟩ := get_of_lt hbl
     simp [hbl]
    ·simp [hbl]
   ·rw [if_neg hb, if_neg (fun h => hb h.2.symm)]
  ·rw [if_neg hl, List.getElem?_eq_none (Nat.le_of_not_lt hl)]
   simp
 ·rw [if_neg hk, if_neg (fun h => hk h.1.symm)]
theorem flat_setB : ∀ (l : List Bd) (k i : Nat) (b b' : Bd) (v : Value), l[k]? = some b -> i < 8 -> bdL b' = (bdL b).set i v -> (l.flatMap bdL).set (k * 8 + i) v = (l.set k b').flatMap bdL
 | [], k, i, b, b', v, h, _, _ => by simp at h
 | x :: l, 0, i, b, b', v, h, hi, he => by
  have e : x = b := by simpa using h
  subst e
  rw [List.flatMap_cons, List.set_cons_zero, List.flatMap_cons, he, List.set_append_left _ _ (by simp; omega)]
  simp
 | x :: l, k + 1, i, b, b', v, h, hi, he => by
  have ih := flat_setB l k i b b' v (by simpa using h) hi he
  rw [List.flatMap_cons, List.set_cons_succ, List.flatMap_cons, <- ih, List.set_append_right _ _ (by simp; omega)]
  congr 2
  simp
  omega
end

section
open Go.RowKit Go.Shelf Go.Deep
structure PtJ (s : Sm) (ws : List Byt) (wa : Option Addr) (wc : Nat) (k : Nat) (l : List Nat) (A : Option Addr) (c ub : Nat) (w W : World) : Prop where
 nw : newer w W
 xb : Whole W w.heap.size 24 (smC s)
 wb : Whole W (w.heap.size + 1) 33 #[.slice wa ws.length wc]
 rb : Whole W (w.heap.size + 1 + 1) 69 #[vi 0, .slice none 0 0]
 bx : Whole W ub 69 #[vi k, .slice A l.length c]
 lo : w.heap.size + 1 + 1 < ub
 own : W.ownsRow w.heap.size 3 1 (.slice A l.length c) l.length (l.map fun x : Nat => vi x)
theorem PtJ.next {s : Sm} {ws : List Byt} {wa : Option Addr} {wc k : Nat} {l : List Nat} {A : Option Addr} {c ub : Nat} {w W W' : World} (h : PtJ s ws wa wc k l A c ub w W) (hb : newer W W') : PtJ s ws wa wc k l A c ub w W' :=
 ⟨newer_trans h.nw hb, h.xb.below hb h.xb.lt, h.wb.below hb h.wb.lt, h.rb.below hb h.rb.lt, h.bx.below hb h.bx.lt, h.lo, own_below h.own hb⟩
theorem PtJ.app {s : Sm} {ws : List Byt} {wa : Option Addr} {wc k : Nat} {l : List Nat} {A : Option Addr} {c ub : Nat} {w W W' : World} (h : PtJ s ws wa wc k l A c ub w W) {z g2 c2 : Nat}
  (hown : W'.ownsRow w.heap.size 3 1 (.slice (some ⟨g2, 0, none⟩) (l.length + 1) c2) (l.length + 1) ((l.map fun x : Nat => vi x) ++ [vi z])) (hw : (A = some ⟨g2, 0, none⟩ /\ c2 = c /\ W.grownBy W' (some g2)) ∨ (W.heap.size <= g2 /\ W.grownBy W' none)) :
  Whole W' ub 69 #[vi k, .slice A l.length c] /\ PtJ s ws wa wc k (l ++ [z]) (some ⟨g2, 0, none⟩) c2 ub w (W'.setCell ⟨ub, 1, none⟩ (.slice (some ⟨g2, 0, none⟩) (l.length + 1) c2)) := by
 have hgr : W.grownBy W' (Value.slice A l.length c).ownBlock := by
  rcases hw with ⟨h1, _, h3⟩ | ⟨_, h3⟩
  ·rw [h1]; exact h3
  ·exact h3.but _
 have k1 := h.xb.grown hgr (fun e => own_ne h.own h.xb (by decide) e.symm)
 have k2 := h.wb.grown hgr (fun e => own_ne h.own h.wb (by decide) e.symm)
 have k3 := h.rb.grown hgr (fun e => own_ne h.own h.rb (by decide) e.symm)
 have k4 := h.bx.grown hgr (fun e => own_ne h.own h.bx (by decide) e.symm)
 have hnw : newer w W' := by
  rcases hw with ⟨h1, _, h3⟩ | ⟨_, h3⟩
  ·exact Below.trans h.nw (below_of_grown h3 (own_ge h.own g2 (by rw [h1]; rfl)) h.nw.size)
  ·exact newer_trans h.nw (below_grown h3 (fun q e => by cases e) (Nat.le_refl _))
 have hlo := h.lo
 refine ⟨k4, hnw.setCell (p := ⟨ub, 1, none⟩) (by show w.heap.size <= ub; omega) _, k1.far (p := ⟨ub, 1, none⟩) (by show w.heap.size ≠ ub; omega) _, k2.far (p := ⟨ub, 1, none⟩) (by show w.heap.size + 1 ≠ ub; omega) _, k3.far (p := ⟨ub, 1, none⟩) (by show w.heap.size + 1 + 1 ≠ ub; omega) _, ?_, h.lo, ?_⟩
 ·rw [List.length_append]
  exact k4.set 1 _
 ·rw [List.length_append, List.map_append]
  exact own_set hown (own_ne hown k4 (by decide)) _
def vMod (m : Nat) (v : Value) (_ : World) : Prop := ∃ n : Nat, v = vi n /\ n < m
theorem vMod_st {m : Nat} : ∀ v W W', vMod m v W -> newer W W' -> vMod m v W' := fun _ _ _ h _ => h
def vBuild (m : Nat) (v : Value) (_ : World) : Prop := ∃ n : Nat, v = .agg #[vi n, .slice none 0 0] /\ n < m
theorem vBuild_st {m : Nat} : ∀ v W W', vBuild m v W -> newer W W' -> vBuild m v W' := fun _ _ _ h _ => h
def vPlus (a m : Nat) (v : Value) (_ : World) : Prop := ∃ n : Nat, v = vi n /\ a <= n /\ n < a + m
theorem vPlus_st {a m : Nat} : ∀ v W W', vPlus a m v W -> newer W W' -> vPlus a m v W' := fun _ _ _ h _ => h
def vStep (p : Nat) (v : Value) (_ : World) : Prop := ∃ z : Int, v = vi z /\ (p : Int) - 1 <= z /\ z <= (p : Int) + 1
theorem vStep_st {p : Nat} : ∀ v W W', vStep p v W -> newer W W' -> vStep p v W' := fun _ _ _ h _ => h
def vNear (p : Nat) (v : Value) (_ : World) : Prop := ∃ z : Nat, v = vi z /\ p <= z + 1 /\ z <= p + 1
theorem vNear_st {p : Nat} : ∀ v W W', vNear p v W -> newer W W' -> vNear p v W' := fun _ _ _ h _ => h
def vBed (p n : Nat) (v : Value) (_ : World) : Prop := ∃ z : Nat, v = vi z /\ p <= z + 1 /\ z <= p + 1 /\ z < n
theorem vBed_st {p n : Nat} : ∀ v W W', vBed p n v W -> newer W W' -> vBed p n v W' := fun _ _ _ h _ => h
theorem way_all {n : Nat} : ∀ (l : List Nat), wayB n l -> ∀ x ∈ l, x < n
 | [], _, x, hx => by simp at hx
 | b :: l, h, x, hx => by
  rcases List.mem_cons.1 hx with rfl | hx
  ·exact h.1
  ·exact way_all l h.2.2 x hx
theorem own_nat {w : World} {B : Nat} {A : Option Addr} {c : Nat} {l : List Nat} (h : w.ownsRow B 3 1 (.slice A l.length c) l.length (l.map fun x : Nat => vi x)) {k p : Nat} (hk : l[k]? = some p) : ∃ b off, A = some ⟨b, off, none⟩ /\ b < w.heap.size /\ w.cell? ⟨b, off + k, none⟩ = some (vi p) := by
 have hr := (row_nats (L := l.map fun x : Nat => (x : Int)) rfl h).2
 have hk2 : (l.map fun x : Nat => (x : Int))[k]? = some (p : Int) := by rw [List.getElem?_map, hk]; rfl
 obtain ⟨b, off, e, hb, hc⟩ := hr (ne_nil_of_get hk2)
 exact ⟨b, off, e, hb, by simpa using hc k _ hk2 0 _ rfl⟩
theorem rem_natW (a m : Nat) (hm : 0 < m) (h : m <= 100000) : ∃ r : Nat, r < m /\ (a : Int).tmod m = r /\ IntKind.i64.wrap (r : Int) = r := by
 refine ⟨a % m, Nat.mod_lt _ hm, ?_, IntWalk.i64_in _ (by have := Nat.mod_lt a hm; omega)⟩
 rw [Int.tmod_eq_emod_of_nonneg (by omega)]
 exact (Int.natCast_emod _ _).symm
set_option maxRecDepth 100000 in
set_option maxHeartbeats 2000000 in
theorem path_any (s : Sm) (ws : List Byt) (wa : Option Addr) (wc : Nat) (w : World) (hok : SmOk s w) (hr : Row byL 1 w w.heap.size wa ws) (hs : SdOk s.sd) (hle : s.sd.least <= (s.sd.cols.length : Int)) : Calls Tryz.prog 19 #[smV s, .slice wa ws.length wc] w fun e w' => ∃ u : Su, e = .returned (suV u) /\ SuOk u w' /\ (∃ k l, u.frm = (k : Nat) /\ u.beds = l.map (fun x : Nat => (x : Int)) /\ SurfB s.sd.n s.cs.length s.sd.K k l) /\ newer w w' := by
 have hcl : s.cs.length <= 12 /\ 1 <= s.cs.length := by have h1 := hs.cols; rw [sd_len] at h1; omega
 obtain ⟨K, hK⟩ : ∃ K, K = s.sd.K := ⟨_, rfl⟩
 have hkl : s.least = (K : Int) /\ 1 <= K /\ K <= 4 /\ K <= s.cs.length := by
  have h1 := hs.least
  rw [sd_len] at hle
  have h2 : s.sd.least = s.least := rfl
  rw [hK]
  unfold Sd.K
  omega
 obtain ⟨hkl, hK1, hK4, hKc⟩ := hkl
 obtain ⟨n, hn⟩ : ∃ n, n = s.sd.n := ⟨_, rfl⟩
 rw [<- hn, <- hK]
 have hn5 : 1 <= n /\ n <= 5 := by rw [hn]; exact hs.beds
 obtain ⟨y0, hy0⟩ := get_of_lt (l := s.cs) (k := 0) (by omega)
 have hyn : y0.beds.length = n := by rw [hn]; exact (sd_n hy0).symm
 obtain ⟨sa, so, ea, _, cy⟩ := rowC hok.cs hy0
 simp only [Nat.add_zero] at cy
 rw [hyn] at cy
 have hcne : ¬ (s.cs = []) := by intro h; rw [h] at hcl; simp at hcl
 have HCY := Lib.hid cy
 have HSA := Lib.hid ea
 have H0 : Hid (newer w (((w.alloc (.cells (smC s) 24)).alloc (.cells #[.slice wa ws.length wc] 33)).alloc (.cells #[vi 0, .slice none 0 0] 69)) /\ Whole (((w.alloc (.cells (smC s) 24)).alloc (.cells #[.slice wa ws.length wc] 33)).alloc (.cells #[vi 0, .slice none 0 0] 69)) w.heap.size 24 (smC s) /\ Whole (((w.alloc (.cells (smC s) 24)).alloc (.cells #[.slice wa ws.length wc] 33)).alloc (.cells #[vi 0, .slice none 0 0] 69)) (w.heap.size + 1) 33 #[.slice wa ws.length wc] /\ Whole (((w.alloc (.cells (smC s) 24)).alloc (.cells #[.slice wa ws.length wc] 33)).alloc (.cells #[vi 0, .slice none 0 0] 69)) (w.heap.size + 1 + 1) 69 #[vi 0, .slice none 0 0]) := Lib.hid (by
  have e1 := newer_allocH w (.cells (smC s) 24)
  have e2 := newer_allocH (w.alloc (.cells (smC s) 24)) (.cells #[.slice wa ws.length wc] 33)
  have e3 := newer_allocH ((w.alloc (.cells (smC s) 24)).alloc (.cells #[.slice wa ws.length wc] 33)) (.cells #[vi 0, .slice none 0 0] 69)
  have a1 := Whole.made w 24 (smC s)
  have a2 := Whole.made (w.alloc (.cells (smC s) 24)) 33 #[.slice wa ws.length wc]
  have a3 := Whole.made ((w.alloc (.cells (smC s) 24)).alloc (.cells #[.slice wa ws.length wc] 33)) 69 #[vi 0, .slice none 0 0]
  rw [World.size_alloc] at a2
  rw [World.size_alloc, World.size_alloc] at a3
  exact ⟨newer_trans (newer_trans e1 e2) e3, (a1.below e2 a1.lt).below e3 (by simp; omega), a2.below e3 a2.lt, a3⟩)
 have HR := Lib.hid hr
 obtain ⟨i0, hi0, hz0, hz1, hz2⟩ := info_parts info_int
 have HI := Lib.hid (And.intro hi0 (And.intro hz0 (And.intro hz1 hz2)))
 clear hi0 hz0 hz1 hz2
 obtain ⟨w1, hw1⟩ : ∃ w1, w1 = (((w.alloc (.cells (smC s) 24)).alloc (.cells #[.slice wa ws.length wc] 33)).alloc (.cells #[vi 0, .slice none 0 0] 69)) := ⟨_, rfl⟩
 rw [<- hw1] at H0
 have HWD : Hid (∀ (i : Nat) (W : World), newer w1 W -> i <= 100 -> Calls Tryz.prog 48 #[vi i, .pointer (some ⟨w.heap.size + 1, 0, none⟩)] W fun e w' => ∃ q : Nat, e = .returned (vi q) /\ q <= 255 /\ newer W w') := Lib.hid (fun i W hW hi => word_any ws wa wc _ i W (H0.out.2.2.1.below hW H0.out.2.2.1.lt) ((HR.out.below (newer_trans H0.out.1 hW)).more (newer_trans H0.out.1 hW).size) (by omega))
 obtain ⟨d1, hd1⟩ : ∃ d : Nat, d = s.cs.length - K := ⟨_, rfl⟩
 have e24 : IntKind.i64.wrap ((s.cs.length : Int) - K) = d1 := by rw [show (d1 : Int) = (s.cs.length : Int) - K by omega]; exact IntWalk.i64_in _ (by omega)
 obtain ⟨m1, hm1⟩ : ∃ m : Nat, m = d1 + 1 := ⟨_, rfl⟩
 have e25 : IntKind.i64.wrap ((d1 : Int) + 1) = m1 := by rw [show (m1 : Int) = (d1 : Int) + 1 by omega]; exact IntWalk.i64_in _ (by omega)
 have x0 := H0.out.2.1.at 0 (v := .slice s.a s.cs.length s.c) rfl
 have x1 := H0.out.2.1.at 1 (v := vi s.least) rfl
 rw [hw1] at x0 x1
 rw [hkl] at x1
 rw [ea] at x0
 clear hok hr hs hle hK hn hy0 hyn ea cy
 have HKC : (K : Int) <= s.cs.length := by omega
 go_enter Tryz.func19, Tryz.ntmps19
 go_upto_region 3 with fail
 rw [<- hw1] at x0 ⊢
 clear hw1 x1
 refine wp_words (by kernel_rfl) (region_told 11 (by kernel_rfl) (by kernel_rfl) (fun W => Below w1.heap.size w1 W) newer (pickD [vIs (.func (.func 48) #[] #[.pointer (some ⟨w.heap.size + 1, 0, none⟩)]), vMod 256, vIs (.pointer (some ⟨w.heap.size, 0, none⟩)), vIs (.slice (some ⟨sa, so, none⟩) s.cs.length s.c), vIs (.int .i64 s.cs.length), vIs (vi K), vIs (vi d1), vIs (vi m1), vMod m1, vBuild m1, vNew w1.heap.size 69 #[vi 0, .slice none 0 0]]) (fun h k => newer_trans h k) (pickD_stable _ ⟨vIs_st, vMod_st, vIs_st, vIs_st, vIs_st, vIs_st, vIs_st, vIs_st, vMod_st, vBuild_st, vNew_st, trivial⟩) (Below.refl _ w1).drew (Below.refl _ _) ?_ ?_)
 ·refine ⟨?_, ?_, ?_, ?_, ?_, ?_, ?_, ?_, ?_, ?_, ?_, trivial⟩
  ·intro a W hG hR hO hp; have h5 := hO.slot 5 (by kernel_rfl); refine wp_yields (v := .func (.func 48) #[] #[.pointer (some ⟨w.heap.size + 1, 0, none⟩)]) ?_ ⟨_, rfl, rfl, Below.refl _ _, hG⟩; simp [slotOf] at h5; simp [execOp, go_sem, h5]
  ·intro a W hG hR hO hp
   have h18 : slotOf a 18 = .func (.func 48) #[] #[.pointer (some ⟨w.heap.size + 1, 0, none⟩)] := hp.1
   refine wp_enters (f := 48) (args := #[vi (0 : Nat), .pointer (some ⟨w.heap.size + 1, 0, none⟩)]) ?_ ((HWD.out 0 W hG (by omega)).mono ?_)
   ·simp [slotOf] at h18
    simp [go_sem, h18]
   ·rintro e w' ⟨n, rfl, h1, hb⟩
    exact ⟨_, rfl, _, rfl, ⟨n, rfl, by omega⟩, hb, below_next hG hb⟩
  ·intro a W hG hR hO hp; have h2 := hO.slot 2 (by kernel_rfl); refine wp_yields (v := .pointer (some ⟨w.heap.size, 0, none⟩)) ?_ ⟨_, rfl, rfl, Below.refl _ _, hG⟩; simp [slotOf] at h2; simp [execOp, go_sem, h2]
  ·intro a W hG hR hO hp; have h20 : slotOf a 20 = .pointer (some ⟨w.heap.size, 0, none⟩) := hp.1; have c0 := keep_cell x0 hG; refine wp_yields (v := .slice (some ⟨sa, so, none⟩) s.cs.length s.c) ?_ ⟨_, rfl, rfl, Below.refl _ _, hG⟩; simp [slotOf] at h20; simp [execOp, go_sem, h20, c0]
  ·intro a W hG hR hO hp; have h21 : slotOf a 21 = .slice (some ⟨sa, so, none⟩) s.cs.length s.c := hp.1; refine wp_yields (v := .int .i64 s.cs.length) ?_ ⟨_, rfl, rfl, Below.refl _ _, hG⟩; simp [slotOf] at h21; simp [go_sem, h21]
  ·intro a W hG hR hO hp; have h6 := hO.slot 6 (by kernel_rfl); refine wp_yields (v := vi K) ?_ ⟨_, rfl, rfl, Below.refl _ _, hG⟩; simp [slotOf] at h6; simp [execOp, go_sem, h6]
  ·intro a W hG hR hO hp; have h22 : slotOf a 22 = .int .i64 s.cs.length := hp.1; have h23 : slotOf a 23 = vi K := hp.2.1; refine wp_yields (v := vi d1) ?_ ⟨_, rfl, rfl, Below.refl _ _, hG⟩; simp [slotOf] at h22 h23; simp [execOp, go_sem, h22, h23, e24]
  ·intro a W hG hR hO hp; have h24 : slotOf a 24 = vi d1 := hp.1; refine wp_yields (v := vi m1) ?_ ⟨_, rfl, rfl, Below.refl _ _, hG⟩; simp [slotOf] at h24; simp [execOp, go_sem, h24, e25]
  ·intro a W hG hR hO hp
   have h19 := hp.1
   have h25 : slotOf a 25 = vi m1 := hp.2.1
   obtain ⟨a9, h19, _⟩ := h19
   obtain ⟨r9, hr9, er9, ew9⟩ := rem_natW a9 m1 (by omega) (by omega)
   have hz9 : ¬ (m1 : Nat) = 0 := by omega
   refine wp_yields (v := vi r9) ?_ ⟨_, rfl, ⟨r9, rfl, hr9⟩, Below.refl _ _, hG⟩
   simp [slotOf] at h19 h25
   simp [execOp, go_sem, h19, h25, er9, hz9]
  ·intro a W hG hR hO hp; have h26 := hp.1; obtain ⟨a9, h26, h1⟩ := h26; refine wp_yields (v := .agg #[vi a9, .slice none 0 0]) ?_ ⟨_, rfl, ⟨a9, rfl, h1⟩, Below.refl _ _, hG⟩; simp [slotOf] at h26; simp [execOp, go_sem, h26]
  ·intro a W hG hR hO hp; refine wp_makes (v := .pointer (some ⟨W.heap.size, 0, none⟩)) (W' := W.alloc (.cells #[vi 0, .slice none 0 0] 69)) ?_ ⟨_, rfl, ⟨_, rfl, hG.size, Whole.made _ _ _⟩, newer_allocH _ _, below_next hG (newer_allocH _ _)⟩; skip; simp [execOp, go_sem]
 ·intro w2 hG hR
  rintro _ rfl _ - _ rfl _ rfl _ rfl _ rfl _ rfl _ rfl _ - _ ⟨k, rfl, hk⟩ _ ⟨ub, rfl, hub, hwu⟩
  change wpList _ _ _ _ _ _
  simp only [Act.put, List.setIfInBounds_toArray, List.set_cons_zero, List.set_cons_succ, List.drop_succ_cons, List.drop_zero]
  have b0 := hwu.at 0 rfl
  have b1 := hwu.at 1 rfl
  have f0 := hwu.free 0
  have f1 := hwu.free 1
  have hG3 := (hG.setCell (p := ⟨ub, 0, none⟩) hub (vi k)).setCell (p := ⟨ub, 1, none⟩) hub (.slice none 0 0)
  have HJ : Hid (PtJ s ws wa wc k [] none 0 ub w ((w2.setCell ⟨ub, 0, none⟩ (vi k)).setCell ⟨ub, 1, none⟩ (.slice none 0 0))) := Lib.hid ⟨newer_trans H0.out.1 hG3, H0.out.2.1.below hG3 H0.out.2.1.lt, H0.out.2.2.1.below hG3 H0.out.2.2.1.lt, H0.out.2.2.2.below hG3 H0.out.2.2.2.lt, (hwu.set 0 _).set 1 _, by have := H0.out.2.2.2.lt; omega, ⟨rfl, .inl ⟨rfl, rfl⟩⟩⟩
  clear x0 hG hR hG3 hwu hub HWD H0
  go_upto_region 4 with fail
  obtain ⟨w3, hw3⟩ : ∃ x, x = ((w2.setCell ⟨ub, 0, none⟩ (vi k)).setCell ⟨ub, 1, none⟩ (.slice none 0 0)) := ⟨_, rfl⟩
  rw [<- hw3] at HJ ⊢
  clear hw3 b0 b1 f0 f1
  have x0 := HJ.out.xb.at 0 (v := .slice s.a s.cs.length s.c) rfl
  rw [HSA.out] at x0
  have u0 := HJ.out.bx.at 0 (v := vi k) rfl
  obtain ⟨d3, hd3⟩ : ∃ d : Nat, d = s.cs.length - k := ⟨_, rfl⟩
  obtain ⟨d2, hd2⟩ : ∃ d : Nat, d = d3 - K := ⟨_, rfl⟩
  obtain ⟨m2, hm2⟩ : ∃ d : Nat, d = d2 + 1 := ⟨_, rfl⟩
  have e36 : IntKind.i64.wrap ((s.cs.length : Int) - k) = d3 := by rw [show (d3 : Int) = (s.cs.length : Int) - k by omega]; exact IntWalk.i64_in _ (by omega)
  have e38 : IntKind.i64.wrap ((d3 : Int) - K) = d2 := by rw [show (d2 : Int) = (d3 : Int) - K by omega]; exact IntWalk.i64_in _ (by omega)
  have e39 : IntKind.i64.wrap ((d2 : Int) + 1) = m2 := by rw [show (m2 : Int) = (d2 : Int) + 1 by omega]; exact IntWalk.i64_in _ (by omega)
  have HWD : Hid (∀ (i : Nat) (W : World), newer w3 W -> i <= 100 -> Calls Tryz.prog 48 #[vi i, .pointer (some ⟨w.heap.size + 1, 0, none⟩)] W fun e w' => ∃ q : Nat, e = .returned (vi q) /\ q <= 255 /\ newer W w') := Lib.hid (fun i W hW hi => word_any ws wa wc _ i W (HJ.out.wb.below hW HJ.out.wb.lt) ((HR.out.below (newer_trans HJ.out.nw hW)).more (newer_trans HJ.out.nw hW).size) (by omega))
  have hkm : k + K <= s.cs.length := by omega
  refine wp_words (by kernel_rfl) (region_told 14 (by kernel_rfl) (by kernel_rfl) (fun W => Below w3.heap.size w3 W) newer (pickD [vIs (vi K), vIs (.func (.func 48) #[] #[.pointer (some ⟨w.heap.size + 1, 0, none⟩)]), vMod 256, vIs (.pointer (some ⟨w.heap.size, 0, none⟩)), vIs (.slice (some ⟨sa, so, none⟩) s.cs.length s.c), vIs (.int .i64 s.cs.length), vIs (.pointer (some ⟨ub, 0, none⟩)), vIs (vi k), vIs (vi d3), vIs (vi K), vIs (vi d2), vIs (vi m2), vMod m2, vPlus K m2]) (fun h k => newer_trans h k) (pickD_stable _ ⟨vIs_st, vIs_st, vMod_st, vIs_st, vIs_st, vIs_st, vIs_st, vIs_st, vIs_st, vIs_st, vIs_st, vIs_st, vMod_st, vPlus_st, trivial⟩) (Below.refl _ w3).drew (Below.refl _ _) ?_ ?_)
  ·refine ⟨?_, ?_, ?_, ?_, ?_, ?_, ?_, ?_, ?_, ?_, ?_, ?_, ?_, ?_, trivial⟩
   ·intro a W hG hR hO hp; have h6 := hO.slot 6 (by kernel_rfl); refine wp_yields (v := vi K) ?_ ⟨_, rfl, rfl, Below.refl _ _, hG⟩; simp [slotOf] at h6; simp [execOp, go_sem, h6]
   ·intro a W hG hR hO hp; have h5 := hO.slot 5 (by kernel_rfl); refine wp_yields (v := .func (.func 48) #[] #[.pointer (some ⟨w.heap.size + 1, 0, none⟩)]) ?_ ⟨_, rfl, rfl, Below.refl _ _, hG⟩; simp [slotOf] at h5; simp [execOp, go_sem, h5]
   ·intro a W hG hR hO hp
    have h29 : slotOf a 29 = .func (.func 48) #[] #[.pointer (some ⟨w.heap.size + 1, 0, none⟩)] := hp.1
    refine wp_enters (f := 48) (args := #[vi (1 : Nat), .pointer (some ⟨w.heap.size + 1, 0, none⟩)]) ?_ ((HWD.out 1 W hG (by omega)).mono ?_)
    ·simp [slotOf] at h29
     simp [go_sem, h29]
    ·rintro e w' ⟨n, rfl, h1, hb⟩
     exact ⟨_, rfl, _, rfl, ⟨n, rfl, by omega⟩, hb, below_next hG hb⟩
   ·intro a W hG hR hO hp; have h2 := hO.slot 2 (by kernel_rfl); refine wp_yields (v := .pointer (some ⟨w.heap.size, 0, none⟩)) ?_ ⟨_, rfl, rfl, Below.refl _ _, hG⟩; simp [slotOf] at h2; simp [execOp, go_sem, h2]
   ·intro a W hG hR hO hp; have h31 : slotOf a 31 = .pointer (some ⟨w.heap.size, 0, none⟩) := hp.1; have c0 := keep_cell x0 hG; refine wp_yields (v := .slice (some ⟨sa, so, none⟩) s.cs.length s.c) ?_ ⟨_, rfl, rfl, Below.refl _ _, hG⟩; simp [slotOf] at h31; simp [execOp, go_sem, h31, c0]
   ·intro a W hG hR hO hp; have h32 : slotOf a 32 = .slice (some ⟨sa, so, none⟩) s.cs.length s.c := hp.1; refine wp_yields (v := .int .i64 s.cs.length) ?_ ⟨_, rfl, rfl, Below.refl _ _, hG⟩; simp [slotOf] at h32; simp [go_sem, h32]
   ·intro a W hG hR hO hp; have h7 := hO.slot 7 (by kernel_rfl); refine wp_yields (v := .pointer (some ⟨ub, 0, none⟩)) ?_ ⟨_, rfl, rfl, Below.refl _ _, hG⟩; simp [slotOf] at h7; simp [execOp, go_sem, h7]
   ·intro a W hG hR hO hp; have h34 : slotOf a 34 = .pointer (some ⟨ub, 0, none⟩) := hp.1; have c0 := keep_cell u0 hG; refine wp_yields (v := vi k) ?_ ⟨_, rfl, rfl, Below.refl _ _, hG⟩; simp [slotOf] at h34; simp [execOp, go_sem, h34, c0]
   ·intro a W hG hR hO hp; have h33 : slotOf a 33 = .int .i64 s.cs.length := hp.1; have h35 : slotOf a 35 = vi k := hp.2.1; refine wp_yields (v := vi d3) ?_ ⟨_, rfl, rfl, Below.refl _ _, hG⟩; simp [slotOf] at h33 h35; simp [execOp, go_sem, h33, h35, e36]
   ·intro a W hG hR hO hp; have h6 := hO.slot 6 (by kernel_rfl); refine wp_yields (v := vi K) ?_ ⟨_, rfl, rfl, Below.refl _ _, hG⟩; simp [slotOf] at h6; simp [execOp, go_sem, h6]
   ·intro a W hG hR hO hp; have h36 : slotOf a 36 = vi d3 := hp.1; have h37 : slotOf a 37 = vi K := hp.2.1; refine wp_yields (v := vi d2) ?_ ⟨_, rfl, rfl, Below.refl _ _, hG⟩; simp [slotOf] at h36 h37; simp [execOp, go_sem, h36, h37, e38]
   ·intro a W hG hR hO hp; have h38 : slotOf a 38 = vi d2 := hp.1; refine wp_yields (v := vi m2) ?_ ⟨_, rfl, rfl, Below.refl _ _, hG⟩; simp [slotOf] at h38; simp [execOp, go_sem, h38, e39]
   ·intro a W hG hR hO hp
    have h30 := hp.1
    have h39 : slotOf a 39 = vi m2 := hp.2.1
    obtain ⟨a9, h30, _⟩ := h30
    obtain ⟨r9, hr9, er9, ew9⟩ := rem_natW a9 m2 (by omega) (by omega)
    have hz9 : ¬ (m2 : Nat) = 0 := by omega
    refine wp_yields (v := vi r9) ?_ ⟨_, rfl, ⟨r9, rfl, hr9⟩, Below.refl _ _, hG⟩
    simp [slotOf] at h30 h39
    simp [execOp, go_sem, h30, h39, er9, hz9]
   ·intro a W hG hR hO hp
    have h28 : slotOf a 28 = vi K := hp.1
    have h40 := hp.2.1
    obtain ⟨a9, h40, h1⟩ := h40
    have e9 : IntKind.i64.wrap ((K : Int) + a9) = ((K + a9 : Nat) : Int) := by rw [Int.natCast_add]; exact IntWalk.i64_in _ (by omega)
    refine wp_yields (v := vi (K + a9 : Nat)) ?_ ⟨_, rfl, ⟨K + a9, rfl, by omega, by omega⟩, Below.refl _ _, hG⟩
    simp [slotOf] at h28 h40
    simp [execOp, go_sem, h28, h40, e9]
  ·intro w4 hG hR
   rintro _ rfl _ rfl _ - _ rfl _ rfl _ rfl _ rfl _ rfl _ rfl _ rfl _ rfl _ rfl _ - _ ⟨m, rfl, hm1_, hm2_⟩
   change wpList _ _ _ _ _ _
   simp only [Act.put, List.setIfInBounds_toArray, List.set_cons_zero, List.set_cons_succ, List.drop_succ_cons, List.drop_zero]
   have HJ4 := Lib.hid (HJ.out.next hG)
   have hmk : k + m <= s.cs.length /\ K <= m /\ m <= 12 := by omega
   have HMK := Lib.hid hmk
   have hm12 : m <= 12 := by omega
   clear hG hR x0 u0 HJ HWD e24 e25 e36 e38 e39 hd1 hm1 hd3 hd2 hm2 hk hkm hm1_ hm2_ hmk
   go_wp2_with fail
   go_loopw [9] (fun s9 wr => ∃ (i : Nat) (l : List Nat) (A : Option Addr) (c : Nat), s9 = vi i /\ i <= m /\ l.length = i /\ wayB n l /\ PtJ s ws wa wc k l A c ub w wr) (fun s9 _ => m - (intOf s9).toNat)
   case atStart => exact ⟨0, [], none, 0, rfl, Nat.zero_le _, rfl, trivial, HJ4.out⟩
   case round =>
    obtain ⟨i, l, A, c, rfl, hi, hli, hwy, hj⟩ := hrel
    clear HJ4
    have HJ := Lib.hid hj
    have HLI := Lib.hid hli
    have HWL := Lib.hid hwy
    have x0 := hj.xb.at 0 (v := .slice s.a s.cs.length s.c) rfl
    rw [HSA.out] at x0
    have cy := keep_cell HCY.out hj.nw
    have HWD : Hid (∀ (i : Nat) (W : World), newer wr W -> i <= 100 -> Calls Tryz.prog 48 #[vi i, .pointer (some ⟨w.heap.size + 1, 0, none⟩)] W fun e w' => ∃ q : Nat, e = .returned (vi q) /\ q <= 255 /\ newer W w') := Lib.hid (fun i W hW hi => word_any ws wa wc _ i W (HJ.out.wb.below hW HJ.out.wb.lt) ((HR.out.below (newer_trans HJ.out.nw hW)).more (newer_trans HJ.out.nw hW).size) (by omega))
    clear hli hwy hj
    by_cases hlt : i < m
    ·have e49 : IntKind.i64.wrap (2 + (i : Int)) = ((2 + i : Nat) : Int) := by rw [Int.natCast_add]; exact IntWalk.i64_in _ (by omega)
     have hlti : (i : Int) < m := by omega
     go_upto_region 8 with fail
     refine wp_words (by kernel_rfl) (region_told 10 (by kernel_rfl) (by kernel_rfl) (fun W => Below wr.heap.size wr W) newer (pickD [vIs (.func (.func 48) #[] #[.pointer (some ⟨w.heap.size + 1, 0, none⟩)]), vIs (vi i), vIs (vi (2 + i : Nat)), vMod 256, vIs (.pointer (some ⟨w.heap.size, 0, none⟩)), vIs (.slice (some ⟨sa, so, none⟩) s.cs.length s.c), vIs (.pointer (some ⟨sa, so, none⟩)), vIs (.slice y0.a n y0.cp), vIs (.int .i64 n), vMod n]) (fun h k => newer_trans h k) (pickD_stable _ ⟨vIs_st, vIs_st, vIs_st, vMod_st, vIs_st, vIs_st, vIs_st, vIs_st, vIs_st, vMod_st, trivial⟩) (Below.refl _ wr).drew (Below.refl _ _) ?_ ?_)
     ·refine ⟨?_, ?_, ?_, ?_, ?_, ?_, ?_, ?_, ?_, ?_, trivial⟩
      ·intro a W hG hR hO hp; have h5 := hO.slot 5 (by kernel_rfl); refine wp_yields (v := .func (.func 48) #[] #[.pointer (some ⟨w.heap.size + 1, 0, none⟩)]) ?_ ⟨_, rfl, rfl, Below.refl _ _, hG⟩; simp [slotOf] at h5; simp [execOp, go_sem, h5]
      ·intro a W hG hR hO hp; have h9 := hO.slot 9 (by kernel_rfl); refine wp_yields (v := vi i) ?_ ⟨_, rfl, rfl, Below.refl _ _, hG⟩; simp [slotOf] at h9; simp [execOp, go_sem, h9]
      ·intro a W hG hR hO hp; have h48 : slotOf a 48 = vi i := hp.1; refine wp_yields (v := vi (2 + i : Nat)) ?_ ⟨_, rfl, rfl, Below.refl _ _, hG⟩; simp [slotOf] at h48; simp [execOp, go_sem, h48, e49]
      ·intro a W hG hR hO hp
       have h47 : slotOf a 47 = .func (.func 48) #[] #[.pointer (some ⟨w.heap.size + 1, 0, none⟩)] := hp.1
       have h49 : slotOf a 49 = vi (2 + i : Nat) := hp.2.1
       refine wp_enters (f := 48) (args := #[vi ((2 + i) : Nat), .pointer (some ⟨w.heap.size + 1, 0, none⟩)]) ?_ ((HWD.out (2 + i) W hG (by omega)).mono ?_)
       ·simp [slotOf] at h47 h49
        simp [go_sem, h47, h49]
       ·rintro e w' ⟨n, rfl, h1, hb⟩
        exact ⟨_, rfl, _, rfl, ⟨n, rfl, by omega⟩, hb, below_next hG hb⟩
      ·intro a W hG hR hO hp; have h2 := hO.slot 2 (by kernel_rfl); refine wp_yields (v := .pointer (some ⟨w.heap.size, 0, none⟩)) ?_ ⟨_, rfl, rfl, Below.refl _ _, hG⟩; simp [slotOf] at h2; simp [execOp, go_sem, h2]
      ·intro a W hG hR hO hp; have h51 : slotOf a 51 = .pointer (some ⟨w.heap.size, 0, none⟩) := hp.1; have c0 := keep_cell x0 hG; refine wp_yields (v := .slice (some ⟨sa, so, none⟩) s.cs.length s.c) ?_ ⟨_, rfl, rfl, Below.refl _ _, hG⟩; simp [slotOf] at h51; simp [execOp, go_sem, h51, c0]
      ·intro a W hG hR hO hp; have h52 : slotOf a 52 = .slice (some ⟨sa, so, none⟩) s.cs.length s.c := hp.1; refine wp_yields (v := .pointer (some ⟨sa, so, none⟩)) ?_ ⟨_, rfl, rfl, Below.refl _ _, hG⟩; simp [slotOf] at h52; simp [execOp, go_sem, h52, hcne]
      ·intro a W hG hR hO hp; have h53 : slotOf a 53 = .pointer (some ⟨sa, so, none⟩) := hp.1; have c0 := keep_cell cy hG; refine wp_yields (v := .slice y0.a n y0.cp) ?_ ⟨_, rfl, rfl, Below.refl _ _, hG⟩; simp [slotOf] at h53; simp [execOp, go_sem, h53, c0]
      ·intro a W hG hR hO hp; have h54 : slotOf a 54 = .slice y0.a n y0.cp := hp.1; refine wp_yields (v := .int .i64 n) ?_ ⟨_, rfl, rfl, Below.refl _ _, hG⟩; simp [slotOf] at h54; simp [go_sem, h54]
      ·intro a W hG hR hO hp
       have h50 := hp.1
       have h55 : slotOf a 55 = .int .i64 n := hp.2.1
       obtain ⟨a9, h50, _⟩ := h50
       obtain ⟨r9, hr9, er9, ew9⟩ := rem_natW a9 n (by omega) (by omega)
       have hz9 : ¬ (n : Nat) = 0 := by omega
       refine wp_yields (v := vi r9) ?_ ⟨_, rfl, ⟨r9, rfl, hr9⟩, Below.refl _ _, hG⟩
       simp [slotOf] at h50 h55
       simp [execOp, go_sem, h50, h55, er9, hz9]
     ·intro w8 hG hR
      rintro _ rfl _ rfl _ rfl _ - _ rfl _ rfl _ rfl _ rfl _ rfl _ ⟨z0, rfl, hz0⟩
      change wpList _ _ _ _ _ _
      simp only [Act.put, List.setIfInBounds_toArray, List.set_cons_zero, List.set_cons_succ, List.drop_succ_cons, List.drop_zero]
      have HJ8 := Lib.hid (HJ.out.next hG)
      by_cases hi0 : i = 0
      ·have HWY : Hid (wayB n (l ++ [z0])) := Lib.hid (by
        have h1 : l = [] := List.eq_nil_of_length_eq_zero (by rw [HLI.out]; exact hi0)
        rw [h1]
        exact ⟨hz0, fun y hy => by simp at hy, trivial⟩)
       have hi1 : ¬ (0 < i) := by omega
       have hi2 : ¬ (0 < (i : Int)) := by omega
       have HJ := HJ8
       clear hG hR x0 cy HWD HJ8 hi0 e49
       have hn1 := newer_allocH w8 (.cells #[vi z0] 3)
       have HJ3 := Lib.hid (HJ.out.next hn1)
       have HCW : Hid ((w8.alloc (.cells #[vi z0] 3)).cell? ⟨w8.heap.size, 0, none⟩ = some (vi z0)) := Lib.hid ((Whole.made w8 3 #[vi z0]).at 0 rfl)
       have HLB := Lib.hid (show l.length <= 12 by have := HLI.out; omega)
       clear hn1
       have u1 := HJ.out.bx.at 1 (v := .slice A l.length c) rfl
       go_wp2_with (at_builtin; go_loud ((refine wpList_plain rfl fun _ hK => wp_append_one (.tmp 81) (.tmp 83) 60 rfl w.heap.size 3 i0 (.int .i64 0) 8 Tryz.underlying60 HI.out.1 HI.out.2.1 HI.out.2.2.1 HI.out.2.2.2 rfl A l.length c (l.map fun x : Nat => vi x) rfl HJ3.out.own ⟨w8.heap.size, 0, none⟩ 1 (vi z0) rfl HCW.out rfl (by have := HLB.out; unfold maxLen; omega) (by have := HLB.out; omega) HJ3.out.nw.size fun g2 c2 w5 hown hwh => hK _ _ ?_); have HE := Lib.hid (HJ3.out.app hown hwh); have p1 := HE.out.1.at 1 (v := .slice A l.length c) rfl; have pf1 := HE.out.1.free 1; clear hown hwh))
       refine ⟨⟨i + 1, l ++ [z0], some ⟨g2, 0, none⟩, c2, rfl, by omega, by rw [List.length_append, HLI.out]; rfl, HWY.out, HE.out.2⟩, ?_⟩
       simp [intOf]
       omega
      ·obtain ⟨i1, hi1e⟩ : ∃ i1, i1 = i - 1 := ⟨_, rfl⟩
       have hi1p : (0 < i) := by omega
       have hi2 : (0 < (i : Int)) := by omega
       have e62 : IntKind.i64.wrap ((i : Int) - 1) = i1 := by rw [show (i1 : Int) = (i : Int) - 1 by omega]; exact IntWalk.i64_in _ (by omega)
       obtain ⟨p, hp⟩ := get_of_lt (l := l) (k := i1) (by have := HLI.out; omega)
       have hi1 : (i1 : Int) < l.length := by have := HLI.out; omega
       have hlast : l.getLast? = some p := by rw [List.getLast?_eq_getElem?, HLI.out, <- hi1e]; exact hp
       have hpn : p < n := way_all l HWL.out p (List.mem_of_getElem? hp)
       obtain ⟨lg, lo, eA, _, cp⟩ := own_nat HJ8.out.own hp
       have u1 := HJ8.out.bx.at 1 (v := .slice A l.length c) rfl
       have x0 := keep_cell x0 hG
       have cy := keep_cell cy hG
       have HEA := Lib.hid eA
       rw [eA] at u1
       have hcl0 : ¬ (l = []) := by intro h; rw [h] at hp; simp at hp
       have e65 : IntKind.i64.wrap ((p : Int) - 1) = (p : Int) - 1 := IntWalk.i64_in _ (by omega)
       have e78 : IntKind.i64.wrap ((n : Int) - 1) = (n : Int) - 1 := IntWalk.i64_in _ (by omega)
       have HWD : Hid (∀ (i : Nat) (W : World), newer w8 W -> i <= 100 -> Calls Tryz.prog 48 #[vi i, .pointer (some ⟨w.heap.size + 1, 0, none⟩)] W fun e w' => ∃ q : Nat, e = .returned (vi q) /\ q <= 255 /\ newer W w') := Lib.hid (fun i W hW hi => HWD.out i W (newer_trans hG hW) hi)
       have HP := Lib.hid (And.intro hlast hz0)
       clear hG hR hi0 hp hlast eA hi1e hz0
       go_upto_region 10 with fail
       refine wp_words (by kernel_rfl) (region_told 21 (by kernel_rfl) (by kernel_rfl) (fun W => Below w8.heap.size w8 W) newer (pickD [vIs (.pointer (some ⟨ub, 1, none⟩)), vIs (.slice (some ⟨lg, lo, none⟩) l.length c), vIs (vi i), vIs (vi i1), vIs (.pointer (some ⟨lg, lo + i1, none⟩)), vIs (vi p), vIs (vi ((p : Int) - 1)), vIs (.func (.func 48) #[] #[.pointer (some ⟨w.heap.size + 1, 0, none⟩)]), vIs (vi i), vIs (vi (2 + i : Nat)), vMod 256, vMod 3, vStep p, vNear p, vIs (.pointer (some ⟨w.heap.size, 0, none⟩)), vIs (.slice (some ⟨sa, so, none⟩) s.cs.length s.c), vIs (.pointer (some ⟨sa, so, none⟩)), vIs (.slice y0.a n y0.cp), vIs (.int .i64 n), vIs (vi ((n : Int) - 1)), vBed p n]) (fun h k => newer_trans h k) (pickD_stable _ ⟨vIs_st, vIs_st, vIs_st, vIs_st, vIs_st, vIs_st, vIs_st, vIs_st, vIs_st, vIs_st, vMod_st, vMod_st, vStep_st, vNear_st, vIs_st, vIs_st, vIs_st, vIs_st, vIs_st, vIs_st, vBed_st, trivial⟩) (Below.refl _ w8).drew (Below.refl _ _) ?_ ?_)
       ·refine ⟨?_, ?_, ?_, ?_, ?_, ?_, ?_, ?_, ?_, ?_, ?_, ?_, ?_, ?_, ?_, ?_, ?_, ?_, ?_, ?_, ?_, trivial⟩
        ·intro a W hG hR hO hp; have h7 := hO.slot 7 (by kernel_rfl); refine wp_yields (v := .pointer (some ⟨ub, 1, none⟩)) ?_ ⟨_, rfl, rfl, Below.refl _ _, hG⟩; simp [slotOf] at h7; simp [execOp, go_sem, h7]
        ·intro a W hG hR hO hp; have h59 : slotOf a 59 = .pointer (some ⟨ub, 1, none⟩) := hp.1; have c0 := keep_cell u1 hG; refine wp_yields (v := .slice (some ⟨lg, lo, none⟩) l.length c) ?_ ⟨_, rfl, rfl, Below.refl _ _, hG⟩; simp [slotOf] at h59; simp [execOp, go_sem, h59, c0]
        ·intro a W hG hR hO hp; have h9 := hO.slot 9 (by kernel_rfl); refine wp_yields (v := vi i) ?_ ⟨_, rfl, rfl, Below.refl _ _, hG⟩; simp [slotOf] at h9; simp [execOp, go_sem, h9]
        ·intro a W hG hR hO hp; have h61 : slotOf a 61 = vi i := hp.1; refine wp_yields (v := vi i1) ?_ ⟨_, rfl, rfl, Below.refl _ _, hG⟩; simp [slotOf] at h61; simp [execOp, go_sem, h61, e62]
        ·intro a W hG hR hO hp; have h60 : slotOf a 60 = .slice (some ⟨lg, lo, none⟩) l.length c := hp.1; have h62 : slotOf a 62 = vi i1 := hp.2.1; refine wp_yields (v := .pointer (some ⟨lg, lo + i1, none⟩)) ?_ ⟨_, rfl, rfl, Below.refl _ _, hG⟩; simp [slotOf] at h60 h62; simp [execOp, go_sem, h60, h62, hi1]
        ·intro a W hG hR hO hp; have h63 : slotOf a 63 = .pointer (some ⟨lg, lo + i1, none⟩) := hp.1; have c0 := keep_cell cp hG; refine wp_yields (v := vi p) ?_ ⟨_, rfl, rfl, Below.refl _ _, hG⟩; simp [slotOf] at h63; simp [execOp, go_sem, h63, c0]
        ·intro a W hG hR hO hp; have h64 : slotOf a 64 = vi p := hp.1; refine wp_yields (v := vi ((p : Int) - 1)) ?_ ⟨_, rfl, rfl, Below.refl _ _, hG⟩; simp [slotOf] at h64; simp [execOp, go_sem, h64, e65]
        ·intro a W hG hR hO hp; have h5 := hO.slot 5 (by kernel_rfl); refine wp_yields (v := .func (.func 48) #[] #[.pointer (some ⟨w.heap.size + 1, 0, none⟩)]) ?_ ⟨_, rfl, rfl, Below.refl _ _, hG⟩; simp [slotOf] at h5; simp [execOp, go_sem, h5]
        ·intro a W hG hR hO hp; have h9 := hO.slot 9 (by kernel_rfl); refine wp_yields (v := vi i) ?_ ⟨_, rfl, rfl, Below.refl _ _, hG⟩; simp [slotOf] at h9; simp [execOp, go_sem, h9]
        ·intro a W hG hR hO hp; have h67 : slotOf a 67 = vi i := hp.1; refine wp_yields (v := vi (2 + i : Nat)) ?_ ⟨_, rfl, rfl, Below.refl _ _, hG⟩; simp [slotOf] at h67; simp [execOp, go_sem, h67, e49]
        ·intro a W hG hR hO hp
         have h66 : slotOf a 66 = .func (.func 48) #[] #[.pointer (some ⟨w.heap.size + 1, 0, none⟩)] := hp.1
         have h68 : slotOf a 68 = vi (2 + i : Nat) := hp.2.1
         refine wp_enters (f := 48) (args := #[vi ((2 + i) : Nat), .pointer (some ⟨w.heap.size + 1, 0, none⟩)]) ?_ ((HWD.out (2 + i) W hG (by omega)).mono ?_)
         ·simp [slotOf] at h66 h68
          simp [go_sem, h66, h68]
         ·rintro e w' ⟨n, rfl, h1, hb⟩
          exact ⟨_, rfl, _, rfl, ⟨n, rfl, by omega⟩, hb, below_next hG hb⟩
        ·intro a W hG hR hO hp; have h69 := hp.1; obtain ⟨a9, h69, _⟩ := h69; obtain ⟨r9, hr9, er9, ew9⟩ := rem_natW a9 3 (by omega) (by omega); have er9 : (a9 : Int).tmod 3 = r9 := er9; refine wp_yields (v := vi r9) ?_ ⟨_, rfl, ⟨r9, rfl, hr9⟩, Below.refl _ _, hG⟩; simp [slotOf] at h69; simp [execOp, go_sem, h69, er9]
        ·intro a W hG hR hO hp; have h65 : slotOf a 65 = vi ((p : Int) - 1) := hp.1; have h70 := hp.2.1; obtain ⟨a9, h70, h1⟩ := h70; have e9 : IntKind.i64.wrap ((p : Int) - 1 + a9) = (p : Int) - 1 + a9 := IntWalk.i64_in _ (by omega); refine wp_yields (v := vi ((p : Int) - 1 + a9)) ?_ ⟨_, rfl, ⟨_, rfl, by omega, by omega⟩, Below.refl _ _, hG⟩; simp [slotOf] at h65 h70; simp [execOp, go_sem, h65, h70, e9]
        ·intro a W hG hR hO hp; have h71 := hp.1; obtain ⟨a9, h71, h1, h2⟩ := h71; obtain ⟨z, hz, hz1, hz2⟩ : ∃ z : Nat, mxI 0 a9 = z /\ p <= z + 1 /\ z <= p + 1 := ⟨(mxI 0 a9).toNat, by unfold mxI; split <;> omega, by unfold mxI; split <;> omega, by unfold mxI; split <;> omega⟩; refine wp_yields (v := vi z) ?_ ⟨_, rfl, ⟨z, rfl, hz1, hz2⟩, Below.refl _ _, hG⟩; simp [slotOf] at h71; rw [<- hz]; simp [go_sem, h71, mxI]
        ·intro a W hG hR hO hp; have h2 := hO.slot 2 (by kernel_rfl); refine wp_yields (v := .pointer (some ⟨w.heap.size, 0, none⟩)) ?_ ⟨_, rfl, rfl, Below.refl _ _, hG⟩; simp [slotOf] at h2; simp [execOp, go_sem, h2]
        ·intro a W hG hR hO hp; have h73 : slotOf a 73 = .pointer (some ⟨w.heap.size, 0, none⟩) := hp.1; have c0 := keep_cell x0 hG; refine wp_yields (v := .slice (some ⟨sa, so, none⟩) s.cs.length s.c) ?_ ⟨_, rfl, rfl, Below.refl _ _, hG⟩; simp [slotOf] at h73; simp [execOp, go_sem, h73, c0]
        ·intro a W hG hR hO hp; have h74 : slotOf a 74 = .slice (some ⟨sa, so, none⟩) s.cs.length s.c := hp.1; refine wp_yields (v := .pointer (some ⟨sa, so, none⟩)) ?_ ⟨_, rfl, rfl, Below.refl _ _, hG⟩; simp [slotOf] at h74; simp [execOp, go_sem, h74, hcne]
        ·intro a W hG hR hO hp; have h75 : slotOf a 75 = .pointer (some ⟨sa, so, none⟩) := hp.1; have c0 := keep_cell cy hG; refine wp_yields (v := .slice y0.a n y0.cp) ?_ ⟨_, rfl, rfl, Below.refl _ _, hG⟩; simp [slotOf] at h75; simp [execOp, go_sem, h75, c0]
        ·intro a W hG hR hO hp; have h76 : slotOf a 76 = .slice y0.a n y0.cp := hp.1; refine wp_yields (v := .int .i64 n) ?_ ⟨_, rfl, rfl, Below.refl _ _, hG⟩; simp [slotOf] at h76; simp [go_sem, h76]
        ·intro a W hG hR hO hp; have h77 : slotOf a 77 = .int .i64 n := hp.1; refine wp_yields (v := vi ((n : Int) - 1)) ?_ ⟨_, rfl, rfl, Below.refl _ _, hG⟩; simp [slotOf] at h77; simp [execOp, go_sem, h77, e78]
        ·intro a W hG hR hO hp; have h72 := hp.1; have h78 : slotOf a 78 = vi ((n : Int) - 1) := hp.2.1; obtain ⟨a9, h72, h1, h2⟩ := h72; obtain ⟨z, hz, hz1, hz2, hz3⟩ : ∃ z : Nat, mnI a9 ((n : Int) - 1) = z /\ p <= z + 1 /\ z <= p + 1 /\ z < n := ⟨(mnI a9 ((n : Int) - 1)).toNat, by unfold mnI; split <;> omega, by unfold mnI; split <;> omega, by unfold mnI; split <;> omega, by unfold mnI; split <;> omega⟩; refine wp_yields (v := vi z) ?_ ⟨_, rfl, ⟨z, rfl, hz1, hz2, hz3⟩, Below.refl _ _, hG⟩; simp [slotOf] at h72 h78; rw [<- hz]; simp [go_sem, h72, h78, mnI]
       ·intro w10 hG hR
        rintro _ rfl _ rfl _ rfl _ rfl _ rfl _ rfl _ rfl _ rfl _ rfl _ rfl _ - _ - _ - _ - _ rfl _ rfl _ rfl _ rfl _ rfl _ rfl _ ⟨z, rfl, hz1, hz2, hz⟩
        change wpList _ _ _ _ _ _
        simp only [Act.put, List.setIfInBounds_toArray, List.set_cons_zero, List.set_cons_succ, List.drop_succ_cons, List.drop_zero]
        have HWY : Hid (wayB n (l ++ [z])) := Lib.hid (way_snoc l z hz HWL.out (fun y hy => by
         rw [HP.out.1] at hy
         injection hy with hy
         omega))
        have HJ := Lib.hid (HJ8.out.next hG)
        clear hG hR x0 cy HWD HJ8 u1 cp e49 e62 e65 e78
        have hn1 := newer_allocH w10 (.cells #[vi z] 3)
        have HJ3 := Lib.hid (HJ.out.next hn1)
        have HCW : Hid ((w10.alloc (.cells #[vi z] 3)).cell? ⟨w10.heap.size, 0, none⟩ = some (vi z)) := Lib.hid ((Whole.made w10 3 #[vi z]).at 0 rfl)
        have HLB := Lib.hid (show l.length <= 12 by have := HLI.out; omega)
        clear hn1
        have u1 := HJ.out.bx.at 1 (v := .slice A l.length c) rfl
        go_wp2_with (at_builtin; go_loud ((refine wpList_plain rfl fun _ hK => wp_append_one (.tmp 81) (.tmp 83) 60 rfl w.heap.size 3 i0 (.int .i64 0) 8 Tryz.underlying60 HI.out.1 HI.out.2.1 HI.out.2.2.1 HI.out.2.2.2 rfl A l.length c (l.map fun x : Nat => vi x) rfl HJ3.out.own ⟨w10.heap.size, 0, none⟩ 1 (vi z) rfl HCW.out rfl (by have := HLB.out; unfold maxLen; omega) (by have := HLB.out; omega) HJ3.out.nw.size fun g2 c2 w5 hown hwh => hK _ _ ?_); have HE := Lib.hid (HJ3.out.app hown hwh); have p1 := HE.out.1.at 1 (v := .slice A l.length c) rfl; have pf1 := HE.out.1.free 1; clear hown hwh))
        refine ⟨⟨i + 1, l ++ [z], some ⟨g2, 0, none⟩, c2, rfl, by omega, by rw [List.length_append, HLI.out]; rfl, HWY.out, HE.out.2⟩, ?_⟩
        simp [intOf]
        omega
    ·obtain rfl : i = m := by omega
     have r0 := HJ.out.rb.at 0 (v := vi 0) rfl
     have r1 := HJ.out.rb.at 1 (v := .slice none 0 0) rfl
     have f0 := HJ.out.rb.free 0
     have f1 := HJ.out.rb.free 1
     have u0 := HJ.out.bx.at 0 (v := vi k) rfl
     have u1 := HJ.out.bx.at 1 (v := .slice A l.length c) rfl
     have hset := (HJ.out.rb.set 0 (vi k)).set 1 (.slice A l.length c)
     have z0 := hset.at 0 (v := vi k) rfl
     have z1 := hset.at 1 (v := .slice A l.length c) rfl
     have HF : Hid (newer w ((wr.setCell ⟨w.heap.size + 1 + 1, 0, none⟩ (vi k)).setCell ⟨w.heap.size + 1 + 1, 1, none⟩ (.slice A l.length c)) /\ ((wr.setCell ⟨w.heap.size + 1 + 1, 0, none⟩ (vi k)).setCell ⟨w.heap.size + 1 + 1, 1, none⟩ (.slice A l.length c)).ownsRow w.heap.size 3 1 (.slice A l.length c) l.length (l.map fun x : Nat => vi x)) := Lib.hid ⟨(HJ.out.nw.setCell (p := ⟨w.heap.size + 1 + 1, 0, none⟩) (by show w.heap.size <= w.heap.size + 1 + 1; omega) _).setCell (p := ⟨w.heap.size + 1 + 1, 1, none⟩) (by show w.heap.size <= w.heap.size + 1 + 1; omega) _, own_set (own_set HJ.out.own (own_ne HJ.out.own HJ.out.rb (by decide)) _) (own_ne HJ.out.own HJ.out.rb (by decide)) _⟩
     clear x0 cy HWD hset
     go_wp2_with fail
     refine bodyPost_ret (v := .agg #[vi k, .slice A l.length c]) (by simp [results, Tryz.results19, go_sem, z0, z1]) rfl ⟨⟨k, l.map (fun x : Nat => (x : Int)), A, c⟩, by simp [suV, suC], ?_, ⟨k, l, rfl, rfl, ?_⟩, HF.out.1⟩
     ·exact (row_nats rfl HF.out.2).2
     ·exact ⟨by have := HLI.out; have := HMK.out; omega, by have := HLI.out; have := HMK.out; omega, HWL.out⟩
end

section
open Go.ChangeShapes Go.WideShapes Go.ChangeAt Go.RowKit Go.Deep
section
open Go.RowKit Go.Shelf Go.Deep
structure Whole8 (W : World) (g o : Nat) (b : Bd) : Prop where
 c0 : W.cell? ⟨g, o, none⟩ = some (vi b.drive)
 c2 : W.cell? ⟨g, o + 2, none⟩ = some (vi b.fr.lo)
 c3 : W.cell? ⟨g, o + 3, none⟩ = some (vi b.fr.hi)
 c4 : W.cell? ⟨g, o + 4, none⟩ = some (vi b.co.lo)
 c5 : W.cell? ⟨g, o + 5, none⟩ = some (vi b.co.hi)
 c6 : W.cell? ⟨g, o + 6, none⟩ = some (vi b.wa.lo)
 c7 : W.cell? ⟨g, o + 7, none⟩ = some (vi b.wa.hi)
 f : ∀ i, W.frozen? ⟨g, o + i, none⟩ = false
theorem whole8 {W : World} {B g n c : Nat} {l : List Bd} {k : Nat} {b : Bd} (h : W.ownsRow B 40 8 (.slice (some ⟨g, 0, none⟩) n c) n (l.flatMap bdL)) (hn : n = l.length) (hb : l[k]? = some b) : Whole8 W g (k * 8) b := by
 subst hn
 obtain ⟨cs, hcs⟩ := own_cells h
 obtain ⟨b2, o2, e2, _, d0, d1, d2, d3, d4, d5, d6, d7⟩ := row8 (row_of_own (enc := bdL) (size := 8) (by omega) (fun _ => rfl) h) hb
 obtain ⟨rfl, rfl⟩ : g = b2 /\ 0 = o2 := by simpa using e2
 simp only [Nat.zero_add] at d0 d2 d3 d4 d5 d6 d7
 exact ⟨d0, d2, d3, d4, d5, d6, d7, fun i => hcs.free _⟩
end
end

section
open Go.ChangeShapes Go.WideShapes Go.ChangeAt Go.RowKit Go.Deep
section
open Go.RowKit Go.Shelf Go.Deep
def FacK (s : Sd) (frm : Int) (l : List Int) (e lo hi : Int) (tl : List Rl) : Prop := tl.length <= 1000 /\ (e = 7 -> (facO s frm l tl).2 = 7) /\ (e = 0 -> (facO s frm l tl).2 = 0 /\ lo <= (facO s frm l tl).1 /\ (facO s frm l tl).1 <= hi)
def vTruK (s : Sd) (frm : Int) (l : List Int) (e lo hi : Int) (v : Value) (W : World) : Prop := ∃ A c tl, v = .slice A (tl : List Rl).length c /\ Row rlL 3 W W.heap.size A tl /\ FacK s frm l e lo hi tl
theorem vTruK_st {s : Sd} {frm : Int} {l : List Int} {e lo hi : Int} : ∀ v W W', vTruK s frm l e lo hi v W -> newer W W' -> vTruK s frm l e lo hi v W' := fun _ _ _ ⟨A, c, tl, h1, h2, h3⟩ hb => ⟨A, c, tl, h1, (h2.below hb).more hb.size, h3⟩
def vFac (e lo hi : Int) (v : Value) (_ : World) : Prop := ∃ p q, v = .tuple #[vi p, vi q] /\ (e = 7 -> q = 7) /\ (e = 0 -> q = 0 /\ lo <= p /\ p <= hi)
theorem vFac_st {e lo hi : Int} : ∀ v W W', vFac e lo hi v W -> newer W W' -> vFac e lo hi v W' := fun _ _ _ h _ => h
def vFp (e lo hi : Int) (v : Value) (_ : World) : Prop := ∃ p, v = vi p /\ (e = 0 -> lo <= p /\ p <= hi)
theorem vFp_st {e lo hi : Int} : ∀ v W W', vFp e lo hi v W -> newer W W' -> vFp e lo hi v W' := fun _ _ _ h _ => h
def vFq (e : Int) (v : Value) (_ : World) : Prop := ∃ q, v = vi q /\ (e = 7 -> q = 7) /\ (e = 0 -> q = 0)
theorem vFq_st {e : Int} : ∀ v W W', vFq e v W -> newer W W' -> vFq e v W' := fun _ _ _ h _ => h
theorem fits_len {bs : List Bd} {tl : List Rl} (h : fitsA bs tl = true) : tl.length = bs.length := (fitsA_iff.1 h).1
end
end

end Go.Proofs.YtcdhhfgpdokkoaaGreat
