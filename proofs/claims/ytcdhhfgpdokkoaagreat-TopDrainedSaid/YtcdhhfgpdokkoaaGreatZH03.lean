/- What the last text of this chain needs: H, I, L7, JA, J, K, M, N. -/
import Derived.Test.YtcdhhfgpdokkoaaGreatZH02
namespace Go.Proofs.YtcdhhfgpdokkoaaGreat
section
open Go.RowKit Go.Shelf Go.Deep
structure RsJ (T : RP) (c b sb nb bb lb D : Nat) (n : Int) (r : Loop) (w W : World) : Prop where
 me : ∃ lp, RsM T lp W /\ Good T lp
 sp : Whole W sb 155 #[vi c, vi b]
 nx : Whole W nb 3 #[vi n]
 bx : Whole W bb 3 #[vi b]
 lx : Whole W lb 97 (lkC T.s T.f T.t)
 df : W.heap[D]? = some (.deferred (some []))
 lo : W.heap[D + 1]? = some (.loop r)
 gr : w.grownBy W (some T.mb)
 ml : T.mb < sb
 so : sb = w.heap.size /\ sb < nb /\ nb < lb /\ lb < bb /\ bb < D
section
variable {T : RP} {c b sb nb bb lb D : Nat} {n : Int} {r : Loop} {w W W' : World}
theorem RsJ.next (h : RsJ T c b sb nb bb lb D n r w W) (hb : newer W W') : RsJ T c b sb nb bb lb D n r w W' := by
 obtain ⟨lp, h1, h2⟩ := h.me
 exact ⟨⟨lp, h1.next hb, h2⟩, h.sp.below hb h.sp.lt, h.nx.below hb h.nx.lt, h.bx.below hb h.bx.lt, h.lx.below hb h.lx.lt, (hb.block _ (Array.getElem?_eq_some_iff.1 h.df).1).trans h.df, (hb.block _ (Array.getElem?_eq_some_iff.1 h.lo).1).trans h.lo, grown_below h.gr hb, h.ml, h.so⟩
theorem RsJ.back (h : RsJ T c b sb nb bb lb D n r w W) (hg : W.grownBy W' (some T.mb)) (hm : ∃ lp, RsM T lp W' /\ Good T lp) : RsJ T c b sb nb bb lb D n r w W' := by
 have h1 := h.so
 have h2 := h.ml
 have ne : ∀ {k : Nat}, T.mb < k -> some k ≠ some T.mb := fun h e => by injection e; omega
 exact ⟨hm, h.sp.grown hg (ne h2), h.nx.grown hg (ne (by omega)), h.bx.grown hg (ne (by omega)), h.lx.grown hg (ne (by omega)), (hg.block _ (Array.getElem?_eq_some_iff.1 h.df).1 (ne (by omega))).trans h.df, (hg.block _ (Array.getElem?_eq_some_iff.1 h.lo).1 (ne (by omega))).trans h.lo, grown_trans h.gr hg, h.ml, h.so⟩
end
structure RpLt (T : RP) (q : Nat) : Prop where
 x : T.xb < q
 t : T.tb < q
 k : T.kb < q
 p : T.pb < q
 f : T.fb < q
 m : T.mb < q
theorem RsM.lts {T : RP} {lp : List ((Int × Int) × Int)} {W : World} (h : RsM T lp W) : RpLt T W.heap.size := ⟨h.xl.lt, h.tl.lt, h.kl.lt, h.pl.lt, h.fl.lt, h.mm.lt⟩
section
variable {T : RP} {c b sb nb bb lb D : Nat} {n : Int} {r : Loop} {w W W' : World}
theorem RsJ.put (hT : RpOk T) (hl : RpLt T w.heap.size) (h : RsJ T c b sb nb bb lb D n r w W) (r' : Loop) : RsJ T c b sb nb bb lb D n r' w (W.putObj (D + 1) (.loop r')) := by
 obtain ⟨lp, h1, h2⟩ := h.me
 have h3 := h.so
 have h4 := hl.x
 have h5 := hl.t
 have h6 := hl.k
 have h7 := hl.p
 have h8 := hl.f
 have h9 := hl.m
 have hB := hT.bm
 have hD := (Array.getElem?_eq_some_iff.1 h.lo).1
 exact ⟨⟨lp, h1.far (grown_putL _ _ _) (by omega) (by omega) (by omega) (by omega) (by omega) (by omega) (by omega), h2⟩, h.sp.put (by omega) _, h.nx.put (by omega) _, h.bx.put (by omega) _, h.lx.put (by omega) _, (World.putObj_heap_other (by omega)).trans h.df, World.putObj_heap_same hD, grown_put h.gr (by omega) _, h.ml, h.so⟩
theorem RsJ.set (hT : RpOk T) (hl : RpLt T w.heap.size) (h : RsJ T c b sb nb bb lb D n r w W) (v : Int) : RsJ T c b sb nb bb lb D v r w (W.setCell ⟨nb, 0, none⟩ (vi v)) := by
 obtain ⟨lp, h1, h2⟩ := h.me
 have h3 := h.so
 have h4 := hl.x
 have h5 := hl.t
 have h6 := hl.k
 have h7 := hl.p
 have h8 := hl.f
 have h9 := hl.m
 have hB := hT.bm
 have hg : W.grownBy (W.setCell ⟨nb, 0, none⟩ (vi v)) (some nb) := grown_set (p := ⟨nb, 0, none⟩) (grown_refl W (some nb)) (.inl rfl) _
 have ne : ∀ {k : Nat}, k ≠ nb -> some k ≠ some nb := fun h e => h (by injection e)
 exact ⟨⟨lp, h1.far hg (by omega) (by omega) (by omega) (by omega) (by omega) (by omega) (by omega), h2⟩, h.sp.grown hg (ne (by omega)), h.nx.set 0 (vi v), h.bx.grown hg (ne (by omega)), h.lx.grown hg (ne (by omega)), (hg.block _ (Array.getElem?_eq_some_iff.1 h.df).1 (ne (by omega))).trans h.df, (hg.block _ (Array.getElem?_eq_some_iff.1 h.lo).1 (ne (by omega))).trans h.lo, grown_set (p := ⟨nb, 0, none⟩) h.gr (.inr (by show w.heap.size <= nb; omega)) _, h.ml, h.so⟩
end
def vTwo (B m : Nat) (x y : Int) (v : Value) (W : World) : Prop := ∃ q, v = .slice (some ⟨q, 0, none⟩) 2 2 /\ B <= q /\ m < q /\ Whole W q 3 #[vi x, vi y]
theorem vTwo_st {B m : Nat} {x y : Int} : ∀ v W W', vTwo B m x y v W -> W.grownBy W' (some m) -> vTwo B m x y v W' := fun _ _ _ ⟨q, h1, h2, h3, h4⟩ hb => ⟨q, h1, h2, h3, h4.grown hb (fun e => by injection e; omega)⟩
theorem minL_snoc (z : Int) (l : List Int) (x : Int) : minL z (l ++ [x]) = mnI (minL z l) x := by simp [minL]
theorem near_take (n b k : Nat) (f : Nat -> Int) (hk : k < cntN n b) : minL bigN (((nearL n b).take (k + 1)).map f) = mnI (minL bigN (((nearL n b).take k).map f)) (f (loN b + k)) := by
 rw [near_is, List.take_add_one, List.getElem?_range' hk, List.map_append, Option.toList_some, List.map_cons, List.map_nil, minL_snoc, Nat.one_mul]
theorem minL_bd {l : List Int} {z lo : Int} (h : ∀ x ∈ l, lo <= x) (hz : lo <= z) : lo <= minL z l := by
 rcases minL_mem l z with e | e
 ·omega
 ·exact h _ e
theorem rest_bd {c : Nat -> Nat -> Int} {n : Nat} (hc : ∀ k b, -1300100000 <= c k b /\ c k b <= 1300100000) : ∀ (m k b : Nat), m < 20 -> -(((m : Int) + 1) * 1300100000) <= restN c n bigN m k b /\ restN c n bigN m k b <= bigN + 1300100000 := by
 intro m
 induction m with
 | zero =>
  intro k b _
  have := hc k b
  simp only [restN, bigN]
  omega
 | succ m ih =>
  intro k b hm
  have h1 := hc k b
  have h2 : minL bigN ((nearL n b).map (restN c n bigN m (k + 1))) <= bigN := (minL_le _ _).1
  have h3 : -(((m : Int) + 1) * 1300100000) <= minL bigN ((nearL n b).map (restN c n bigN m (k + 1))) := by
   refine minL_bd ?_ (by simp only [bigN]; omega)
   intro x hx
   obtain ⟨y, _, rfl⟩ := List.mem_map.1 hx
   exact (ih (k + 1) y (by omega)).1
  simp only [restN]
  simp only [bigN] at h2 h3 ⊢
  omega
theorem mem_put (a : Int × Int) (v : Int) (l : List ((Int × Int) × Int)) : (a, v) ∈ putR a v l := by
 unfold putR
 split
 ·rename_i i p h
  have h2 := (atR_some h).2
  have h3 := (List.getElem?_eq_some_iff.1 h2).1
  exact List.mem_iff_getElem?.2 ⟨i, by rw [List.getElem?_set_self (by omega)]⟩
 ·simp
theorem look_put (a : Int × Int) (v : Int) (l : List ((Int × Int) × Int)) : ∃ iv, atR a (putR a v l) 0 = some iv := by
 cases h : atR a (putR a v l) 0 with
 | some iv => exact ⟨iv, rfl⟩
 | none => exact absurd rfl (atR_none h _ (mem_put a v l))
theorem vIsG {v : Value} {m : Nat} : ∀ (x : Value) (W W' : World), vIs v x W -> W.grownBy W' (some m) -> vIs v x W' := fun _ _ _ h _ => h
theorem newer_drew_ (w : World) : newer w w.drew := (Below.refl _ w).drew
theorem near_all (n b : Nat) : (nearL n b).take (cntN n b) = nearL n b := by
 rw [near_is]
 exact List.take_of_length_le (by simp)
set_option maxRecDepth 100000 in
set_option maxHeartbeats 1000000 in
theorem recur_step (T : RP) (hT : RpOk T) (m : Nat) (IH : ∀ m', m = m' + 1 -> RestC T m') : RestC T m := by
 intro c b lp w hcm hb hm hg
 have HG := Lib.hid hg
 have hlt := hm.lts
 have HLT := Lib.hid hlt
 have HIH := Lib.hid IH
 have h1 := newer_allocH w (.cells #[vi c, vi b] 155)
 have HF := Lib.hid (And.intro (hm.next h1) (And.intro (Whole.made w 155 #[vi c, vi b]) h1))
 clear hg hm hlt h1 IH
 refine callsIn_wide.1 (callsIn_of_wp_marks (n := 9) Tryz.func79 rfl trivial ?_ rfl)
 simp only [Tryz.ntmps79, List.size_toArray, List.length_cons, List.length_nil, Nat.reduceAdd, Nat.reduceSub, Array.replicate_succ, Array.replicate_zero, List.push_toArray, List.append_toArray, List.nil_append, List.cons_append]
 refine wpIn_wide.2 ?_
 go_upto_region 1 with fail
 refine genQ (fun X => RsM T lp X /\ Whole X w.heap.size 155 #[vi c, vi b] /\ newer w X) HF.out ?_
 clear HF
 obtain ⟨sb, hsb⟩ : ∃ sb, sb = w.heap.size := ⟨_, rfl⟩
 have HSB := Lib.hid hsb
 rw [<- hsb]
 clear hsb
 rintro w1 ⟨hm1, hs1, hn1⟩
 have H1 := Lib.hid (And.intro hm1 (And.intro hs1 hn1))
 have s0 := hs1.at 0 (v := vi c) rfl
 have s1 := hs1.at 1 (v := vi b) rfl
 have t0 := hm1.tl.at 0 (v := vi T.z) rfl
 have k0 := hm1.kl.at 0 (v := .map (some T.mb)) rfl
 have p0 := hm1.pl.at 0 (v := .func (.func 78) #[lkV T.s T.f T.t] #[]) rfl
 have HPR := Lib.hid (fun (W : World) (h : SmOk T.s W) => price_any (W := W) hT h (k := c) (j := b) (by omega) hb)
 clear hm1 hs1 hn1
 cases m with
 | zero =>
  obtain rfl : c = T.z := by omega
  go_wp2_with fail
  refine (HPR.out _ H1.out.1.at_.ok).mono ?_
  rintro e w2 ⟨rfl, hb2⟩
  have HB := Lib.hid (And.intro (H1.out.1.next hb2) (newer_trans H1.out.2.2 hb2))
  clear hb2
  go_wp2_with fail
  exact ⟨_, by simp [results, Tryz.results79, go_sem]; rfl, rfl, lp, HB.out.1, HG.out, grown_of_newer HB.out.2 _⟩
 | succ m' =>
  have HIR := Lib.hid (HIH.out m' rfl)
  have hne : ((c : Int) == T.z) = false := by rw [beq_eq_false_iff_ne]; omega
  have HZ := Lib.hid (show T.z - c = m' + 1 by omega)
  clear HIH
  cases ha : atR ((c : Int), (b : Int)) lp 0 with
  | some iv =>
   obtain ⟨i, v⟩ := iv
   have HH := Lib.hid ha
   have HV := Lib.hid (good_look HG.out ha)
   clear ha
   go_wp2_with (at_lookup; refine wpList_lookup_r _ rfl _ _ 152 true rfl spot_key Tryz.underlying152 (zero3 _) T.mb lp rfl H1.out.1.mm ((c : Int), (b : Int)) rfl ?_; simp only [HH.out, Option.map_some, Option.getD_some, Option.isSome_some, if_true])
   exact ⟨_, by simp [results, Tryz.results79, go_sem]; rfl, by rw [HV.out, HZ.out], lp, H1.out.1, HG.out, grown_of_newer H1.out.2.2 _⟩
  | none =>
   have HH := Lib.hid ha
   clear ha
   go_upto_region 7 with (at_lookup; refine wpList_lookup_r _ rfl _ _ 152 true rfl spot_key Tryz.underlying152 (zero3 _) T.mb lp rfl H1.out.1.mm ((c : Int), (b : Int)) rfl ?_; simp only [HH.out, Option.map_none, Option.getD_none, Option.isSome_none, if_true])
   have hn0 : newer w1 (w1.alloc (.cells #[vi bigN] 3)) := newer_allocH _ _
   have HN := Lib.hid (show RsM T lp (w1.alloc (.cells #[vi bigN] 3)) /\ Whole (w1.alloc (.cells #[vi bigN] 3)) sb 155 #[vi c, vi b] /\ Whole (w1.alloc (.cells #[vi bigN] 3)) w1.heap.size 3 #[vi bigN] /\ newer w (w1.alloc (.cells #[vi bigN] 3)) from ⟨H1.out.1.next hn0, H1.out.2.1.below hn0 H1.out.2.1.lt, Whole.made _ _ _, newer_trans H1.out.2.2 hn0⟩)
   clear hn0 HH s0 s1 t0 k0 p0
   have HNB := Lib.hid (show sb < w1.heap.size from H1.out.2.1.lt)
   clear H1
   refine genQ (fun X => RsM T lp X /\ Whole X sb 155 #[vi c, vi b] /\ Whole X w1.heap.size 3 #[vi bigN] /\ newer w X) HN.out ?_
   clear HN
   obtain ⟨nb, hnb⟩ : ∃ nb, nb = w1.heap.size := ⟨_, rfl⟩
   rw [<- hnb] at HNB ⊢
   clear hnb
   rintro w2 ⟨hm2, hs2, hb2, hn2⟩
   have s1 := hs2.at 1 (v := vi b) rfl
   have l0 := hm2.xl.at 0 (v := .slice T.s.a T.s.cs.length T.s.c) rfl
   have l1 := hm2.xl.at 1 (v := vi T.s.least) rfl
   have l2 := hm2.xl.at 2 (v := vi T.f) rfl
   have l3 := hm2.xl.at 3 (v := .func (.func (trF T.t)) #[] #[]) rfl
   have H2 := Lib.hid (And.intro hm2 (And.intro hs2 (And.intro hb2 hn2)))
   clear hm2 hs2 hb2 hn2
   go_wp2_with fail
   refine (next_any T.s T.f T.t b _).mono ?_
   rintro e w6 ⟨rfl, hw6⟩
   have HX6 : Hid (RsM T lp w6 /\ Whole w6 sb 155 #[vi c, vi b] /\ Whole w6 nb 3 #[vi bigN] /\ newer w w6 /\ Whole w6 (w2.heap.size + 1) 3 #[vi b] /\ Whole w6 w2.heap.size 97 (lkC T.s T.f T.t) /\ nb < w2.heap.size) := Lib.hid (by
    have e1 : newer w2 (w2.alloc (.cells (lkC T.s T.f T.t) 97)) := newer_allocH _ _
    have e2 : newer (w2.alloc (.cells (lkC T.s T.f T.t) 97)) w6 := hw6 ▸ newer_allocH _ _
    have e3 := newer_trans e1 e2
    obtain ⟨a1, a2, a3, a4⟩ := H2.out
    refine ⟨a1.next e3, a2.below e3 a2.lt, a3.below e3 a3.lt, newer_trans a4 e3, ?_, ?_, a3.lt⟩
    ·rw [<- hw6]
     have e5 := Whole.made (w2.alloc (.cells (lkC T.s T.f T.t) 97)) 3 #[vi b]
     rw [World.size_alloc] at e5
     exact e5
    ·have e4 := Whole.made w2 97 (lkC T.s T.f T.t)
     exact e4.below e2 e4.lt)
   obtain ⟨lb, hlb⟩ : ∃ lb, lb = w2.heap.size := ⟨_, rfl⟩
   rw [<- hlb] at HX6 ⊢
   clear hlb hw6 H2 s1 l0 l1 l2 l3
   obtain ⟨x, _, hx, _, hxl, _, _⟩ := sm_bed hT.sd (k := 0) (j := b) (by have := hT.zl; omega) hb
   have HNN := Lib.hid (show x.beds.length = T.n from hxl)
   have hxn : x.beds.length <= 1000 := by have := hT.sd.beds; omega
   go_wp2_with fail
   refine (wpIn_wide (n := 9)).1 (range_law (gf := 93) (lb := #[.pointer (some ⟨lb + 1, 0, none⟩), .pointer (some ⟨lb, 0, none⟩)]) rfl (enters_of Tryz.func93 (by kernel_rfl) rfl) ?_)
   intro r0 r1 r2 r3 r4 r5 r6
   refine (callsIn_wide.1 (next_in 8 (w6.heap.size + 1) (lb + 1) lb T.s T.f T.t x b hx (by rw [HNN.out]; exact hb) hxn (fun k W => RsJ T c b sb nb (lb + 1) lb w6.heap.size (minL bigN (((nearL T.n b).take k).map (restN T.c T.n bigN m' (c + 1)))) r0 w W) ?hJ ?hN ?hY _ ?h0)).mono ?_
   case hJ => 
    intro k W hj
    obtain ⟨_, g1, _⟩ := hj.me
    exact ⟨hj.bx, hj.lx, g1.at_.ok⟩
   case hN => exact fun k W W' hj hb => hj.next hb
   case h0 =>
    have e1 := newer_trans (newer_allocH w6 (.deferred (some []))) (newer_allocH (w6.alloc (.deferred (some []))) (.loop r0))
    obtain ⟨a1, a2, a3, a4, a5, a6, a7⟩ := HX6.out
    have b1 := HSB.out
    have b2 := HLT.out.m
    have b3 := HNB.out
    have b4 := a5.lt
    refine ⟨⟨lp, a1.next e1, HG.out⟩, a2.below e1 a2.lt, a3.below e1 a3.lt, a5.below e1 a5.lt, a6.below e1 a6.lt, ?_, ?_, grown_of_newer (newer_trans a4 e1) _, by omega, by omega⟩
    ·simp only [heap_if, World.size_alloc]
     repeat rw [if_neg (by omega)]
     rfl
    ·simp only [heap_if, World.size_alloc]
     repeat rw [if_neg (by omega)]
     rfl
   case hY =>
    intro k W hk hj
    rw [show ((loN b : Nat) : Int) + (k : Int) = ((loN b + k : Nat) : Int) from rfl]
    rw [HNN.out] at hk
    rw [near_take T.n b k _ hk]
    obtain ⟨rv, hrv⟩ : ∃ rv, rv = restN T.c T.n bigN m' (c + 1) (loN b + k) := ⟨_, rfl⟩
    have HRV := Lib.hid hrv
    rw [<- hrv]
    clear hrv
    have hkn : loN b + k < T.n := by
     unfold cntN at hk
     unfold loN
     omega
    obtain ⟨nk, hnk⟩ : ∃ nk, nk = minL bigN (((nearL T.n b).take k).map (restN T.c T.n bigN m' (c + 1))) := ⟨_, rfl⟩
    rw [<- hnk] at hj ⊢
    clear hnk
    refine yield_round (r := r0) hj.lo r1 r2 (by rw [r4]; rfl) ?_
    rw [r3, r4, r5, r6]
    simp only [List.zip_toArray, List.zip_cons_cons, List.zip_nil_right, List.foldl_toArray, List.foldl_cons, List.foldl_nil, List.setIfInBounds_toArray, List.set_cons_zero, List.set_cons_succ]
    gi_wp2_with fail
    refine ⟨hj.lo, ?_⟩
    have hj5 := hj.put hT HLT.out (busyOf r0)
    obtain ⟨w7, hw7⟩ : ∃ w7, w7 = W.putObj (w6.heap.size + 1) (.loop (busyOf r0)) := ⟨_, rfl⟩
    rw [<- hw7] at hj5 ⊢
    clear hw7 hj W
    obtain ⟨bb, hbb⟩ : ∃ bb, bb = lb + 1 := ⟨_, rfl⟩
    obtain ⟨D, hD⟩ : ∃ D, D = w6.heap.size := ⟨_, rfl⟩
    rw [<- hbb, <- hD] at hj5 ⊢
    have HJ := Lib.hid hj5
    have c39 : IntKind.i64.wrap ((c : Int) + 1) = ((c + 1 : Nat) : Int) := IntWalk.i64_in _ (by have := hT.zl; have := hT.sd.cols; have := sd_len (s := T.s); omega)
    clear hj5 r1 r2 r3 r4 r5 r6 hbb hD HX6
    gi_wp2_with fail
    refine round_words (by kernel_rfl) (by kernel_rfl) (fun _ _ h => h) (region_told 10 (by kernel_rfl) (by kernel_rfl) (RsJ T c b sb nb bb lb D nk (busyOf r0) w) (fun A B => A.grownBy B (some T.mb)) (pickD [vIs (vi nk), vIs (.func (.func 79) #[] (rpA T)), vIs (.pointer (some ⟨sb, 0, none⟩)), vIs (vi c), vIs (vi (c + 1 : Nat)), vIs (vi (loN b + k : Nat)), vIs (.agg #[vi (c + 1 : Nat), vi (loN b + k : Nat)]), vIs (vi rv), vTwo w7.heap.size T.mb nk rv, vIs (vi (mnI nk rv))]) (fun h k => grown_trans h k) (pickD_stable _ ⟨vIsG, vIsG, vIsG, vIsG, vIsG, vIsG, vIsG, vIsG, vTwo_st, vIsG, trivial⟩) (HJ.out.next (newer_drew_ _)) (grown_refl _ _) ?_ ?_)
    ·refine ⟨?_, ?_, ?_, ?_, ?_, ?_, ?_, ?_, ?_, ?_, trivial⟩
     ·intro a W hG hR hO hp; have h10 := hO.slot 10 (by kernel_rfl); have c0 := hG.nx.at 0 (v := vi nk) rfl; refine wp_yields (v := vi nk) ?_ ⟨_, rfl, rfl, grown_refl _ _, hG⟩; simp [slotOf] at h10; simp [execOp, go_sem, h10, c0]
     ·intro a W hG hR hO hp; have h5 := hO.slot 5 (by kernel_rfl); obtain ⟨lp, hM, hgd⟩ := hG.me; have c0 := hM.fl.at 0 (v := .func (.func 79) #[] (rpA T)) rfl; refine wp_yields (v := .func (.func 79) #[] (rpA T)) ?_ ⟨_, rfl, rfl, grown_refl _ _, hG⟩; simp [slotOf] at h5; simp [execOp, go_sem, h5, c0]
     ·intro a W hG hR hO hp; have h6 := hO.slot 6 (by kernel_rfl); refine wp_yields (v := .pointer (some ⟨sb, 0, none⟩)) ?_ ⟨_, rfl, rfl, grown_refl _ _, hG⟩; simp [slotOf] at h6; simp [execOp, go_sem, h6]
     ·intro a W hG hR hO hp; have h37 : slotOf a 37 = .pointer (some ⟨sb, 0, none⟩) := hp.1; have c0 := hG.sp.at 0 (v := vi c) rfl; refine wp_yields (v := vi c) ?_ ⟨_, rfl, rfl, grown_refl _ _, hG⟩; simp [slotOf] at h37; simp [execOp, go_sem, h37, c0]
     ·intro a W hG hR hO hp; have h38 : slotOf a 38 = vi c := hp.1; refine wp_yields (v := vi (c + 1 : Nat)) ?_ ⟨_, rfl, rfl, grown_refl _ _, hG⟩; simp [slotOf] at h38; simp [execOp, go_sem, h38, c39]
     ·intro a W hG hR hO hp; have h11 := hO.slot 11 (by kernel_rfl); refine wp_yields (v := vi (loN b + k : Nat)) ?_ ⟨_, rfl, rfl, grown_refl _ _, hG⟩; simp [slotOf] at h11; simp [execOp, go_sem, h11]
     ·intro a W hG hR hO hp; have h39 : slotOf a 39 = vi (c + 1 : Nat) := hp.1; have h40 : slotOf a 40 = vi (loN b + k : Nat) := hp.2.1; refine wp_yields (v := .agg #[vi (c + 1 : Nat), vi (loN b + k : Nat)]) ?_ ⟨_, rfl, rfl, grown_refl _ _, hG⟩; simp [slotOf] at h39 h40; simp [execOp, go_sem, h39, h40]
     ·intro a W hG hR hO hp
      have h36 : slotOf a 36 = .func (.func 79) #[] (rpA T) := hp.1
      have h41 : slotOf a 41 = .agg #[vi (c + 1 : Nat), vi (loN b + k : Nat)] := hp.2.1
      obtain ⟨lp, hM, hgd⟩ := hG.me
      have hcc := HIR.out (c + 1) (loN b + k) lp W (by omega) (by omega) hM hgd
      rw [<- HRV.out] at hcc
      obtain ⟨ar, har⟩ : ∃ ar, ar = #[.agg #[vi (c + 1 : Nat), vi (loN b + k : Nat)]] ++ rpA T := ⟨_, rfl⟩
      rw [<- har] at hcc
      refine wp_enters (f := 79) (args := ar) ?_ (hcc.mono ?_)
      ·simp [slotOf] at h36 h41
       rw [har]
       simp [execOp, go_sem, h36, h41]
      ·rintro e w' ⟨rfl, lp2, g1, g2, g3⟩
       exact ⟨_, rfl, _, rfl, rfl, g3, hG.back g3 ⟨lp2, g1, g2⟩⟩
     ·intro a W hG hR hO hp
      have h35 : slotOf a 35 = vi nk := hp.1
      have h42 : slotOf a 42 = vi rv := hp.2.1
      refine wp_makes (v := .slice (some ⟨W.heap.size, 0, none⟩) 2 2) (W' := W.alloc (.cells #[vi nk, vi rv] 3)) ?_ ⟨_, rfl, ⟨W.heap.size, rfl, Nat.le_trans (Nat.le_refl _) hR.size, ?_, Whole.made _ _ _⟩, grown_alloc (grown_refl _ _) _, hG.next (newer_allocH _ _)⟩
      ·simp [slotOf] at h35 h42
       simp [execOp, go_sem, h35, h42]
      ·have h1 := hG.sp.lt
       have h2 := hG.ml
       omega
     ·intro a W hG hR hO hp
      have h43 := hp.1
      obtain ⟨q, h43, hq1, hq2, hq3⟩ := h43
      refine wp_enters (f := 81) (args := #[.slice (some ⟨q, 0, none⟩) 2 2]) ?_ ((least2_any nk rv q 2 W hq3).mono ?_)
      ·simp [slotOf] at h43
       simp [go_sem, h43]
      ·rintro e w' ⟨rfl, rfl⟩
       exact ⟨_, rfl, _, rfl, rfl, grown_refl _ _, hG⟩
    ·intro W hG hR
     rintro _ rfl _ rfl _ rfl _ rfl _ rfl _ rfl _ rfl _ rfl _ hv43 _ rfl
     change wpList _ _ _ _ _ _
     simp only [Act.put, List.setIfInBounds_toArray, List.set_cons_zero, List.set_cons_succ, List.drop_succ_cons, List.drop_zero]
     have n0 := hG.nx.at 0 (v := vi nk) rfl
     have nf := hG.nx.free 0
     have hsc := setCell_same n0
     have hS := hG.set hT HLT.out (mnI nk rv)
     have HX8 := Lib.hid (And.intro hS.lo (hS.put hT HLT.out r0))
     clear hS hG hR
     go_wp2_with fail
     refine onlyN_intro ?_
     gi_wp2_with fail
     exact ⟨HX8.out.1, rfl, HX8.out.2⟩
   ·rintro e W ⟨⟨v, rfl⟩, hj⟩
    refine ⟨⟨_, rfl⟩, .inl ⟨hj.lo, ?_⟩⟩
    rw [HNN.out, near_all] at hj
    obtain ⟨nz, hnz⟩ : ∃ nz, nz = minL bigN ((nearL T.n b).map (restN T.c T.n bigN m' (c + 1))) := ⟨_, rfl⟩
    rw [<- hnz] at hj
    obtain ⟨pc, hpc⟩ : ∃ pc, pc = T.c c b := ⟨_, rfl⟩
    rw [<- hpc] at HPR
    have HVV := Lib.hid (show pc + nz = restN T.c T.n bigN (m' + 1) c b by rw [hpc, hnz]; rfl)
    have c54 : IntKind.i64.wrap (pc + nz) = pc + nz := by
     have h1 : -1300100000 <= T.c c b /\ T.c c b <= 1300100000 := cF_bd (ok_of hT) hT.f0 hT.f1 c b
     rw [<- hpc] at h1
     have h2 : nz <= bigN := hnz ▸ (minL_le _ _).1
     have h3 : -(((m' : Int) + 1) * 1300100000) <= nz := by
      rw [hnz]
      refine minL_bd ?_ (by simp only [bigN]; omega)
      intro x hx
      obtain ⟨y, _, rfl⟩ := List.mem_map.1 hx
      exact (rest_bd (c := T.c) (n := T.n) (fun k b => cF_bd (ok_of hT) hT.f0 hT.f1 k b) m' (c + 1) y (by have := hT.zl; have := hT.sd.cols; have := sd_len (s := T.s); omega)).1
     have h4 : m' < 20 := by have := hT.zl; have := hT.sd.cols; have := sd_len (s := T.s); omega
     simp only [bigN] at h2
     exact IntWalk.i64_in _ (by omega)
    clear hnz hpc
    have HJ := Lib.hid (hj.put hT HLT.out (overOf r0))
    clear hj r1 r2 r3 r4 r5 r6 HX6
    go_upto_region 10 with fail
    obtain ⟨⟨lp2, q1, q2⟩, q3, q4, _, _, q5, _, q6, _, qs⟩ := HJ.out
    have HSO := Lib.hid qs
    have HG2 := Lib.hid q2
    have HJ2 := Lib.hid (And.intro q1 (And.intro q3 (And.intro q4 (And.intro q5 q6))))
    clear q1 q2 q3 q4 q5 q6 qs HJ
    refine genQ (fun X => RsM T lp2 X /\ Whole X sb 155 #[vi c, vi b] /\ Whole X nb 3 #[vi nz] /\ X.heap[w6.heap.size]? = some (.deferred (some [])) /\ w.grownBy X (some T.mb)) HJ2.out ?_
    clear HJ2
    intro we he
    have HE := Lib.hid he
    clear he
    refine wp_words (by kernel_rfl) (region_told 10 (by kernel_rfl) (by kernel_rfl) (fun W => Below we.heap.size we W) newer (pickD [vIs (.map (some T.mb)), vIs (.agg #[vi c, vi b]), vIs (.func (.func 78) #[lkV T.s T.f T.t] #[]), vIs (.pointer (some ⟨sb, 0, none⟩)), vIs (vi c), vIs (.pointer (some ⟨sb, 1, none⟩)), vIs (vi b), vIs (vi pc), vIs (vi nz), vIs (vi (pc + nz))]) (fun h k => newer_trans h k) (pickD_stable _ ⟨vIs_st, vIs_st, vIs_st, vIs_st, vIs_st, vIs_st, vIs_st, vIs_st, vIs_st, vIs_st, trivial⟩) (Below.refl _ we).drew (Below.refl _ _) ?_ ?_)
    ·refine ⟨?_, ?_, ?_, ?_, ?_, ?_, ?_, ?_, ?_, ?_, trivial⟩
     ·intro a W hG hR hO hp; have h3 := hO.slot 3 (by kernel_rfl); have hM := HE.out.1.next hG; have hs := HE.out.2.1.below hG HE.out.2.1.lt; have hn := HE.out.2.2.1.below hG HE.out.2.2.1.lt; have c0 := hM.kl.at 0 (v := .map (some T.mb)) rfl; refine wp_yields (v := .map (some T.mb)) ?_ ⟨_, rfl, rfl, Below.refl _ _, hG⟩; simp [slotOf] at h3; simp [execOp, go_sem, h3, c0]
     ·intro a W hG hR hO hp; have h6 := hO.slot 6 (by kernel_rfl); have hM := HE.out.1.next hG; have hs := HE.out.2.1.below hG HE.out.2.1.lt; have hn := HE.out.2.2.1.below hG HE.out.2.2.1.lt; have c0 := hs.at 0 (v := vi c) rfl; have c1 := hs.at 1 (v := vi b) rfl; refine wp_yields (v := .agg #[vi c, vi b]) ?_ ⟨_, rfl, rfl, Below.refl _ _, hG⟩; simp [slotOf] at h6; simp [execOp, go_sem, h6, c0, c1]
     ·intro a W hG hR hO hp; have h2 := hO.slot 2 (by kernel_rfl); have hM := HE.out.1.next hG; have hs := HE.out.2.1.below hG HE.out.2.1.lt; have hn := HE.out.2.2.1.below hG HE.out.2.2.1.lt; have c0 := hM.pl.at 0 (v := .func (.func 78) #[lkV T.s T.f T.t] #[]) rfl; refine wp_yields (v := .func (.func 78) #[lkV T.s T.f T.t] #[]) ?_ ⟨_, rfl, rfl, Below.refl _ _, hG⟩; simp [slotOf] at h2; simp [execOp, go_sem, h2, c0]
     ·intro a W hG hR hO hp; have h6 := hO.slot 6 (by kernel_rfl); have hM := HE.out.1.next hG; have hs := HE.out.2.1.below hG HE.out.2.1.lt; have hn := HE.out.2.2.1.below hG HE.out.2.2.1.lt; refine wp_yields (v := .pointer (some ⟨sb, 0, none⟩)) ?_ ⟨_, rfl, rfl, Below.refl _ _, hG⟩; simp [slotOf] at h6; simp [execOp, go_sem, h6]
     ·intro a W hG hR hO hp; have h48 : slotOf a 48 = .pointer (some ⟨sb, 0, none⟩) := hp.1; have hM := HE.out.1.next hG; have hs := HE.out.2.1.below hG HE.out.2.1.lt; have hn := HE.out.2.2.1.below hG HE.out.2.2.1.lt; have c0 := hs.at 0 (v := vi c) rfl; refine wp_yields (v := vi c) ?_ ⟨_, rfl, rfl, Below.refl _ _, hG⟩; simp [slotOf] at h48; simp [execOp, go_sem, h48, c0]
     ·intro a W hG hR hO hp; have h6 := hO.slot 6 (by kernel_rfl); have hM := HE.out.1.next hG; have hs := HE.out.2.1.below hG HE.out.2.1.lt; have hn := HE.out.2.2.1.below hG HE.out.2.2.1.lt; refine wp_yields (v := .pointer (some ⟨sb, 1, none⟩)) ?_ ⟨_, rfl, rfl, Below.refl _ _, hG⟩; simp [slotOf] at h6; simp [execOp, go_sem, h6]
     ·intro a W hG hR hO hp; have h50 : slotOf a 50 = .pointer (some ⟨sb, 1, none⟩) := hp.1; have hM := HE.out.1.next hG; have hs := HE.out.2.1.below hG HE.out.2.1.lt; have hn := HE.out.2.2.1.below hG HE.out.2.2.1.lt; have c0 := hs.at 1 (v := vi b) rfl; refine wp_yields (v := vi b) ?_ ⟨_, rfl, rfl, Below.refl _ _, hG⟩; simp [slotOf] at h50; simp [execOp, go_sem, h50, c0]
     ·intro a W hG hR hO hp
      have h47 : slotOf a 47 = .func (.func 78) #[lkV T.s T.f T.t] #[] := hp.1
      have h49 : slotOf a 49 = vi c := hp.2.1
      have h51 : slotOf a 51 = vi b := hp.2.2.1
      have hM := HE.out.1.next hG
      have hs := HE.out.2.1.below hG HE.out.2.1.lt
      have hn := HE.out.2.2.1.below hG HE.out.2.2.1.lt
      refine wp_enters (f := 78) (args := #[lkV T.s T.f T.t, vi c, vi b]) ?_ ((HPR.out W hM.at_.ok).mono ?_)
      ·simp [slotOf] at h47 h49 h51
       simp [execOp, go_sem, h47, h49, h51]
      ·rintro e w' ⟨rfl, hb⟩
       exact ⟨_, rfl, _, rfl, rfl, hb, below_next hG hb⟩
     ·intro a W hG hR hO hp; have h10 := hO.slot 10 (by kernel_rfl); have hM := HE.out.1.next hG; have hs := HE.out.2.1.below hG HE.out.2.1.lt; have hn := HE.out.2.2.1.below hG HE.out.2.2.1.lt; have c0 := hn.at 0 (v := vi nz) rfl; refine wp_yields (v := vi nz) ?_ ⟨_, rfl, rfl, Below.refl _ _, hG⟩; simp [slotOf] at h10; simp [execOp, go_sem, h10, c0]
     ·intro a W hG hR hO hp; have h52 : slotOf a 52 = vi pc := hp.1; have h53 : slotOf a 53 = vi nz := hp.2.1; have hM := HE.out.1.next hG; have hs := HE.out.2.1.below hG HE.out.2.1.lt; have hn := HE.out.2.2.1.below hG HE.out.2.2.1.lt; refine wp_yields (v := vi (pc + nz)) ?_ ⟨_, rfl, rfl, Below.refl _ _, hG⟩; simp [slotOf] at h52 h53; simp [execOp, go_sem, h52, h53, c54]
    ·intro wu hG hR
     rintro _ rfl _ rfl _ rfl _ rfl _ rfl _ rfl _ rfl _ rfl _ rfl _ rfl
     change wpList _ _ _ _ _ _
     simp only [Act.put, List.setIfInBounds_toArray, List.set_cons_zero, List.set_cons_succ, List.drop_succ_cons, List.drop_zero]
     obtain ⟨lp3, hlp3⟩ : ∃ lp3, lp3 = putR ((c : Int), (b : Int)) (pc + nz) lp2 := ⟨_, rfl⟩
     refine wpList_update_r _ rfl _ _ _ 152 rfl spot_key Tryz.underlying152 T.mb lp2 rfl (HE.out.1.next hG).mm ((c : Int), (b : Int)) (pc + nz) rfl rfl ?_
     rw [<- hlp3]
     have HLO := Lib.hid (show ∃ iv, atR ((c : Int), (b : Int)) lp3 0 = some iv from hlp3 ▸ look_put _ _ _)
     have HG3 : Hid (Good T lp3) := Lib.hid (hlp3 ▸ good_put HG2.out (by omega) (by rw [HVV.out, HZ.out]))
     obtain ⟨w3, hw3⟩ : ∃ w3, w3 = Go.ChangeMaps.setBlock wu T.mb (.map (ents spotK evI lp3) lp3.length) := ⟨_, rfl⟩
     have H3 : Hid (RsM T lp3 w3 /\ Whole w3 sb 155 #[vi c, vi b] /\ w3.heap[w6.heap.size]? = some (.deferred (some [])) /\ w.grownBy w3 (some T.mb)) := Lib.hid (by
      obtain ⟨a1, a2, a3, a4, a5⟩ := HE.out
      have b1 := HSB.out
      have b2 := HLT.out.m
      have b3 := HSO.out
      rw [hw3]
      refine ⟨(a1.next hG).put hT lp3, (a2.below hG a2.lt).setBlock (by omega) _, ?_, grown_trans a5 (grown_trans (grown_of_newer hG _) (grown_setBlock _ _ _))⟩
      rw [setBlock_get_ne _ (by omega)]
      exact (hG.block _ (Array.getElem?_eq_some_iff.1 a4).1).trans a4)
     rw [<- hw3]
     clear hw3 hlp3 hG hR HE
     obtain ⟨⟨i3, v3⟩, h3⟩ := HLO.out
     have HV3 := Lib.hid (good_look HG3.out h3)
     have HH := Lib.hid h3
     have s0 := H3.out.2.1.at 0 (v := vi c) rfl
     have s1 := H3.out.2.1.at 1 (v := vi b) rfl
     have k0 := H3.out.1.kl.at 0 (v := .map (some T.mb)) rfl
     clear h3 HLO
     go_wp2_with (at_lookup; refine wpList_lookup_r _ rfl _ _ 152 false rfl spot_key Tryz.underlying152 (zero3 _) T.mb lp3 rfl H3.out.1.mm ((c : Int), (b : Int)) rfl ?_; simp only [HH.out, Option.map_some, Option.getD_some, Bool.false_eq_true, if_false])
     refine ⟨by simp, .inl ⟨_, _, rfl, run_takeDeferred H3.out.2.2.1, ?_⟩⟩
     refine ⟨_, by simp [results, Tryz.results79, go_sem]; rfl, by rw [HV3.out, HZ.out], lp3, ?_, HG3.out, ?_⟩
     ·have b1 := HSB.out
      have b2 := HLT.out
      have b3 := HSO.out
      have b4 := b2.x
      have b5 := b2.t
      have b6 := b2.k
      have b7 := b2.p
      have b8 := b2.f
      have b9 := b2.m
      have b10 := hT.bm
      exact H3.out.1.far (grown_putL _ _ _) (by omega) (by omega) (by omega) (by omega) (by omega) (by omega) (by omega)
     ·have b1 := HSB.out
      have b3 := HSO.out
      exact grown_put H3.out.2.2.2 (by omega) _
theorem rest_any (T : RP) (hT : RpOk T) : ∀ m, RestC T m
 | 0 => recur_step T hT 0 (fun _ h => by omega)
 | m + 1 => recur_step T hT (m + 1) (fun m' h => by
  have e : m = m' := by omega
  exact e ▸ rest_any T hT m)
end

section
open Go.RowKit Go.Shelf Go.Deep
set_option maxHeartbeats 1000000 in
theorem asked_any (s : Sm) (f : Int) (w : World) (hok : SmOk s w) (few : SmFew s) : Calls Tryz.prog 56 #[smV s, vi f] w fun e w' => e = .returned (vi (if !slopeB s.sd then 1 else if !inB f 0 10000 then 2 else 0)) /\ newer w w' := by
 have hnw := newer_allocH w (.cells (smC s) 48)
 have hbx := Whole.made w 48 (smC s)
 have HV := Lib.hid (valid_any s _ (hok.next hnw) few)
 have HW := Lib.hid (fun W => within_any f 0 10000 W)
 have HN := Lib.hid hnw
 have x0 := hbx.at 0 (v := .slice s.a s.cs.length s.c) rfl
 have x1 := hbx.at 1 (v := vi s.least) rfl
 clear hnw hbx
 obtain ⟨q, hq⟩ : ∃ q, q = slopeB s.sd := ⟨_, rfl⟩
 rw [<- hq] at HV ⊢
 clear hq
 obtain ⟨r, hr⟩ : ∃ r, r = inB f 0 10000 := ⟨_, rfl⟩
 rw [<- hr] at HW ⊢
 clear hr
 go_enter Tryz.func56, Tryz.ntmps56
 go_wp2_with fail
 refine (HV.out).mono ?_
 rintro e w1 ⟨rfl, hb⟩
 have HB := Lib.hid (newer_trans HN.out hb)
 clear hb HV
 cases q with
 | false =>
  go_wp2_with fail
  go_ret
  exact ⟨rfl, HB.out⟩
 | true =>
  go_wp2_with fail
  refine (HW.out _).mono ?_
  rintro e w2 ⟨rfl, rfl⟩
  cases r with
  | false =>
   go_wp2_with fail
   go_ret
   exact ⟨rfl, HB.out⟩
  | true =>
   go_wp2_with fail
   go_ret
   exact ⟨rfl, HB.out⟩
end

section
open Go.RowKit
section
variable {P : Program}
theorem region_full_any {l : List Oper} {n : Nat} {Q : Exit -> Act -> World -> Prop} {a₀ : Act} {w : World} (hB : relB l n = true)
  (G : Array Bool -> World -> Prop) (Rl : Nat -> World -> World -> Prop) (D : Array Bool -> Nat -> Value -> World -> Prop)
  (hDs : ∀ (listed : Array Bool) i j v W W', i < n -> j ≠ i -> listed.size = l.length -> listed.getD i false = false -> listed.getD j false = true -> (∀ k, edgeB l i k = true -> listed.getD k false = true) -> (∀ j k, j < n -> edgeB l j k = true -> listed.getD j false = true -> listed.getD k false = true) ->
   D listed j v W -> Rl i W W' -> D (listed.setIfInBounds i true) j v W')
  (hsz : ∀ i o d, i < n -> l[i]? = some o -> o.dst = some d -> d < a₀.tmps.size)
  (hG : G (Array.replicate l.toArray.size false) w)
  (hstep : ∀ i o, i < n -> l[i]? = some o -> ∀ (listed : Array Bool) a W, listed.size = l.length -> listed.getD i true = false -> (∀ k, edgeB l i k = true -> listed.getD k false = true) -> (∀ j k, j < n -> edgeB l j k = true -> listed.getD j false = true -> listed.getD k false = true) -> G listed W -> Outer l n a₀ a -> (∀ (j : Nat) (oj : Oper) (d : Tmp), j < n -> l[j]? = some oj -> oj.dst = some d -> listed.getD j false = false -> slotOf a d = slotOf a₀ d) ->
   (∀ j oj d, j < n -> l[j]? = some oj -> oj.dst = some d -> (∃ e ∈ o.after, Region.binds .any e = true /\ e.on = j) -> D listed j (slotOf a d) W) ->
   o.wp P a W (fun a' W' => ∃ v, a' = a.put o.dst v /\ D (listed.setIfInBounds i true) i v W' /\ Rl i W W' /\ G (listed.setIfInBounds i true) W') Q)
  (htail : ∀ (listed : Array Bool) a W, (∀ i, i < n -> listed.getD i false = true) -> G listed W -> Outer l n a₀ a -> (∀ j oj d, j < n -> l[j]? = some oj -> oj.dst = some d -> D listed j (slotOf a d) W) -> wpList P l.toArray Q (l.drop n) a W) :
  wpAny P .any l.toArray Q l.toArray.size (Array.replicate l.toArray.size false) a₀ w := by
 simp only [relB, Bool.and_eq_true, decide_eq_true_eq] at hB
 obtain ⟨⟨⟨⟨⟨hn, hs⟩, hc⟩, hback⟩, hdst⟩, hseq⟩ := hB
 have hback' : ∀ (i : Nat) (o : Oper), l[i]? = some o -> (∀ e ∈ o.after, Region.binds .any e = true -> e.on < i) /\ o.guard = none := by
  intro i o ho
  have := List.all_eq_true.1 hback i (List.mem_range.2 (List.getElem?_eq_some_iff.1 ho).1)
  simp only [ho, Bool.and_eq_true, Array.all_eq_true_iff_forall_mem] at this
  exact ⟨fun e he hb => by simpa [hb] using this.1 e he, by simpa using this.2⟩
 have hdst' : ∀ (i j : Nat) (o o' : Oper) (d : Tmp), i < n -> j < n -> i ≠ j -> l[i]? = some o -> l[j]? = some o' -> o.dst = some d -> o'.dst ≠ some d := by
  intro i j o o' d hi hj hij ho ho' hd hd'
  have := List.all_eq_true.1 (List.all_eq_true.1 hdst i (List.mem_range.2 hi)) j (List.mem_range.2 hj)
  simp [hij, ho, ho', hd, hd'] at this
 have key : ∀ (f : Nat) (listed : Array Bool) (a : Act) (W : World), HeadInv .any l.toArray n listed -> ((List.range n).filter fun i => !listed.getD i false).length = f ->
   G listed W -> Outer l n a₀ a -> (∀ (j : Nat) (oj : Oper) (d : Tmp), j < n -> l[j]? = some oj -> oj.dst = some d -> listed.getD j false = false -> slotOf a d = slotOf a₀ d) -> (∀ (j : Nat) (oj : Oper) (d : Tmp), j < n -> l[j]? = some oj -> listed.getD j false = true -> oj.dst = some d -> D listed j (slotOf a d) W) ->
   wpAny P .any l.toArray Q (f + (l.length - n)) listed a W := by
  intro f
  induction f with
  | zero =>
   intro listed a W inv hcnt hGW hO hU hD
   have hall : ∀ i, i < n -> listed.getD i false = true := by
    intro i hi
    have := List.eq_nil_of_length_eq_zero hcnt
    have h2 := List.filter_eq_nil_iff.1 this i (List.mem_range.2 hi)
    simpa using h2
   have hcanon : listed = headDone n l.length := by
    apply Array.ext
    ·rw [inv.size]; simp [headDone]
    ·intro i h1 h2
     have hi : i < l.length := by simpa [headDone] using h2
     simp only [headDone, Array.getElem_ofFn]
     by_cases hin : i < n
     ·have := hall i hin
      simp [h1] at this
      simp [this, hin]
     ·have := inv.tail i (by omega) (by simpa using hi)
      simp [h1] at this
      simp [this, hin]
   rw [Nat.zero_add]
   have := wpAny_of_seq (md := .any) (Q' := Q) (P := P) (ops := l.toArray) (l.drop n) n listed a W (fun j => by simp [List.getElem?_drop]) (by rw [List.length_drop, hcanon]; exact hseq) (htail listed a W hall hGW hO (fun j oj d hj ho hd => hD j oj d hj ho (hall j hj) hd))
   rwa [List.length_drop] at this
  | succ f ih =>
   intro listed a W inv hcnt hGW hO hU hD
   -- some operation of the head has not come up
   have hex : ∃ i, i < n /\ listed.getD i false = false /\ ∀ j, j < i -> listed.getD j false = true := by
    have hne : ((List.range n).filter fun i => !listed.getD i false) ≠ [] := by intro h; rw [h] at hcnt; cases hcnt
    have : ∃ i, i < n /\ listed.getD i false = false := by
     obtain ⟨x, hx⟩ := List.exists_mem_of_ne_nil _ hne
     have hx' := List.mem_filter.1 hx
     exact ⟨x, List.mem_range.1 hx'.1, by simpa using hx'.2⟩
    obtain ⟨i, hi, hl⟩ := this
    have : ∀ k i, i <= k -> i < n -> listed.getD i false = false -> ∃ i, i < n /\ listed.getD i false = false /\ ∀ j, j < i -> listed.getD j false = true := by
     intro k
     induction k with
     | zero => intro i hik hi hl; exact ⟨i, hi, hl, fun j hj => by omega⟩
     | succ k ihk =>
      intro i hik hi hl
      by_cases h : ∃ j, j < i /\ listed.getD j false = false
      ·obtain ⟨j, hj, hjl⟩ := h
       exact ihk j (by omega) (by omega) hjl
      ·refine ⟨i, hi, hl, fun j hj => ?_⟩
       cases hh : listed.getD j false with
       | true => rfl
       | false => exact absurd ⟨j, hj, hh⟩ h
    exact this i i (Nat.le_refl _) hi hl
   obtain ⟨i₀, hi₀, hun₀, hbelow⟩ := hex
   have hi₀s : i₀ < listed.size := by rw [inv.size]; simp; omega
   have hl₀ : listed.getD i₀ true = false := getD_in hi₀s hun₀
   have hready₀ : i₀ ∈ Region.ready .any l.toArray listed := by
    have ho : l[i₀]? = some l[i₀] := List.getElem?_eq_getElem (by omega)
    refine mem_ready.2 ⟨hl₀, l[i₀], by simp, fun e he hb => hbelow _ ((hback' i₀ _ ho).1 e he hb)⟩
   rw [show f + 1 + (l.length - n) = f + (l.length - n) + 1 by omega]
   refine ⟨fun h => (by rw [h] at hready₀; cases hready₀), fun i hi => ?_⟩
   have hin : i < n := by
    rcases Nat.lt_or_ge i n with h | h
    ·exact h
    ·exact absurd hi (tail_waits hs hc (by simpa using hn) inv _ i₀ rfl hi₀ hl₀ i h)
   obtain ⟨hiun, o, ho, hall⟩ := mem_ready.1 hi
   have ho' : l[i]? = some o := by simpa using ho
   have hst := hstep i o hin ho' listed a W (by rw [inv.size]; simp) hiun (fun k hk => by
      obtain ⟨o2, ho2, e, he, hb, hon⟩ := edge_of hk
      rw [ho'] at ho2
      cases ho2
      rw [<- hon]
      exact hall e he hb) (fun j2 k hj2 hk hl2 => by
      obtain ⟨o2, ho2, e, he, hb, hon⟩ := edge_of hk
      rw [<- hon]
      exact inv.closed j2 o2 (by simpa using ho2) hl2 e he hb) hGW hO hU (fun j oj d hj hoj hd ⟨e, he, hb, hon⟩ => hD j oj d hj hoj (by rw [<- hon]; exact hall e he hb) hd)
   unfold wpOp
   simp only [ho]
   have hw : Region.wanted o (yielded l.toArray a.tmps) = true := by simp [Region.wanted, (hback' i o ho').2]
   rw [if_pos hw]
   refine .inl (Oper.wp_mono ?_ hst)
   rintro a' W' ⟨v, rfl, hDv, hRv, hGv⟩
   have hOut : Outer l n a₀ (a.put o.dst v) := by
    refine ⟨?_, ?_, fun t ht => ?_⟩
    ·cases hd : o.dst <;> simp [Act.put, hO.defers]
    ·cases hd : o.dst <;> simp [Act.put, hO.size]
    ·cases hd : o.dst with
     | none => simpa [Act.put] using hO.same t ht
     | some d =>
      have hne : d ≠ t := fun h => ht i o hin ho' (by rw [hd, h])
      simp only [Act.put]
      rw [Array.getElem?_setIfInBounds_ne hne]
      exact hO.same t ht
   refine ih _ _ _ (inv.set hi hin) ?_ hGv hOut ?_ ?_
   ·have hiun' : listed.getD i false = false := getD_both hiun
    have his : i < listed.size := by rw [inv.size]; simp; omega
    have e1 : ((List.range n).filter fun j => !(listed.setIfInBounds i true).getD j false) = ((List.range n).filter fun j => !listed.getD j false).filter (fun j => decide (j ≠ i)) := by
     rw [List.filter_filter]
     apply List.filter_congr
     intro j _
     by_cases hji : j = i
     ·subst hji; simp [his]
     ·rw [getD_set_ne false (Ne.symm hji)]; simp [hji]
    rw [e1]
    have hnd : ((List.range n).filter fun j => !listed.getD j false).Nodup := List.nodup_range.filter _
    have hmem : i ∈ ((List.range n).filter fun j => !listed.getD j false) := List.mem_filter.2 ⟨List.mem_range.2 hin, by simp [hiun']⟩
    have := filter_ne_length i _ hnd hmem
    omega
   ·intro j oj d hj hoj hd hlj
    have his : i < listed.size := by rw [inv.size]; simp; omega
    by_cases hji : j = i
    ·subst hji
     simp [his] at hlj
    ·rw [getD_set_ne false (Ne.symm hji)] at hlj
     rw [<- hU j oj d hj hoj hd hlj]
     cases hdo : o.dst with
     | none => simp [Act.put]
     | some d' =>
      have hne : d ≠ d' := fun h => hdst' j i oj o d hj hin hji hoj ho' hd (by rw [hdo, h])
      rw [slot_put_other hne]
   ·intro j oj d hj hoj hlj hd
    by_cases hji : j = i
    ·subst hji
     have : oj = o := Option.some.inj (hoj.symm.trans ho')
     subst this
     have hds : d < a.tmps.size := by rw [hO.size]; exact hsz j oj d hj hoj hd
     rw [hd, slot_put_same hds]
     exact hDv
    ·rw [getD_set_ne false (Ne.symm hji)] at hlj
     have hold := hDs listed i j _ W W' hin hji (by rw [inv.size]; simp) (getD_both hiun) hlj (fun k hk => by
      obtain ⟨o2, ho2, e, he, hb, hon⟩ := edge_of hk
      rw [ho'] at ho2
      cases ho2
      rw [<- hon]
      exact hall e he hb) (fun j2 k hj2 hk hl2 => by
      obtain ⟨o2, ho2, e, he, hb, hon⟩ := edge_of hk
      rw [<- hon]
      exact inv.closed j2 o2 (by simpa using ho2) hl2 e he hb) (hD j oj d hj hoj hlj hd) hRv
     cases hdo : o.dst with
     | none => simpa [Act.put] using hold
     | some d' =>
      have hne : d ≠ d' := fun h => hdst' j i oj o d hj hin hji hoj ho' hd (by rw [hdo, h])
      rw [slot_put_other hne]
      exact hold
 have inv0 : HeadInv .any l.toArray n (Array.replicate l.toArray.size false) :=
  ⟨by simp, fun j oj _ hl => (by rw [getD_replicate_false] at hl; cases hl), fun t _ ht => getD_in (by simpa using ht) (getD_replicate_false _ _)⟩
 have := key n _ a₀ w inv0 (by
  have : ((List.range n).filter fun i => !(Array.replicate l.toArray.size false).getD i false) = List.range n := List.filter_eq_self.2 (fun i _ => by rw [getD_replicate_false]; rfl)
  rw [this, List.length_range]) hG ⟨rfl, rfl, fun _ _ => rfl⟩ (fun _ _ _ _ _ _ _ => rfl) (fun j oj d _ _ hl => by rw [getD_replicate_false] at hl; cases hl)
 rw [show n + (l.length - n) = l.toArray.size by simp; omega] at this
 exact this
def stageN (p q : Nat) (listed : Array Bool) : Nat := match listed.getD p false, listed.getD q false with
 | false, _ => 0
 | true, false => 1
 | true, true => 2
def stepT (P : Program) (l : List Oper) (n p q : Nat) (Q : Exit -> Act -> World -> Prop) (a₀ : Act) (G : Nat -> World -> Prop) (Rp Rq : World -> World -> Prop) (D : Nat -> Value -> World -> Prop) (i : Nat) (o : Oper) : Prop :=
 match Nat.beq i p, Nat.beq i q with
 | true, _ => ∀ a W, G 0 W -> Outer l n a₀ a -> preds l D a W o.after.toList -> o.wp P a W (fun a' W' => ∃ v, a' = a.put o.dst v /\ D i v W' /\ Rp W W' /\ G 1 W') Q
 | false, true => ∀ a W, G 1 W -> Outer l n a₀ a -> preds l D a W o.after.toList -> o.wp P a W (fun a' W' => ∃ v, a' = a.put o.dst v /\ D i v W' /\ Rq W W' /\ G 2 W') Q
 | false, false => match edgeB l p i, edgeB l q i with
  | true, _ => ∀ a W, G 0 W -> Outer l n a₀ a -> preds l D a W o.after.toList -> o.wp P a W (fun a' W' => ∃ v, a' = a.put o.dst v /\ D i v W' /\ newer W W') Q
  | false, true => ∀ s a W, s <= 1 -> G s W -> Outer l n a₀ a -> preds l D a W o.after.toList -> o.wp P a W (fun a' W' => ∃ v, a' = a.put o.dst v /\ D i v W' /\ newer W W') Q
  | false, false => ∀ s a W, G s W -> Outer l n a₀ a -> preds l D a W o.after.toList -> o.wp P a W (fun a' W' => ∃ v, a' = a.put o.dst v /\ D i v W' /\ newer W W') Q
def stepsT (P : Program) (l : List Oper) (n p q : Nat) (Q : Exit -> Act -> World -> Prop) (a₀ : Act) (G : Nat -> World -> Prop) (Rp Rq : World -> World -> Prop) (D : Nat -> Value -> World -> Prop) : Nat -> List Oper -> Prop
 | _, [] => True
 | i, o :: os => stepT P l n p q Q a₀ G Rp Rq D i o /\ stepsT P l n p q Q a₀ G Rp Rq D (i + 1) os
theorem stepsT_get {l : List Oper} {n p q : Nat} {Q : Exit -> Act -> World -> Prop} {a₀ : Act} {G : Nat -> World -> Prop} {Rp Rq : World -> World -> Prop} {D : Nat -> Value -> World -> Prop} : ∀ (os : List Oper) (k : Nat), stepsT P l n p q Q a₀ G Rp Rq D k os -> ∀ i o, os[i]? = some o -> stepT P l n p q Q a₀ G Rp Rq D (k + i) o
 | [], _, _, i, o, h => by simp at h
 | x :: os, k, hs, 0, o, h => by simp at h; subst h; exact hs.1
 | x :: os, k, hs, i + 1, o, h => by
  have := stepsT_get os (k + 1) hs.2 i o (by simpa using h)
  rw [show k + (i + 1) = k + 1 + i by omega]
  exact this
theorem beq_is {a b : Nat} : Nat.beq a b = decide (a = b) := by
 cases h : Nat.beq a b with
 | true => rw [decide_eq_true (Nat.eq_of_beq_eq_true h)]
 | false => rw [decide_eq_false (Nat.ne_of_beq_eq_false h)]
theorem region_steps {l : List Oper} (n p q : Nat) {Q : Exit -> Act -> World -> Prop} {a₀ : Act} {w : World} (hB : relB l n = true) (hz : szOk a₀.tmps.size (l.take n) = true) (hqp : edgeB l q p = true) (hp : p < n) (hq : q < n) (hpq : p ≠ q)
  (G : Nat -> World -> Prop) (Rp Rq : World -> World -> Prop) (D : Nat -> Value -> World -> Prop)
  (hn : ∀ j v W W', D j v W -> newer W W' -> D j v W') (hGn : ∀ s W W', G s W -> newer W W' -> G s W')
  (hDp : ∀ j v W W', j ≠ p -> D j v W -> Rp W W' -> D j v W') (hDq : ∀ j v W W', D j v W -> Rq W W' -> D j v W')
  (hG : G 0 w) (hstep : stepsT P l n p q Q a₀ G Rp Rq D 0 (l.take n))
  (htail : ∀ W, G 2 W -> tailsOk D W (fun a => wpList P l.toArray Q (l.drop n) a W) 0 (l.take n) a₀) :
  wpAny P .any l.toArray Q l.toArray.size (Array.replicate l.toArray.size false) a₀ w := by
 have htake : ∀ (i : Nat) (o : Oper), i < n -> l[i]? = some o -> (l.take n)[i]? = some o := fun i o hi ho => by rw [List.getElem?_take, if_pos hi]; exact ho
 have hnl : n < l.length := by
  have hB' := hB
  simp only [relB, Bool.and_eq_true, decide_eq_true_eq] at hB'
  omega
 have hback : ∀ (i : Nat) (o : Oper), i < n -> l[i]? = some o -> ∀ e ∈ o.after, Region.binds .any e = true -> e.on < n := by
  have hB' := hB
  simp only [relB, Bool.and_eq_true, decide_eq_true_eq] at hB'
  obtain ⟨⟨⟨⟨⟨_, _⟩, _⟩, hback⟩, _⟩, _⟩ := hB'
  intro i o hi ho e he hbd
  have := List.all_eq_true.1 hback i (List.mem_range.2 (List.getElem?_eq_some_iff.1 ho).1)
  simp only [ho, Bool.and_eq_true, Array.all_eq_true_iff_forall_mem] at this
  have h2 : e.on < i := by simpa [hbd] using this.1 e he
  omega
 refine region_full_any hB (fun listed W => G (stageN p q listed) W) (fun i => if i = p then Rp else if i = q then Rq else newer) (fun _ => D) ?_ (fun i o d hi ho hd => sz_of _ hz i o d (htake i o hi ho) hd) ?_ ?_ ?_
 ·intro listed i j v W W' hi hji hsz hui hlj hpi hcl hD hR
  split at hR
  ·exact hDp j v W W' (by omega) hD hR
  ·split at hR
   ·exact hDq j v W W' hD hR
   ·exact hn j v W W' hD hR
 ·have e : stageN p q (Array.replicate l.toArray.size false) = 0 := by
   unfold stageN
   rw [getD_replicate_false]
  rw [e]
  exact hG
 ·intro i o hi ho listed a W hsz hun hrd hcl hGW hO _ hpr
  have hst := stepsT_get _ _ hstep i o (htake i o hi ho)
  rw [Nat.zero_add] at hst
  have hpr' := preds_of o (hback i o hi ho) hpr
  have hun' : listed.getD i false = false := getD_both hun
  have hset : ∀ k, k < n -> (listed.setIfInBounds k true).getD k false = true := fun k hk => by
   have : k < listed.size := by rw [hsz]; omega
   simp [this]
  unfold stepT at hst
  rw [beq_is, beq_is] at hst
  by_cases hip : i = p
  ·subst hip
   rw [decide_eq_true rfl] at hst
   have hq0 : listed.getD q false = false := by
    cases hh : listed.getD q false with
    | false => rfl
    | true => rw [hcl q i hq hqp hh] at hun'; cases hun'
   have e0 : stageN i q listed = 0 := by unfold stageN; rw [hun']
   rw [e0] at hGW
   refine Oper.wp_mono ?_ (hst a W hGW hO hpr')
   rintro a' W' ⟨v, h1, h2, h3, h4⟩
   refine ⟨v, h1, h2, by rw [if_pos rfl]; exact h3, ?_⟩
   have e1 : stageN i q (listed.setIfInBounds i true) = 1 := by
    unfold stageN
    rw [hset i hp, getD_set_ne false hpq, hq0]
   rw [e1]
   exact h4
  ·rw [decide_eq_false hip] at hst
   by_cases hiq : i = q
   ·subst hiq
    rw [decide_eq_true rfl] at hst
    have hp1 := hrd p hqp
    have e0 : stageN p i listed = 1 := by unfold stageN; rw [hp1, hun']
    rw [e0] at hGW
    refine Oper.wp_mono ?_ (hst a W hGW hO hpr')
    rintro a' W' ⟨v, h1, h2, h3, h4⟩
    refine ⟨v, h1, h2, by rw [if_neg hip, if_pos rfl]; exact h3, ?_⟩
    have e1 : stageN p i (listed.setIfInBounds i true) = 2 := by
     unfold stageN
     rw [hset i hq, getD_set_ne false hip, hp1]
    rw [e1]
    exact h4
   ·rw [decide_eq_false hiq] at hst
    have e1 : stageN p q (listed.setIfInBounds i true) = stageN p q listed := by
     unfold stageN
     rw [getD_set_ne false hip, getD_set_ne false hiq]
    have fin : ∀ a' W', (∃ v, a' = a.put o.dst v /\ D i v W' /\ newer W W') -> ∃ v, a' = a.put o.dst v /\ D i v W' /\ (if i = p then Rp else if i = q then Rq else newer) W W' /\ G (stageN p q (listed.setIfInBounds i true)) W' := by
     rintro a' W' ⟨v, h1, h2, h3⟩
     refine ⟨v, h1, h2, by rw [if_neg hip, if_neg hiq]; exact h3, ?_⟩
     rw [e1]
     exact hGn _ _ _ hGW h3
    have np : edgeB l p i = true -> listed.getD p false = false := fun he => by
     cases hh : listed.getD p false with
     | false => rfl
     | true => rw [hcl p i hp he hh] at hun'; cases hun'
    have nq : edgeB l q i = true -> listed.getD q false = false := fun he => by
     cases hh : listed.getD q false with
     | false => rfl
     | true => rw [hcl q i hq he hh] at hun'; cases hun'
    cases hep : edgeB l p i with
    | true =>
     rw [hep] at hst
     have e0 : stageN p q listed = 0 := by unfold stageN; rw [np hep]
     rw [e0] at hGW
     exact Oper.wp_mono fin (hst a W hGW hO hpr')
    | false =>
     rw [hep] at hst
     cases heq : edgeB l q i with
     | true =>
      rw [heq] at hst
      have e0 : stageN p q listed <= 1 := by
       unfold stageN
       rw [nq heq]
       cases listed.getD p false <;> simp
      exact Oper.wp_mono fin (hst _ a W e0 hGW hO hpr')
     | false =>
      rw [heq] at hst
      exact Oper.wp_mono fin (hst _ a W hGW hO hpr')
 ·intro listed a W hall hGW hO hd
  have e0 : stageN p q listed = 2 := by unfold stageN; rw [hall p hp, hall q hq]
  rw [e0] at hGW
  have hh : heads D a W 0 (l.take n) := heads_of _ _ fun j oj d hj hdd => by
   rw [List.getElem?_take] at hj
   split at hj
   ·rename_i hjn
    rw [Nat.zero_add]
    exact hd j oj d hjn hj hdd
   ·cases hj
  have := tails_filled _ _ _ hh (htail W hGW)
  rwa [filled_eq hO] at this
def stepE (P : Program) (l : List Oper) (n : Nat) (Q : Exit -> Act -> World -> Prop) (a₀ : Act) (G : World -> Prop) (Rl : World -> World -> Prop) (D : Nat -> Value -> World -> Prop) (i : Nat) (o : Oper) : Prop :=
 ∀ a W, G W -> Outer l n a₀ a -> (∀ (k : Nat) (ok : Oper) (d : Tmp), k < n -> l[k]? = some ok -> ok.dst = some d -> edgeB l k i = true -> slotOf a d = slotOf a₀ d) -> preds l D a W o.after.toList -> o.wp P a W (fun a' W' => ∃ v, a' = a.put o.dst v /\ D i v W' /\ Rl W W' /\ G W') Q
def stepsE (P : Program) (l : List Oper) (n : Nat) (Q : Exit -> Act -> World -> Prop) (a₀ : Act) (G : World -> Prop) (Rl : World -> World -> Prop) (D : Nat -> Value -> World -> Prop) : Nat -> List Oper -> Prop
 | _, [] => True
 | i, o :: os => stepE P l n Q a₀ G Rl D i o /\ stepsE P l n Q a₀ G Rl D (i + 1) os
theorem stepsE_get {l : List Oper} {n : Nat} {Q : Exit -> Act -> World -> Prop} {a₀ : Act} {G : World -> Prop} {Rl : World -> World -> Prop} {D : Nat -> Value -> World -> Prop} : ∀ (os : List Oper) (k : Nat), stepsE P l n Q a₀ G Rl D k os -> ∀ i o, os[i]? = some o -> stepE P l n Q a₀ G Rl D (k + i) o
 | [], _, _, i, o, h => by simp at h
 | x :: os, k, hs, 0, o, h => by simp at h; subst h; exact hs.1
 | x :: os, k, hs, i + 1, o, h => by
  have := stepsE_get os (k + 1) hs.2 i o (by simpa using h)
  rw [show k + (i + 1) = k + 1 + i by omega]
  exact this
theorem region_told_e {l : List Oper} (n : Nat) {Q : Exit -> Act -> World -> Prop} {a₀ : Act} {w : World} (hB : relB l n = true) (hz : szOk a₀.tmps.size (l.take n) = true)
  (G : World -> Prop) (Rl : World -> World -> Prop) (D : Nat -> Value -> World -> Prop) (hDs : ∀ i v W W', D i v W -> Rl W W' -> D i v W')
  (hG : G w) (hstep : stepsE P l n Q a₀ G Rl D 0 (l.take n))
  (htail : ∀ W, G W -> tailsOk D W (fun a => wpList P l.toArray Q (l.drop n) a W) 0 (l.take n) a₀) :
  wpAny P .any l.toArray Q l.toArray.size (Array.replicate l.toArray.size false) a₀ w := by
 have htake : ∀ (i : Nat) (o : Oper), i < n -> l[i]? = some o -> (l.take n)[i]? = some o := fun i o hi ho => by rw [List.getElem?_take, if_pos hi]; exact ho
 have hback : ∀ (i : Nat) (o : Oper), i < n -> l[i]? = some o -> ∀ e ∈ o.after, Region.binds .any e = true -> e.on < n := by
  have hB' := hB
  simp only [relB, Bool.and_eq_true, decide_eq_true_eq] at hB'
  obtain ⟨⟨⟨⟨⟨_, _⟩, _⟩, hback⟩, _⟩, _⟩ := hB'
  intro i o hi ho e he hbd
  have := List.all_eq_true.1 hback i (List.mem_range.2 (List.getElem?_eq_some_iff.1 ho).1)
  simp only [ho, Bool.and_eq_true, Array.all_eq_true_iff_forall_mem] at this
  have h2 : e.on < i := by simpa [hbd] using this.1 e he
  omega
 refine region_full_any hB (fun _ W => G W) (fun _ => Rl) (fun _ => D) ?_ (fun i o d hi ho hd => sz_of _ hz i o d (htake i o hi ho) hd) hG ?_ ?_
 ·intro listed i j v W W' hi hji hsz hui hlj hpi hcl hD hR
  exact hDs j v W W' hD hR
 ·intro i o hi ho listed a W hsz hun hrd hcl hGW hO hU hpr
  have hst := stepsE_get _ _ hstep i o (htake i o hi ho)
  rw [Nat.zero_add] at hst
  have hpr' := preds_of o (hback i o hi ho) hpr
  have hun' : listed.getD i false = false := getD_both hun
  refine hst a W hGW hO (fun k ok d hk hok hd he => hU k ok d hk hok hd ?_) hpr'
  cases hh : listed.getD k false with
  | false => rfl
  | true => rw [hcl k i hk he hh] at hun'; cases hun'
 ·intro listed a W hall hGW hO hd
  have hh : heads D a W 0 (l.take n) := heads_of _ _ fun j oj d hj hdd => by
   rw [List.getElem?_take] at hj
   split at hj
   ·rename_i hjn
    rw [Nat.zero_add]
    exact hd j oj d hjn hj hdd
   ·cases hj
  have := tails_filled _ _ _ hh (htail W hGW)
  rwa [filled_eq hO] at this
end
end

section
open Go.RowKit Go.Shelf Go.Deep
abbrev rpOf (s : Sm) (f : Int) (t : Option Bool) (z b : Nat) : RP := ⟨s, f, t, z, b, b + 1, b + 1 + 1 + 1, b + 1 + 1 + 1 + 1, b + 1 + 1 + 1 + 1 + 1, b + 1 + 1 + 1 + 1 + 1 + 1, b⟩
structure ChS (b k c j : Nat) (Ds acc : List Nat) (cur pb q cc : Nat) (w W : World) : Prop where
 hr : Whole W (b + 1 + 1) 72 #[vi k, .slice (some ⟨q, 0, none⟩) (j + 1) cc]
 row : W.ownsRow (b + 7) 3 1 (.slice (some ⟨q, 0, none⟩) (j + 1) cc) (j + 1) ((acc ++ [cur]).map fun x : Nat => vi x)
 st : Whole W pb 155 #[vi c, vi cur]
 nw : newer w W
 ms : MarksOk Ds W
 pbb : b + 7 <= pb
 ge : ∀ D ∈ Ds, b + 7 <= D
 wb : w.heap.size = b
structure ChL (b : Nat) (Ds : List Nat) (pb q N : Nat) : Prop where
 p : pb < N
 q : q < N
 d : ∀ D ∈ Ds, D < N
 n : b + 7 <= N
section
variable {b k c j : Nat} {Ds acc : List Nat} {cur pb q cc : Nat} {w W W' : World}
theorem ChS.qge (h : ChS b k c j Ds acc cur pb q cc w W) : b + 7 <= q := own_ge h.row q rfl
theorem ChS.lts (h : ChS b k c j Ds acc cur pb q cc w W) : ChL b Ds pb q W.heap.size :=
 ⟨h.st.lt, own_lt h.row q rfl, h.ms.lt, by have := h.st.lt; have := h.pbb; omega⟩
theorem ChS.next (h : ChS b k c j Ds acc cur pb q cc w W) (hb : newer W W') : ChS b k c j Ds acc cur pb q cc w W' :=
 ⟨h.hr.below hb h.hr.lt, own_below h.row hb, h.st.below hb h.st.lt, newer_trans h.nw hb, h.ms.next hb, h.pbb, h.ge, h.wb⟩
theorem ChS.far (h : ChS b k c j Ds acc cur pb q cc w W) {d : Nat} (hg : W.grownBy W' (some d)) (h1 : d ≠ b + 1 + 1) (h2 : d ≠ q) (h3 : d ≠ pb) (h4 : d ∉ Ds) (h5 : b <= d) : ChS b k c j Ds acc cur pb q cc w W' := by
 have ne : ∀ {x : Nat}, d ≠ x -> some x ≠ some d := fun h e => h (by injection e with e; exact e.symm)
 refine ⟨h.hr.grown hg (ne h1), h.row.kept hg (.inr (show some q ≠ some d from ne h2)), h.st.grown hg (ne h3), Below.trans h.nw (below_of_grown hg (by rw [h.wb]; exact h5) ?_), h.ms.grown hg h4, h.pbb, h.ge, h.wb⟩
 exact h.nw.size
theorem ChS.memo (h : ChS b k c j Ds acc cur pb q cc w W) (hg : W.grownBy W' (some (b + 1 + 1 + 1))) : ChS b k c j Ds acc cur pb q cc w W' := by
 have h1 := h.qge
 have h2 := h.pbb
 exact h.far hg (by omega) (by omega) (by omega) (fun hm => by have := h.ge _ hm; omega) (by omega)
theorem ChS.fresh (h : ChS b k c j Ds acc cur pb q cc w W) {N d : Nat} (hl : ChL b Ds pb q N) (hd : N <= d) (hg : W.grownBy W' (some d)) : ChS b k c j Ds acc cur pb q cc w W' := by
 have h1 := hl.p
 have h2 := hl.q
 have h3 := hl.n
 exact h.far hg (by omega) (by omega) (by omega) (fun hm => by have := hl.d _ hm; omega) (by omega)
end
theorem RsM.high {s : Sm} {f : Int} {t : Option Bool} {z b : Nat} {lp : List ((Int × Int) × Int)} {W W' : World} (h : RsM (rpOf s f t z b) lp W) {d : Nat} (hg : W.grownBy W' (some d)) (hd : b + 7 <= d) : RsM (rpOf s f t z b) lp W' :=
 h.far hg (by simp only []; omega) (by simp only []; omega) (by simp only []; omega) (by simp only []; omega) (by simp only []; omega) (by simp only []; omega) (by simp only []; omega)
structure BsJ (s : Sm) (f : Int) (t : Option Bool) (z b k c c1 j : Nat) (Ds acc : List Nat) (cur pb q cc sb lb bb D N best : Nat) (r : Loop) (w W : World) : Prop where
 me : ∃ lp, RsM (rpOf s f t z b) lp W /\ Good (rpOf s f t z b) lp
 ch : ChS b k c j Ds acc cur pb q cc w W
 sp : Whole W sb 155 #[vi c1, vi best]
 bx : Whole W bb 3 #[vi cur]
 lx : Whole W lb 97 (lkC s f t)
 df : W.heap[D]? = some (.deferred (some []))
 lo : W.heap[D + 1]? = some (.loop r)
 lm : ChL b Ds pb q N
 so : N <= sb /\ sb < lb /\ lb < bb /\ bb < D
section
variable {s : Sm} {f : Int} {t : Option Bool} {z b k c c1 j : Nat} {Ds acc : List Nat} {cur pb q cc sb lb bb D N best : Nat} {r : Loop} {w W W' : World}
theorem BsJ.next (h : BsJ s f t z b k c c1 j Ds acc cur pb q cc sb lb bb D N best r w W) (hb : newer W W') : BsJ s f t z b k c c1 j Ds acc cur pb q cc sb lb bb D N best r w W' := by
 obtain ⟨lp, h1, h2⟩ := h.me
 exact ⟨⟨lp, h1.next hb, h2⟩, h.ch.next hb, h.sp.below hb h.sp.lt, h.bx.below hb h.bx.lt, h.lx.below hb h.lx.lt, (hb.block _ (Array.getElem?_eq_some_iff.1 h.df).1).trans h.df, (hb.block _ (Array.getElem?_eq_some_iff.1 h.lo).1).trans h.lo, h.lm, h.so⟩
theorem BsJ.back (h : BsJ s f t z b k c c1 j Ds acc cur pb q cc sb lb bb D N best r w W) (hg : W.grownBy W' (some (b + 1 + 1 + 1))) (hm : ∃ lp, RsM (rpOf s f t z b) lp W' /\ Good (rpOf s f t z b) lp) : BsJ s f t z b k c c1 j Ds acc cur pb q cc sb lb bb D N best r w W' := by
 have h1 := h.so
 have h2 := h.lm.n
 have ne : ∀ {x : Nat}, b + 7 <= x -> some x ≠ some (b + 1 + 1 + 1) := fun h e => by injection e; omega
 exact ⟨hm, h.ch.memo hg, h.sp.grown hg (ne (by omega)), h.bx.grown hg (ne (by omega)), h.lx.grown hg (ne (by omega)), (hg.block _ (Array.getElem?_eq_some_iff.1 h.df).1 (ne (by omega))).trans h.df, (hg.block _ (Array.getElem?_eq_some_iff.1 h.lo).1 (ne (by omega))).trans h.lo, h.lm, h.so⟩
theorem BsJ.put (h : BsJ s f t z b k c c1 j Ds acc cur pb q cc sb lb bb D N best r w W) (r' : Loop) : BsJ s f t z b k c c1 j Ds acc cur pb q cc sb lb bb D N best r' w (W.putObj (D + 1) (.loop r')) := by
 obtain ⟨lp, h1, h2⟩ := h.me
 have h3 := h.so
 have h4 := h.lm.n
 have hD := (Array.getElem?_eq_some_iff.1 h.lo).1
 exact ⟨⟨lp, h1.high (grown_putL _ _ _) (by omega), h2⟩, h.ch.fresh h.lm (by omega) (grown_putL _ _ _), h.sp.put (by omega) _, h.bx.put (by omega) _, h.lx.put (by omega) _, (World.putObj_heap_other (by omega)).trans h.df, World.putObj_heap_same hD, h.lm, h.so⟩
theorem BsJ.set (h : BsJ s f t z b k c c1 j Ds acc cur pb q cc sb lb bb D N best r w W) (v : Nat) : BsJ s f t z b k c c1 j Ds acc cur pb q cc sb lb bb D N v r w (W.setCell ⟨sb, 1, none⟩ (vi v)) := by
 obtain ⟨lp, h1, h2⟩ := h.me
 have h3 := h.so
 have h4 := h.lm.n
 have hg : W.grownBy (W.setCell ⟨sb, 1, none⟩ (vi v)) (some sb) := grown_set (p := ⟨sb, 1, none⟩) (grown_refl W (some sb)) (.inl rfl) _
 have ne : ∀ {x : Nat}, x ≠ sb -> some x ≠ some sb := fun h e => h (by injection e)
 exact ⟨⟨lp, h1.high hg (by omega), h2⟩, h.ch.fresh h.lm (by omega) hg, h.sp.set 1 (vi v), h.bx.grown hg (ne (by omega)), h.lx.grown hg (ne (by omega)), (hg.block _ (Array.getElem?_eq_some_iff.1 h.df).1 (ne (by omega))).trans h.df, (hg.block _ (Array.getElem?_eq_some_iff.1 h.lo).1 (ne (by omega))).trans h.lo, h.lm, h.so⟩
end
def bestK (c : Nat -> Nat -> Int) (n m k b i : Nat) : Nat := ((nearL n b).take i).foldl (fun best x => if restN c n bigN m (k + 1) x < restN c n bigN m (k + 1) best then x else best) b
theorem bestK_succ {c : Nat -> Nat -> Int} {n m k b i : Nat} (hi : i < cntN n b) : bestK c n m k b (i + 1) = if restN c n bigN m (k + 1) (loN b + i) < restN c n bigN m (k + 1) (bestK c n m k b i) then loN b + i else bestK c n m k b i := by
 unfold bestK
 rw [near_is, List.take_add_one, List.getElem?_range' hi, List.foldl_append, Option.toList_some, List.foldl_cons, List.foldl_nil, Nat.one_mul]
theorem bestK_lt {c : Nat -> Nat -> Int} {n m k b i : Nat} (hb : b < n) : bestK c n m k b i < n := by
 unfold bestK
 rcases (fold_best (f := restN c n bigN m (k + 1)) ((nearL n b).take i) b).1 with h | h
 ·rw [h]; exact hb
 ·exact ((mem_near hb).1 (List.mem_of_mem_take h)).1
theorem bestK_all (c : Nat -> Nat -> Int) (n m k b : Nat) : bestK c n m k b (cntN n b) = stepB c n bigN m k b := by
 unfold bestK stepB
 rw [near_all]
def vCell (H : Nat) (y : Int) (v : Value) (W : World) : Prop := ∃ g, v = .slice (some ⟨g, 0, none⟩) 1 1 /\ H <= g /\ Whole W g 3 #[vi y]
def vOwnJ (b n : Nat) (l : List Nat) (v : Value) (W : World) : Prop := ∃ g c', v = .slice (some ⟨g, 0, none⟩) n c' /\ W.ownsRow (b + 7) 3 1 (.slice (some ⟨g, 0, none⟩) n c') n (l.map fun x : Nat => vi x)
theorem vCell_far {H d : Nat} {y : Int} (hd : d < H) {v : Value} {W W' : World} (h : vCell H y v W) (hg : W.grownBy W' (some d)) : vCell H y v W' := by
 obtain ⟨g, h1, h2, h3⟩ := h
 exact ⟨g, h1, h2, h3.grown hg (fun e => by injection e; omega)⟩
theorem vOwnJ_far {b n d : Nat} {l : List Nat} (hd : d < b + 7) {v : Value} {W W' : World} (h : vOwnJ b n l v W) (hg : W.grownBy W' (some d)) : vOwnJ b n l v W' := by
 obtain ⟨g, c', h1, h2⟩ := h
 refine ⟨g, c', h1, h2.kept hg (.inr (fun e => ?_))⟩
 have e2 := own_ge h2 d e
 omega
structure ApJ (s : Sm) (f : Int) (t : Option Bool) (z b k c ce j : Nat) (Ds acc : List Nat) (cur pb q cc sb nx H : Nat) (lp : List ((Int × Int) × Int)) (w : World) (sg : Nat) (W : World) : Prop where
 me : RsM (rpOf s f t z b) lp W
 st : Whole W pb 155 #[vi c, vi cur]
 sp : Whole W sb 155 #[vi ce, vi nx]
 nw : newer w W
 ms : MarksOk Ds W
 sz : H <= W.heap.size
 hr : sg <= 1 -> Whole W (b + 1 + 1) 72 #[vi k, .slice (some ⟨q, 0, none⟩) (j + 1) cc]
 ow : sg = 0 -> W.ownsRow (b + 7) 3 1 (.slice (some ⟨q, 0, none⟩) (j + 1) cc) (j + 1) ((acc ++ [cur]).map fun x : Nat => vi x)
 fin : sg = 2 -> ∃ g c', Whole W (b + 1 + 1) 72 #[vi k, .slice (some ⟨g, 0, none⟩) (j + 1 + 1) c'] /\ W.ownsRow (b + 7) 3 1 (.slice (some ⟨g, 0, none⟩) (j + 1 + 1) c') (j + 1 + 1) ((acc ++ [cur] ++ [nx]).map fun x : Nat => vi x)
 lo : b + 7 <= pb /\ b + 7 <= q /\ b + 7 <= sb /\ (∀ D ∈ Ds, b + 7 <= D) /\ q ≠ pb /\ q ≠ sb /\ pb ≠ sb /\ q ∉ Ds /\ pb ∉ Ds /\ w.heap.size = b /\ q < H /\ b + 7 <= H
section
variable {s : Sm} {f : Int} {t : Option Bool} {z b k c ce j : Nat} {Ds acc : List Nat} {cur pb q cc sb nx H sg : Nat} {lp : List ((Int × Int) × Int)} {w W W' : World}
theorem ApJ.next (h : ApJ s f t z b k c ce j Ds acc cur pb q cc sb nx H lp w sg W) (hb : newer W W') : ApJ s f t z b k c ce j Ds acc cur pb q cc sb nx H lp w sg W' :=
 ⟨h.me.next hb, h.st.below hb h.st.lt, h.sp.below hb h.sp.lt, newer_trans h.nw hb, h.ms.next hb, Nat.le_trans h.sz hb.size, fun e => (h.hr e).below hb (h.hr e).lt, fun e => own_below (h.ow e) hb, fun e => by
  obtain ⟨g, c', h1, h2⟩ := h.fin e
  exact ⟨g, c', h1.below hb h1.lt, own_below h2 hb⟩, h.lo⟩
theorem ApJ.app (h : ApJ s f t z b k c ce j Ds acc cur pb q cc sb nx H lp w 0 W) (hg : W.grownBy W' (some q)) : ApJ s f t z b k c ce j Ds acc cur pb q cc sb nx H lp w 1 W' := by
 obtain ⟨h1, h2, h3, h4, h5, h6, h7, h8, h9, h10, h11, h12⟩ := h.lo
 have ne : ∀ {x : Nat}, q ≠ x -> some x ≠ some q := fun h e => h (by injection e with e; exact e.symm)
 exact ⟨h.me.high hg h2, h.st.grown hg (ne h5), h.sp.grown hg (ne h6), Below.trans h.nw (below_of_grown hg (by omega) h.nw.size), h.ms.grown hg h8, Nat.le_trans h.sz hg.size, fun _ => (h.hr (by omega)).grown hg (ne (by omega)), fun e => by omega, fun e => by omega, h.lo⟩
theorem ApJ.put (h : ApJ s f t z b k c ce j Ds acc cur pb q cc sb nx H lp w 1 W) {g c' : Nat} (ho : W.ownsRow (b + 7) 3 1 (.slice (some ⟨g, 0, none⟩) (j + 1 + 1) c') (j + 1 + 1) ((acc ++ [cur] ++ [nx]).map fun x : Nat => vi x)) : ApJ s f t z b k c ce j Ds acc cur pb q cc sb nx H lp w 2 (W.setCell ⟨b + 1 + 1, 1, none⟩ (.slice (some ⟨g, 0, none⟩) (j + 1 + 1) c')) := by
 obtain ⟨h1, h2, h3, h4, h5, h6, h7, h8, h9, h10, h11, h12⟩ := h.lo
 have hr := h.hr (by omega)
 have hg : W.grownBy (W.setCell ⟨b + 1 + 1, 1, none⟩ (.slice (some ⟨g, 0, none⟩) (j + 1 + 1) c')) (some (b + 1 + 1)) := grown_set (p := ⟨b + 1 + 1, 1, none⟩) (grown_refl W _) (.inl rfl) _
 have ne : ∀ {x : Nat}, b + 1 + 1 ≠ x -> some x ≠ some (b + 1 + 1) := fun h e => h (by injection e with e; exact e.symm)
 refine ⟨h.me.far hg (by simp only []; omega) (by simp only []; omega) (by simp only []; omega) (by simp only []; omega) (by simp only []; omega) (by simp only []; omega) (by simp only []; omega), h.st.grown hg (ne (by omega)), h.sp.grown hg (ne (by omega)), Below.trans h.nw (below_of_grown hg (by omega) h.nw.size), h.ms.grown hg (fun hm => by have := h4 _ hm; omega), Nat.le_trans h.sz hg.size, fun e => by omega, fun e => by omega, fun _ => ⟨g, c', hr.set 1 _, own_set ho (own_ne ho hr (by decide)) _⟩, h.lo⟩
theorem ApJ.done (h : ApJ s f t z b k c ce j Ds acc cur pb q cc sb nx H lp w 2 W) : ∃ g c', RsM (rpOf s f t z b) lp ((W.setCell ⟨pb, 0, none⟩ (vi ce)).setCell ⟨pb, 1, none⟩ (vi nx)) /\ Whole ((W.setCell ⟨pb, 0, none⟩ (vi ce)).setCell ⟨pb, 1, none⟩ (vi nx)) (b + 1 + 1) 72 #[vi k, .slice (some ⟨g, 0, none⟩) (j + 1 + 1) c'] /\ ((W.setCell ⟨pb, 0, none⟩ (vi ce)).setCell ⟨pb, 1, none⟩ (vi nx)).ownsRow (b + 7) 3 1 (.slice (some ⟨g, 0, none⟩) (j + 1 + 1) c') (j + 1 + 1) ((acc ++ [cur] ++ [nx]).map fun x : Nat => vi x) /\ Whole ((W.setCell ⟨pb, 0, none⟩ (vi ce)).setCell ⟨pb, 1, none⟩ (vi nx)) pb 155 #[vi ce, vi nx] /\ newer w ((W.setCell ⟨pb, 0, none⟩ (vi ce)).setCell ⟨pb, 1, none⟩ (vi nx)) /\ MarksOk Ds ((W.setCell ⟨pb, 0, none⟩ (vi ce)).setCell ⟨pb, 1, none⟩ (vi nx)) /\ b + 7 <= ((W.setCell ⟨pb, 0, none⟩ (vi ce)).setCell ⟨pb, 1, none⟩ (vi nx)).heap.size /\ (∀ D ∈ Ds, b + 7 <= D) /\ w.heap.size = b := by
 obtain ⟨h1, h2, h3, h4, h5, h6, h7, h8, h9, h10, h11, h12⟩ := h.lo
 obtain ⟨g, c', e1, e2⟩ := h.fin rfl
 have hg : W.grownBy ((W.setCell ⟨pb, 0, none⟩ (vi ce)).setCell ⟨pb, 1, none⟩ (vi nx)) (some pb) := grown_set (p := ⟨pb, 1, none⟩) (grown_set (p := ⟨pb, 0, none⟩) (grown_refl W _) (.inl rfl) _) (.inl rfl) _
 exact ⟨g, c', h.me.high hg h1, e1.grown hg (fun e => by injection e; omega), own_set (own_set e2 (own_ne e2 h.st (by decide)) _) (own_ne e2 h.st (by decide)) _, (h.st.set 0 (vi ce)).set 1 (vi nx), Below.trans h.nw (below_of_grown hg (by omega) h.nw.size), h.ms.grown hg h9, Nat.le_trans (Nat.le_trans h12 h.sz) hg.size, h4, h10⟩
end
theorem own_same {W W' : World} {base : Nat} {e : TypeId} {size n : Nat} {v : Value} {xs : List Value} (h : W.ownsRow base e size v n xs) (hs : ∀ k, v.ownBlock = some k -> W'.heap[k]? = W.heap[k]?) : W'.ownsRow base e size v n xs := by
 rcases h.2 with h0 | ⟨g, cap, cur, hv, hb, hg, hr⟩
 ·exact ⟨h.1, .inl h0⟩
 ·exact ⟨h.1, .inr ⟨g, cap, cur, hv, hb, (hs g (by rw [hv]; rfl)).trans hg, hr⟩⟩
end

section
open Go.RowKit Go.Shelf Go.Deep
abbrev wOf (s : Sm) (f : Int) (t : Option Bool) (z : Nat) (w : World) : World := (((((((w.alloc (.cells (lkC s f t) 97)).alloc (.cells #[vi z] 3)).alloc (.cells #[vi 0, .slice none 0 0] 72)).alloc (.map #[] 0)).alloc (.cells #[.map (some (w.heap.size + 1 + 1 + 1))] 152)).alloc (.cells #[.func (.func 78) #[lkV s f t] #[]] 110)).alloc (.cells #[.func (.func 79) #[] (rpA (rpOf s f t z w.heap.size))] 153))
theorem start_is (s : Sm) (f : Int) (t : Option Bool) (z : Nat) (w : World) (hok : SmOk s w) : RsM (rpOf s f t z w.heap.size) [] (wOf s f t z w) /\ Whole (wOf s f t z w) (w.heap.size + 1 + 1) 72 #[vi 0, .slice none 0 0] /\ newer w (wOf s f t z w) /\ (wOf s f t z w).heap.size = w.heap.size + 7 := by
 have h1 : newer w (wOf s f t z w) := newer_trans (newer_trans (newer_trans (newer_trans (newer_trans (newer_trans (newer_allocH _ _) (newer_allocH _ _)) (newer_allocH _ _)) (newer_allocH _ _)) (newer_allocH _ _)) (newer_allocH _ _)) (newer_allocH _ _)
 have at_ : ∀ i o, (w.heap ++ #[.cells (lkC s f t) 97, .cells #[vi z] 3, .cells #[vi 0, .slice none 0 0] 72, .map #[] 0, .cells #[.map (some (w.heap.size + 1 + 1 + 1))] 152, .cells #[.func (.func 78) #[lkV s f t] #[]] 110, .cells #[.func (.func 79) #[] (rpA (rpOf s f t z w.heap.size))] 153])[w.heap.size + i]? = some o -> (wOf s f t z w).heap[w.heap.size + i]? = some o := by
  intro i o h
  rw [<- h]
  rfl
 have get : ∀ (i : Nat) (o : Obj) (l : Array Obj), l[i]? = some o -> (w.heap ++ l)[w.heap.size + i]? = some o := by
  intro i o l h
  rw [Array.getElem?_append_right (by omega), Nat.add_sub_cancel_left]
  exact h
 refine ⟨⟨at_ 0 _ (get 0 _ _ rfl), at_ 1 _ (get 1 _ _ rfl), at_ 4 _ (get 4 _ _ rfl), at_ 5 _ (get 5 _ _ rfl), at_ 6 _ (get 6 _ _ rfl), ⟨at_ 3 _ (get 3 _ _ rfl)⟩, (SmOk.at hok).same (fun k hk => h1.block k hk) h1.size⟩, at_ 2 _ (get 2 _ _ rfl), h1, by simp⟩
structure ChJ (T : RP) (b k m bi c j : Nat) (Ds acc : List Nat) (cur pb q cc : Nat) (lp : List ((Int × Int) × Int)) (w W : World) : Prop where
 me : RsM T lp W
 gd : Good T lp
 ch : ChS b k c j Ds acc cur pb q cc w W
 ln : acc.length = j
 jm : j <= m
 cn : cur < T.n
 pa : acc ++ pathB T.c T.n bigN (m - j) c cur = pathB T.c T.n bigN m k bi
 dl : Ds.length = j
 ck : c = k + j
def ChR (s : Sm) (f : Int) (t : Option Bool) (z k m bi : Nat) (bv : Int) (w : World) (a : Act) (W : World) : Prop := ∃ (c j : Nat) (Ds acc : List Nat) (cur pb q cc : Nat) (lp : List ((Int × Int) × Int)) (zs : Nat -> Value), a = { tmps := List.toArray (List.cons (lkV s f t) (List.cons (vi k) (List.cons (vi z) (List.cons (.pointer (some ⟨w.heap.size, 0, none⟩)) (List.cons (zs 4) (List.cons (.pointer (some ⟨(w.heap.size + 1), 0, none⟩)) (List.cons (.pointer (some ⟨(w.heap.size + 1 + 1), 0, none⟩)) (List.cons (vi bv) (List.cons (.pointer (some ⟨(w.heap.size + 1 + 1 + 1 + 1), 0, none⟩)) (List.cons (.pointer (some ⟨(w.heap.size + 1 + 1 + 1 + 1 + 1), 0, none⟩)) (List.cons (.pointer (some ⟨(w.heap.size + 1 + 1 + 1 + 1 + 1 + 1), 0, none⟩)) (List.cons (vi bi) (List.cons (zs 12) (List.cons (zs 13) (List.cons (.pointer (some ⟨pb, 0, none⟩)) (List.cons (zs 15) (List.cons (zs 16) (List.cons (zs 17) (List.cons (zs 18) (List.cons (zs 19) (List.cons (zs 20) (List.cons (zs 21) (List.cons (zs 22) (List.cons (zs 23) (List.cons (zs 24) (List.cons (zs 25) (List.cons (zs 26) (List.cons (zs 27) (List.cons (zs 28) (List.cons (zs 29) (List.cons (zs 30) (List.cons (zs 31) (List.cons (zs 32) (List.cons (zs 33) (List.cons (zs 34) (List.cons (zs 35) (List.cons (zs 36) (List.cons (zs 37) (List.cons (zs 38) (List.cons (zs 39) (List.cons (zs 40) (List.cons (zs 41) (List.cons (zs 42) (List.cons (zs 43) (List.cons (zs 44) (List.cons (zs 45) (List.cons (zs 46) (List.cons (zs 47) (List.cons (zs 48) (List.cons (zs 49) (List.cons (zs 50) (List.cons (zs 51) (List.cons (zs 52) (List.cons (zs 53) (List.cons (zs 54) (List.cons (zs 55) (List.cons (zs 56) (List.cons (zs 57) (List.cons (zs 58) (List.cons (zs 59) (List.cons (zs 60) (List.cons (zs 61) (List.cons (zs 62) (List.cons (zs 63) (List.cons (zs 64) (List.cons (zs 65) (List.cons (zs 66) (List.cons (zs 67) (List.cons (zs 68) (List.cons (zs 69) (List.cons (zs 70) (List.cons (zs 71) (List.cons (zs 72) (List.cons (zs 73) (List.cons (zs 74) (List.cons (zs 75) (List.cons (zs 76) (List.cons (zs 77) (List.cons (zs 78) (List.cons (zs 79) (List.cons (zs 80) (List.cons (zs 81) (List.cons (zs 82) (List.nil)))))))))))))))))))))))))))))))))))))))))))))))))))))))))))))))))))))))))))))))))))), defers := Ds.map markD } /\ ChJ (rpOf s f t z w.heap.size) w.heap.size k m bi c j Ds acc cur pb q cc lp w W
theorem ChR.elim {s : Sm} {f : Int} {t : Option Bool} {z k m bi : Nat} {bv : Int} {w : World} {a : Act} {W : World} (h : ChR s f t z k m bi bv w a W) {C : Act -> World -> Prop}
  (hc : ∀ (c j : Nat) (Ds acc : List Nat) (cur pb q cc : Nat) (lp : List ((Int × Int) × Int)) (z4 z12 z13 z15 z16 z17 z18 z19 z20 z21 z22 z23 z24 z25 z26 z27 z28 z29 z30 z31 z32 z33 z34 z35 z36 z37 z38 z39 z40 z41 z42 z43 z44 z45 z46 z47 z48 z49 z50 z51 z52 z53 z54 z55 z56 z57 z58 z59 z60 z61 z62 z63 z64 z65 z66 z67 z68 z69 z70 z71 z72 z73 z74 z75 z76 z77 z78 z79 z80 z81 z82 : Value), ChJ (rpOf s f t z w.heap.size) w.heap.size k m bi c j Ds acc cur pb q cc lp w W -> a.defers.length = Ds.length -> C { tmps := List.toArray (List.cons (lkV s f t) (List.cons (vi k) (List.cons (vi z) (List.cons (.pointer (some ⟨w.heap.size, 0, none⟩)) (List.cons (z4) (List.cons (.pointer (some ⟨(w.heap.size + 1), 0, none⟩)) (List.cons (.pointer (some ⟨(w.heap.size + 1 + 1), 0, none⟩)) (List.cons (vi bv) (List.cons (.pointer (some ⟨(w.heap.size + 1 + 1 + 1 + 1), 0, none⟩)) (List.cons (.pointer (some ⟨(w.heap.size + 1 + 1 + 1 + 1 + 1), 0, none⟩)) (List.cons (.pointer (some ⟨(w.heap.size + 1 + 1 + 1 + 1 + 1 + 1), 0, none⟩)) (List.cons (vi bi) (List.cons (z12) (List.cons (z13) (List.cons (.pointer (some ⟨pb, 0, none⟩)) (List.cons (z15) (List.cons (z16) (List.cons (z17) (List.cons (z18) (List.cons (z19) (List.cons (z20) (List.cons (z21) (List.cons (z22) (List.cons (z23) (List.cons (z24) (List.cons (z25) (List.cons (z26) (List.cons (z27) (List.cons (z28) (List.cons (z29) (List.cons (z30) (List.cons (z31) (List.cons (z32) (List.cons (z33) (List.cons (z34) (List.cons (z35) (List.cons (z36) (List.cons (z37) (List.cons (z38) (List.cons (z39) (List.cons (z40) (List.cons (z41) (List.cons (z42) (List.cons (z43) (List.cons (z44) (List.cons (z45) (List.cons (z46) (List.cons (z47) (List.cons (z48) (List.cons (z49) (List.cons (z50) (List.cons (z51) (List.cons (z52) (List.cons (z53) (List.cons (z54) (List.cons (z55) (List.cons (z56) (List.cons (z57) (List.cons (z58) (List.cons (z59) (List.cons (z60) (List.cons (z61) (List.cons (z62) (List.cons (z63) (List.cons (z64) (List.cons (z65) (List.cons (z66) (List.cons (z67) (List.cons (z68) (List.cons (z69) (List.cons (z70) (List.cons (z71) (List.cons (z72) (List.cons (z73) (List.cons (z74) (List.cons (z75) (List.cons (z76) (List.cons (z77) (List.cons (z78) (List.cons (z79) (List.cons (z80) (List.cons (z81) (List.cons (z82) (List.nil)))))))))))))))))))))))))))))))))))))))))))))))))))))))))))))))))))))))))))))))))))), defers := Ds.map markD } W) : C a W := by
 obtain ⟨c, j, Ds, acc, cur, pb, q, cc, lp, zs, rfl, hJ⟩ := h
 exact hc _ _ _ _ _ _ _ _ _ (zs 4) (zs 12) (zs 13) (zs 15) (zs 16) (zs 17) (zs 18) (zs 19) (zs 20) (zs 21) (zs 22) (zs 23) (zs 24) (zs 25) (zs 26) (zs 27) (zs 28) (zs 29) (zs 30) (zs 31) (zs 32) (zs 33) (zs 34) (zs 35) (zs 36) (zs 37) (zs 38) (zs 39) (zs 40) (zs 41) (zs 42) (zs 43) (zs 44) (zs 45) (zs 46) (zs 47) (zs 48) (zs 49) (zs 50) (zs 51) (zs 52) (zs 53) (zs 54) (zs 55) (zs 56) (zs 57) (zs 58) (zs 59) (zs 60) (zs 61) (zs 62) (zs 63) (zs 64) (zs 65) (zs 66) (zs 67) (zs 68) (zs 69) (zs 70) (zs 71) (zs 72) (zs 73) (zs 74) (zs 75) (zs 76) (zs 77) (zs 78) (zs 79) (zs 80) (zs 81) (zs 82) hJ (by simp)
theorem ChR.intro {s : Sm} {f : Int} {t : Option Bool} {z k m bi : Nat} {bv : Int} {w : World} {W : World} (c j : Nat) (Ds acc : List Nat) (cur pb q cc : Nat) (lp : List ((Int × Int) × Int)) (z4 z12 z13 z15 z16 z17 z18 z19 z20 z21 z22 z23 z24 z25 z26 z27 z28 z29 z30 z31 z32 z33 z34 z35 z36 z37 z38 z39 z40 z41 z42 z43 z44 z45 z46 z47 z48 z49 z50 z51 z52 z53 z54 z55 z56 z57 z58 z59 z60 z61 z62 z63 z64 z65 z66 z67 z68 z69 z70 z71 z72 z73 z74 z75 z76 z77 z78 z79 z80 z81 z82 : Value) (hJ : ChJ (rpOf s f t z w.heap.size) w.heap.size k m bi c j Ds acc cur pb q cc lp w W) : ChR s f t z k m bi bv w { tmps := List.toArray (List.cons (lkV s f t) (List.cons (vi k) (List.cons (vi z) (List.cons (.pointer (some ⟨w.heap.size, 0, none⟩)) (List.cons (z4) (List.cons (.pointer (some ⟨(w.heap.size + 1), 0, none⟩)) (List.cons (.pointer (some ⟨(w.heap.size + 1 + 1), 0, none⟩)) (List.cons (vi bv) (List.cons (.pointer (some ⟨(w.heap.size + 1 + 1 + 1 + 1), 0, none⟩)) (List.cons (.pointer (some ⟨(w.heap.size + 1 + 1 + 1 + 1 + 1), 0, none⟩)) (List.cons (.pointer (some ⟨(w.heap.size + 1 + 1 + 1 + 1 + 1 + 1), 0, none⟩)) (List.cons (vi bi) (List.cons (z12) (List.cons (z13) (List.cons (.pointer (some ⟨pb, 0, none⟩)) (List.cons (z15) (List.cons (z16) (List.cons (z17) (List.cons (z18) (List.cons (z19) (List.cons (z20) (List.cons (z21) (List.cons (z22) (List.cons (z23) (List.cons (z24) (List.cons (z25) (List.cons (z26) (List.cons (z27) (List.cons (z28) (List.cons (z29) (List.cons (z30) (List.cons (z31) (List.cons (z32) (List.cons (z33) (List.cons (z34) (List.cons (z35) (List.cons (z36) (List.cons (z37) (List.cons (z38) (List.cons (z39) (List.cons (z40) (List.cons (z41) (List.cons (z42) (List.cons (z43) (List.cons (z44) (List.cons (z45) (List.cons (z46) (List.cons (z47) (List.cons (z48) (List.cons (z49) (List.cons (z50) (List.cons (z51) (List.cons (z52) (List.cons (z53) (List.cons (z54) (List.cons (z55) (List.cons (z56) (List.cons (z57) (List.cons (z58) (List.cons (z59) (List.cons (z60) (List.cons (z61) (List.cons (z62) (List.cons (z63) (List.cons (z64) (List.cons (z65) (List.cons (z66) (List.cons (z67) (List.cons (z68) (List.cons (z69) (List.cons (z70) (List.cons (z71) (List.cons (z72) (List.cons (z73) (List.cons (z74) (List.cons (z75) (List.cons (z76) (List.cons (z77) (List.cons (z78) (List.cons (z79) (List.cons (z80) (List.cons (z81) (List.cons (z82) (List.nil)))))))))))))))))))))))))))))))))))))))))))))))))))))))))))))))))))))))))))))))))))), defers := Ds.map markD } W :=
 ⟨c, j, Ds, acc, cur, pb, q, cc, lp, fun i => slotOf { tmps := List.toArray (List.cons (lkV s f t) (List.cons (vi k) (List.cons (vi z) (List.cons (.pointer (some ⟨w.heap.size, 0, none⟩)) (List.cons (z4) (List.cons (.pointer (some ⟨(w.heap.size + 1), 0, none⟩)) (List.cons (.pointer (some ⟨(w.heap.size + 1 + 1), 0, none⟩)) (List.cons (vi bv) (List.cons (.pointer (some ⟨(w.heap.size + 1 + 1 + 1 + 1), 0, none⟩)) (List.cons (.pointer (some ⟨(w.heap.size + 1 + 1 + 1 + 1 + 1), 0, none⟩)) (List.cons (.pointer (some ⟨(w.heap.size + 1 + 1 + 1 + 1 + 1 + 1), 0, none⟩)) (List.cons (vi bi) (List.cons (z12) (List.cons (z13) (List.cons (.pointer (some ⟨pb, 0, none⟩)) (List.cons (z15) (List.cons (z16) (List.cons (z17) (List.cons (z18) (List.cons (z19) (List.cons (z20) (List.cons (z21) (List.cons (z22) (List.cons (z23) (List.cons (z24) (List.cons (z25) (List.cons (z26) (List.cons (z27) (List.cons (z28) (List.cons (z29) (List.cons (z30) (List.cons (z31) (List.cons (z32) (List.cons (z33) (List.cons (z34) (List.cons (z35) (List.cons (z36) (List.cons (z37) (List.cons (z38) (List.cons (z39) (List.cons (z40) (List.cons (z41) (List.cons (z42) (List.cons (z43) (List.cons (z44) (List.cons (z45) (List.cons (z46) (List.cons (z47) (List.cons (z48) (List.cons (z49) (List.cons (z50) (List.cons (z51) (List.cons (z52) (List.cons (z53) (List.cons (z54) (List.cons (z55) (List.cons (z56) (List.cons (z57) (List.cons (z58) (List.cons (z59) (List.cons (z60) (List.cons (z61) (List.cons (z62) (List.cons (z63) (List.cons (z64) (List.cons (z65) (List.cons (z66) (List.cons (z67) (List.cons (z68) (List.cons (z69) (List.cons (z70) (List.cons (z71) (List.cons (z72) (List.cons (z73) (List.cons (z74) (List.cons (z75) (List.cons (z76) (List.cons (z77) (List.cons (z78) (List.cons (z79) (List.cons (z80) (List.cons (z81) (List.cons (z82) (List.nil)))))))))))))))))))))))))))))))))))))))))))))))))))))))))))))))))))))))))))))))))))), defers := [] } i, rfl, hJ⟩
attribute [local go_sem] Oper.semAt_some
theorem info_int : (Tryz.prog.info? 3).map (fun i => (i.zero, i.size, i.bytes)) = some (some (.int .i64 0), 1, 8) := by kernel_rfl
theorem own_whole {w : World} {base n c g : Nat} {e : TypeId} {xs : List Value} (h : w.ownsRow base e 1 (.slice (some ⟨g, 0, none⟩) n c) n xs) : ∃ t cs, Whole w g t cs := by
 rcases h.2 with ⟨h0, _⟩ | ⟨g2, cap, cur, hv, hb, hg, _⟩
 ·cases h0
 ·injection hv with e1 _ e3
  injection e1 with e1
  injection e1 with e1
  subst e1
  exact ⟨_, _, hg⟩
set_option maxRecDepth 100000 in
set_option maxHeartbeats 1000000 in
theorem cheap_any (s : Sm) (f : Int) (t : Option Bool) (k m : Nat) (w : World) (hok : SmOk s w) (hs : SdOk s.sd) (f0 : 0 <= f) (f1 : f <= 10001) (hk : k + m < s.cs.length) :
  Calls Tryz.prog 59 #[lkV s f t, vi k, vi (k + m : Nat)] w fun e w' => ∃ q c, e = .returned (.tuple #[.agg #[vi k, .slice (some ⟨q, 0, none⟩) (m + 1) c], vi (cheapN (cF (hT t s.sd) (dAt s.sd) f) s.sd.n bigN m k).2]) /\ newer w w' /\ w'.ownsRow w.heap.size 3 1 (.slice (some ⟨q, 0, none⟩) (m + 1) c) (m + 1) ((cheapN (cF (hT t s.sd) (dAt s.sd) f) s.sd.n bigN m k).1.map fun x : Nat => vi x) := by
 obtain ⟨z, hz⟩ : ∃ z, z = k + m := ⟨_, rfl⟩
 rw [<- hz] at hk ⊢
 obtain ⟨x, _, hx, _, hxl, _, _⟩ := sm_bed hs (k := 0) (j := 0) (by omega) (by have := hs.beds; omega)
 have HX := Lib.hid (And.intro hx hxl)
 have HZ := Lib.hid hz
 clear hz hx hxl
 have hT0 : RpOk (rpOf s f t z w.heap.size) := ⟨hs, f0, f1, hk, by simp only []; omega, by simp only []; omega, by simp only []; omega, by simp only []; omega, by simp only []; omega, by simp only []; omega⟩
 have HT := Lib.hid hT0
 have HOK := Lib.hid hok
 have HSD := Lib.hid hs
 clear hs f0 f1 hk hT0
 have HS := Lib.hid (start_is s f t z w hok)
 have e0 := Whole.made w 97 (lkC s f t)
 obtain ⟨b, hb⟩ : ∃ b, b = w.heap.size := ⟨_, rfl⟩
 have l0 := e0.at 0 (v := .slice s.a s.cs.length s.c) rfl
 have l1 := e0.at 1 (v := vi s.least) rfl
 have l2 := e0.at 2 (v := vi f) rfl
 have l3 := e0.at 3 (v := .func (.func (trF t)) #[] #[]) rfl
 clear e0 hok
 refine callsIn_wide.1 (callsIn_of_wp_marks (n := 9) Tryz.func59 rfl trivial ?_ rfl)
 simp only [Tryz.ntmps59, List.size_toArray, List.length_cons, List.length_nil, Nat.reduceAdd, Nat.reduceSub, Array.replicate_succ, Array.replicate_zero, List.push_toArray, List.append_toArray, List.nil_append, List.cons_append]
 refine wpIn_wide.2 ?_
 go_wp2_with fail
 rw [run_makeMap]
 go_upto_region 7 with fail
 refine genQ (fun X => RsM (rpOf s f t z w.heap.size) [] X /\ Whole X (w.heap.size + 1 + 1) 72 #[vi 0, .slice none 0 0] /\ newer w X /\ X.heap.size = w.heap.size + 7) HS.out ?_
 clear HS l0 l1 l2 l3 hb b
 rintro w1 ⟨hm, hr, hn, hsz⟩
 obtain ⟨n, hn'⟩ : ∃ n, n = s.sd.n := ⟨_, rfl⟩
 have HN := Lib.hid hn'
 have hxl : x.beds.length = n := by rw [hn']; exact HX.out.2
 have hcall := beds_any s f t x w1 hm.at_.ok HX.out.1
 rw [hxl] at hcall
 have HB := Lib.hid hcall
 have x0 := hm.xl.at 0 (v := .slice s.a s.cs.length s.c) rfl
 have x1 := hm.xl.at 1 (v := vi s.least) rfl
 have x2 := hm.xl.at 2 (v := vi f) rfl
 have x3 := hm.xl.at 3 (v := .func (.func (trF t)) #[] #[]) rfl
 have hn5 : n <= 5 := by rw [hn']; exact HSD.out.beds.2
 have H1 := Lib.hid (And.intro hm (And.intro hr (And.intro hn hsz)))
 clear hm hr hn hsz hcall hxl hn'
 go_wp2_with fail
 refine (HB.out).mono ?_
 rintro e w2 ⟨rfl, hb⟩
 have H2 : Hid (RsM (rpOf s f t z w.heap.size) [] w2 /\ Whole w2 (w.heap.size + 1 + 1) 72 #[vi 0, .slice none 0 0] /\ newer w w2) := Lib.hid ⟨H1.out.1.next hb, H1.out.2.1.below hb H1.out.2.1.lt, newer_trans H1.out.2.2.1 hb⟩
 clear H1 HB hb x0 x1 x2 x3
 obtain ⟨g, hg⟩ : ∃ g : Nat -> Int, g = restN (cF (hT t s.sd) (dAt s.sd) f) n bigN m k := ⟨_, rfl⟩
 have HR : Hid (∀ (j : Nat) lp W, j < n -> RsM (rpOf s f t z w.heap.size) lp W -> Good (rpOf s f t z w.heap.size) lp -> Calls Tryz.prog 79 (#[.agg #[vi k, vi j]] ++ rpA (rpOf s f t z w.heap.size)) W fun e W' => e = .returned (vi (g j)) /\ ∃ lp', RsM (rpOf s f t z w.heap.size) lp' W' /\ Good (rpOf s f t z w.heap.size) lp' /\ W.grownBy W' (some (w.heap.size + 1 + 1 + 1))) := Lib.hid (by
  intro j lp W hj h1 h2
  rw [hg, HN.out]
  exact rest_any (rpOf s f t z w.heap.size) HT.out m k j lp W HZ.out.symm (by rw [HN.out] at hj; exact hj) h1 h2)
 have HGN := Lib.hid hg
 clear hg
 go_wp2_with fail
 go_loopw [7, 11, 23] (fun s7 s11 s23 wr => ∃ i : Nat, i <= n /\ s23 = vi i /\ s7 = vi (firstB g bigN i).1 /\ s11 = vi (firstB g bigN i).2 /\ (∃ lp, RsM (rpOf s f t z w.heap.size) lp wr /\ Good (rpOf s f t z w.heap.size) lp) /\ Whole wr (w.heap.size + 1 + 1) 72 #[vi 0, .slice none 0 0] /\ newer w wr) (fun _ _ s23 _ => n - (intOf s23).toNat)
 case atStart => exact ⟨0, Nat.zero_le _, rfl, rfl, rfl, ⟨[], H2.out.1, fun p hp => by simp at hp⟩, H2.out.2.1, H2.out.2.2⟩
 case round =>
  obtain ⟨i, hi, rfl, rfl, rfl, ⟨lp, q1, q2⟩, q3, q4⟩ := hrel
  have f0 := q1.fl.at 0 (v := .func (.func 79) #[] (rpA (rpOf s f t z w.heap.size))) rfl
  have H3 := Lib.hid (And.intro q1 (And.intro q2 (And.intro q3 q4)))
  clear q1 q2 q3 q4
  by_cases hlt : i < n
  ·go_wp2_with fail
   refine (HR.out i lp wr hlt H3.out.1 H3.out.2.1).mono ?_
   rintro e w4 ⟨rfl, lp4, g1, g2, g3⟩
   have H4 : Hid (RsM (rpOf s f t z w.heap.size) lp4 w4 /\ Good (rpOf s f t z w.heap.size) lp4 /\ Whole w4 (w.heap.size + 1 + 1) 72 #[vi 0, .slice none 0 0] /\ newer w w4) := Lib.hid ⟨g1, g2, H3.out.2.2.1.grown g3 (fun e => by injection e; omega), Below.trans H3.out.2.2.2 (below_of_grown g3 (by omega) H3.out.2.2.2.size)⟩
   clear H3 g1 g2 g3 f0
   by_cases hgt : g i < (firstB g bigN i).1
   ·have e : firstB g bigN (i + 1) = (g i, i) := by simp only [firstB, if_pos hgt]
    go_wp2_with fail
    go_round
    case measure =>
     simp only [intOf]
     omega
    exact ⟨i + 1, by omega, rfl, by rw [e], by rw [e], ⟨lp4, H4.out.1, H4.out.2.1⟩, H4.out.2.2.1, H4.out.2.2.2⟩
   ·have e : firstB g bigN (i + 1) = firstB g bigN i := by simp only [firstB, if_neg hgt]
    go_wp2_with fail
    go_round
    case measure =>
     simp only [intOf]
     omega
    exact ⟨i + 1, by omega, rfl, by rw [e], by rw [e], ⟨lp4, H4.out.1, H4.out.2.1⟩, H4.out.2.2.1, H4.out.2.2.2⟩
  ·obtain rfl : i = n := by omega
   obtain ⟨bi, hbi⟩ : ∃ bi, bi = (firstB g bigN i).2 := ⟨_, rfl⟩
   obtain ⟨bv, hbv⟩ : ∃ bv, bv = (firstB g bigN i).1 := ⟨_, rfl⟩
   rw [<- hbi, <- hbv]
   have HBI := Lib.hid (And.intro hbi hbv)
   clear hbi hbv
   have h5 := H3.out.2.2.1.alloc (.cells #[vi bi] 3)
   have r0 := h5.at 0 (v := vi 0) rfl
   have r1 := h5.at 1 (v := .slice none 0 0) rfl
   have rf0 := h5.free 0
   have rf1 := h5.free 1
   have h6 := h5.set 0 (vi k)
   have u1 := h6.at 1 (v := .slice none 0 0) rfl
   have uf1 := h6.free 1
   clear h5 h6
   clear f0
   go_upto_region 15 with fail
   have HE : Hid (RsM (rpOf s f t z w.heap.size) lp (((wr.alloc (.cells #[vi bi] 3)).setCell ⟨w.heap.size + 1 + 1, 0, none⟩ (vi k)).setCell ⟨w.heap.size + 1 + 1, 1, none⟩ (.slice (some ⟨wr.heap.size, 0, none⟩) 1 1)) /\ Whole (((wr.alloc (.cells #[vi bi] 3)).setCell ⟨w.heap.size + 1 + 1, 0, none⟩ (vi k)).setCell ⟨w.heap.size + 1 + 1, 1, none⟩ (.slice (some ⟨wr.heap.size, 0, none⟩) 1 1)) (w.heap.size + 1 + 1) 72 #[vi k, .slice (some ⟨wr.heap.size, 0, none⟩) 1 1] /\ Whole (((wr.alloc (.cells #[vi bi] 3)).setCell ⟨w.heap.size + 1 + 1, 0, none⟩ (vi k)).setCell ⟨w.heap.size + 1 + 1, 1, none⟩ (.slice (some ⟨wr.heap.size, 0, none⟩) 1 1)) wr.heap.size 3 #[vi bi] /\ newer w (((wr.alloc (.cells #[vi bi] 3)).setCell ⟨w.heap.size + 1 + 1, 0, none⟩ (vi k)).setCell ⟨w.heap.size + 1 + 1, 1, none⟩ (.slice (some ⟨wr.heap.size, 0, none⟩) 1 1))) := Lib.hid (by
    have a0 := newer_allocH wr (.cells #[vi bi] 3)
    have a1 := H3.out.1.next a0
    have a2 : (wr.alloc (.cells #[vi bi] 3)).grownBy (((wr.alloc (.cells #[vi bi] 3)).setCell ⟨w.heap.size + 1 + 1, 0, none⟩ (vi k)).setCell ⟨w.heap.size + 1 + 1, 1, none⟩ (.slice (some ⟨wr.heap.size, 0, none⟩) 1 1)) (some (w.heap.size + 1 + 1)) := grown_set (p := ⟨w.heap.size + 1 + 1, 1, none⟩) (grown_set (p := ⟨w.heap.size + 1 + 1, 0, none⟩) (grown_refl _ _) (.inl rfl) _) (.inl rfl) _
    have a3 := H3.out.2.2.1.lt
    have a4 := H3.out.2.2.2
    refine ⟨a1.far a2 (by simp only []; omega) (by simp only []; omega) (by simp only []; omega) (by simp only []; omega) (by simp only []; omega) (by simp only []; omega) (by simp only []; omega), ((H3.out.2.2.1.alloc (.cells #[vi bi] 3)).set 0 (vi k)).set 1 (.slice (some ⟨wr.heap.size, 0, none⟩) 1 1), (Whole.made wr 3 #[vi bi]).grown a2 (fun e => by injection e; omega), Below.trans (newer_trans a4 a0) (below_of_grown a2 (by omega) (Nat.le_trans a4.size a0.size))⟩)
   have HGD := Lib.hid H3.out.2.1
   have HWR := Lib.hid (show w.heap.size + 7 <= wr.heap.size from H3.out.1.fl.lt)
   have HQ := Lib.hid (show w.heap.size + 1 + 1 < wr.heap.size from H3.out.2.2.1.lt)
   clear H3 r0 r1 rf0 rf1 u1 uf1
   refine genQ (fun X => RsM (rpOf s f t z w.heap.size) lp X /\ Whole X (w.heap.size + 1 + 1) 72 #[vi k, .slice (some ⟨wr.heap.size, 0, none⟩) 1 1] /\ Whole X wr.heap.size 3 #[vi bi] /\ newer w X) HE.out ?_
   clear HE
   rintro w5 ⟨hm, hr, hq, hn⟩
   have HW5 := Lib.hid (And.intro hm (And.intro hr (And.intro hq hn)))
   clear hm hr hq hn
   have hbn : bi < i := by
    have h1 := (first_is (f := g) (big := bigN) i).2.2
    rw [HBI.out.1]
    rcases h1 with h1 | h1
    ·rw [h1]
     show 0 < i
     have := HSD.out.beds
     have := HN.out
     omega
    ·exact h1.1
   obtain ⟨q0, hq0⟩ : ∃ q0, q0 = wr.heap.size := ⟨_, rfl⟩
   go_upto_region 16 with fail
   refine wp_loop (ChR s f t z k m bi bv w) (fun a _ => m - a.defers.length) ?_ ?_
   ·refine ChR.intro k 0 [] [] bi w5.heap.size wr.heap.size 1 lp _ _ _ _ _ _ _ _ _ _ _ _ _ _ _ _ _ _ _ _ _ _ _ _ _ _ _ _ _ _ _ _ _ _ _ _ _ _ _ _ _ _ _ _ _ _ _ _ _ _ _ _ _ _ _ _ _ _ _ _ _ _ _ _ _ _ _ _ _ _ _ ?_
    have h5 := HW5.out
    have e1 := newer_allocH w5 (.cells #[vi k, vi bi] 155)
    have e2 := HQ.out
    have hwr := HWR.out
    refine ⟨h5.1.next e1, HGD.out, ⟨h5.2.1.below e1 h5.2.1.lt, ⟨by simp, .inr ⟨wr.heap.size, 1, #[vi bi], rfl, hwr, h5.2.2.1.below e1 h5.2.2.1.lt, Nat.le_refl _, by unfold maxLen; omega, by simp, by simp⟩⟩, Whole.made w5 155 #[vi k, vi bi], newer_trans h5.2.2.2 e1, ⟨List.nodup_nil, by simp⟩, ?_, by simp, rfl⟩, rfl, Nat.zero_le _, ?_, by simp, rfl, rfl⟩
    ·have := h5.2.2.1.lt
     omega
    ·show bi < s.sd.n
     rw [<- HN.out]
     exact hbn
   ·intro a W hJ
    refine ChR.elim hJ ?_
    clear hJ
    intro c j Ds acc cur pb q cc lp z4 z12 z13 z15 z16 z17 z18 z19 z20 z21 z22 z23 z24 z25 z26 z27 z28 z29 z30 z31 z32 z33 z34 z35 z36 z37 z38 z39 z40 z41 z42 z43 z44 z45 z46 z47 z48 z49 z50 z51 z52 z53 z54 z55 z56 z57 z58 z59 z60 z61 z62 z63 z64 z65 z66 z67 z68 z69 z70 z71 z72 z73 z74 z75 z76 z77 z78 z79 z80 z81 z82 hJ hal
    have HAL := Lib.hid hal
    clear hal
    have hjm := hJ.jm
    have hcn := hJ.cn
    have HJ := Lib.hid hJ
    have s0 := hJ.ch.st.at 0 (v := vi c) rfl
    have s1 := hJ.ch.st.at 1 (v := vi cur) rfl
    have t0 := hJ.me.tl.at 0 (v := vi z) rfl
    clear hJ
    by_cases hlt : j < m
    ·have hcz : (c : Int) < z := by have := HZ.out; have := HJ.out.ck; omega
     have hcb : c <= 12 := by have h1 := HSD.out.cols; have h2 : z < s.cs.length := HT.out.zl; have h3 := sd_len s; omega
     have HK := Lib.hid (And.intro hlt (And.intro hcn hbn))
     have l0 := HJ.out.me.xl.at 0 (v := .slice s.a s.cs.length s.c) rfl
     have l1 := HJ.out.me.xl.at 1 (v := vi s.least) rfl
     have l2 := HJ.out.me.xl.at 2 (v := vi f) rfl
     have l3 := HJ.out.me.xl.at 3 (v := .func (.func (trF t)) #[] #[]) rfl
     go_upto_region 18 with fail
     obtain ⟨ce, hce⟩ : ∃ ce, ce = c + 1 := ⟨_, rfl⟩
     rw [show (c : Int) + 1 = (ce : Nat) by omega]
     have HCE := Lib.hid hce
     have HL := Lib.hid HJ.out.ch.lts
     have hn1 : newer W (W.alloc (.cells #[vi ce, vi cur] 155)) := newer_allocH _ _
     have HX := Lib.hid (show RsM (rpOf s f t z w.heap.size) lp (W.alloc (.cells #[vi ce, vi cur] 155)) /\ ChS w.heap.size k c j Ds acc cur pb q cc w (W.alloc (.cells #[vi ce, vi cur] 155)) /\ Whole (W.alloc (.cells #[vi ce, vi cur] 155)) W.heap.size 155 #[vi ce, vi cur] from ⟨HJ.out.me.next hn1, HJ.out.ch.next hn1, Whole.made _ _ _⟩)
     have HI := Lib.hid (And.intro HJ.out.gd (And.intro HJ.out.ln (And.intro HJ.out.pa (And.intro HJ.out.dl HJ.out.ck))))
     clear hn1 s0 s1 t0 l0 l1 l2 l3 hce HJ
     refine genQ (fun X => RsM (rpOf s f t z w.heap.size) lp X /\ ChS w.heap.size k c j Ds acc cur pb q cc w X /\ Whole X W.heap.size 155 #[vi ce, vi cur]) HX.out ?_
     clear HX
     obtain ⟨sb, hsb⟩ : ∃ sb, sb = W.heap.size := ⟨_, rfl⟩
     rw [<- hsb] at HL ⊢
     clear hsb W
     rintro w6 ⟨hm6, hc6, hs6⟩
     have s1 := hc6.st.at 1 (v := vi cur) rfl
     have l0 := hm6.xl.at 0 (v := .slice s.a s.cs.length s.c) rfl
     have l1 := hm6.xl.at 1 (v := vi s.least) rfl
     have l2 := hm6.xl.at 2 (v := vi f) rfl
     have l3 := hm6.xl.at 3 (v := .func (.func (trF t)) #[] #[]) rfl
     have H6 := Lib.hid (And.intro hm6 (And.intro hc6 hs6))
     clear hm6 hc6 hs6
     go_wp2_with fail
     refine (next_any s f t cur _).mono ?_
     rintro e w7 ⟨rfl, hw7⟩
     have H7 : Hid (RsM (rpOf s f t z w.heap.size) lp w7 /\ ChS w.heap.size k c j Ds acc cur pb q cc w w7 /\ Whole w7 sb 155 #[vi ce, vi cur] /\ Whole w7 (w6.heap.size + 1) 3 #[vi cur] /\ Whole w7 w6.heap.size 97 (lkC s f t) /\ sb < w6.heap.size) := Lib.hid (by
      have e1 : newer w6 (w6.alloc (.cells (lkC s f t) 97)) := newer_allocH _ _
      have e2 : newer (w6.alloc (.cells (lkC s f t) 97)) w7 := hw7 ▸ newer_allocH _ _
      have e3 := newer_trans e1 e2
      obtain ⟨a1, a2, a3⟩ := H6.out
      refine ⟨a1.next e3, a2.next e3, a3.below e3 a3.lt, ?_, ?_, a3.lt⟩
      ·rw [<- hw7]
       have e5 := Whole.made (w6.alloc (.cells (lkC s f t) 97)) 3 #[vi cur]
       rw [World.size_alloc] at e5
       exact e5
      ·have e4 := Whole.made w6 97 (lkC s f t)
       exact e4.below e2 e4.lt)
     obtain ⟨lb, hlb⟩ : ∃ lb, lb = w6.heap.size := ⟨_, rfl⟩
     rw [<- hlb] at H7 ⊢
     clear hlb hw7 H6 s1 l0 l1 l2 l3
     go_wp2_with fail
     obtain ⟨bb, hbb⟩ : ∃ bb, bb = lb + 1 := ⟨_, rfl⟩
     have HBB := Lib.hid hbb
     have hxn : x.beds.length <= 1000 := by have h1 := HSD.out.beds; have h2 := HX.out.2; omega
     obtain ⟨N, hN⟩ : ∃ N, N = sb := ⟨_, rfl⟩
     refine (wpIn_wide (n := 9)).1 (range_law (gf := 93) (lb := #[.pointer (some ⟨lb + 1, 0, none⟩), .pointer (some ⟨lb, 0, none⟩)]) rfl (enters_of Tryz.func93 (by kernel_rfl) rfl) ?_)
     intro r0 r1 r2 r3 r4 r5 r6
     rw [<- hbb]
     have hcn2 : cur < x.beds.length := by rw [HX.out.2]; exact hcn
     refine (callsIn_wide.1 (next_in 8 (w7.heap.size + 1) bb lb s f t x cur HX.out.1 hcn2 hxn (fun i2 W => BsJ s f t z w.heap.size k c ce j Ds acc cur pb q cc sb lb bb w7.heap.size N (bestK (rpOf s f t z w.heap.size).c (rpOf s f t z w.heap.size).n (z - ce) c cur i2) r0 w W) ?hJ ?hN ?hY _ ?h0)).mono ?_
     case hJ =>
      intro i2 W hj
      obtain ⟨_, g1, _⟩ := hj.me
      exact ⟨hj.bx, hj.lx, g1.at_.ok⟩
     case hN => exact fun i2 W W' hj hb => hj.next hb
     case h0 =>
      have e1 := newer_trans (newer_allocH w7 (.deferred (some []))) (newer_allocH (w7.alloc (.deferred (some []))) (.loop r0))
      obtain ⟨a1, a2, a3, a4, a5, a6⟩ := H7.out
      have b4 : bb < w7.heap.size := by rw [hbb]; exact a4.lt
      refine ⟨⟨lp, a1.next e1, HI.out.1⟩, a2.next e1, a3.below e1 a3.lt, (hbb ▸ a4).below e1 b4, a5.below e1 a5.lt, ?_, ?_, by rw [hN]; exact HL.out, by omega⟩
      ·simp only [heap_if, World.size_alloc]
       repeat rw [if_neg (by omega)]
       rfl
      ·simp only [heap_if, World.size_alloc]
       repeat rw [if_neg (by omega)]
       rfl
     case hY =>
      intro i2 W hk hj
      rw [show ((loN cur : Nat) : Int) + (i2 : Int) = ((loN cur + i2 : Nat) : Int) from rfl]
      have hkn : loN cur + i2 < (rpOf s f t z w.heap.size).n := by
       show loN cur + i2 < s.sd.n
       rw [<- HX.out.2]
       unfold cntN at hk
       unfold loN
       omega
      rw [HX.out.2] at hk
      rw [bestK_succ (show i2 < cntN (rpOf s f t z w.heap.size).n cur from hk)]
      obtain ⟨bk, hbk0⟩ : ∃ bk, bk = bestK (rpOf s f t z w.heap.size).c (rpOf s f t z w.heap.size).n (z - ce) c cur i2 := ⟨_, rfl⟩
      have hbk : bk < (rpOf s f t z w.heap.size).n := by rw [hbk0]; exact bestK_lt hcn
      rw [<- hbk0] at hj ⊢
      clear hbk0
      have HRC : Hid (∀ (j : Nat) lp W, j < (rpOf s f t z w.heap.size).n -> RsM (rpOf s f t z w.heap.size) lp W -> Good (rpOf s f t z w.heap.size) lp -> Calls Tryz.prog 79 (#[.agg #[vi ce, vi j]] ++ rpA (rpOf s f t z w.heap.size)) W fun e W' => e = .returned (vi (restN (rpOf s f t z w.heap.size).c (rpOf s f t z w.heap.size).n bigN (z - ce) ce j)) /\ ∃ lp', RsM (rpOf s f t z w.heap.size) lp' W' /\ Good (rpOf s f t z w.heap.size) lp' /\ W.grownBy W' (some (w.heap.size + 1 + 1 + 1))) := Lib.hid (fun j lp W hj h1 h2 => rest_any (rpOf s f t z w.heap.size) HT.out (z - ce) ce j lp W (by have := HCE.out; show ce + (z - ce) = z; omega) hj h1 h2)
      rw [<- HCE.out]
      obtain ⟨rv, hrv⟩ : ∃ rv, rv = restN (rpOf s f t z w.heap.size).c (rpOf s f t z w.heap.size).n bigN (z - ce) ce (loN cur + i2) := ⟨_, rfl⟩
      have RVH := Lib.hid hrv
      obtain ⟨rb, hrb⟩ : ∃ rb, rb = restN (rpOf s f t z w.heap.size).c (rpOf s f t z w.heap.size).n bigN (z - ce) ce bk := ⟨_, rfl⟩
      have RBH := Lib.hid hrb
      rw [<- hrv, <- hrb]
      clear hrv hrb
      obtain ⟨bn, hbn2⟩ : ∃ bn, bn = if rv < rb then loN cur + i2 else bk := ⟨_, rfl⟩
      have HBN := Lib.hid hbn2
      rw [<- hbn2]
      clear hbn2
      clear hbb hN
      refine yield_round (r := r0) hj.lo r1 r2 (by rw [r4]; rfl) ?_
      rw [r3, r4, r5, r6]
      simp only [List.zip_toArray, List.zip_cons_cons, List.zip_nil_right, List.foldl_toArray, List.foldl_cons, List.foldl_nil, List.setIfInBounds_toArray, List.set_cons_zero, List.set_cons_succ]
      gi_wp2_with fail
      refine ⟨hj.lo, ?_⟩
      have hj5 := hj.put (busyOf r0)
      obtain ⟨w8, hw8⟩ : ∃ w8, w8 = W.putObj (w7.heap.size + 1) (.loop (busyOf r0)) := ⟨_, rfl⟩
      rw [<- hw8] at hj5 ⊢
      clear hw8 hj W
      obtain ⟨D, hD⟩ : ∃ D, D = w7.heap.size := ⟨_, rfl⟩
      rw [<- hD] at hj5 ⊢
      have HJ := Lib.hid hj5
      have c62 : IntKind.i64.wrap ((c : Int) + 1) = (ce : Int) := by have h := HCE.out; rw [show (c : Int) + 1 = ce by omega]; exact IntWalk.i64_in _ (by omega)
      clear hj5 r1 r2 r3 r4 r5 r6 hD H7
      gi_wp2_with fail
      refine round_words (by kernel_rfl) (by kernel_rfl) (fun _ _ h => h) (region_told 10 (by kernel_rfl) (by kernel_rfl) (BsJ s f t z w.heap.size k c ce j Ds acc cur pb q cc sb lb bb D N bk (busyOf r0) w) (fun A B => A.grownBy B (some (w.heap.size + 1 + 1 + 1))) (pickD [vIs (.func (.func 79) #[] (rpA (rpOf s f t z w.heap.size))), vIs (.pointer (some ⟨pb, 0, none⟩)), vIs (vi c), vIs (vi ce), vIs (vi (loN cur + i2 : Nat)), vIs (.agg #[vi ce, vi (loN cur + i2 : Nat)]), vIs (vi rv), vIs (.func (.func 79) #[] (rpA (rpOf s f t z w.heap.size))), vIs (.agg #[vi ce, vi bk]), vIs (vi rb)]) (fun h k => grown_trans h k) (pickD_stable _ ⟨vIsG, vIsG, vIsG, vIsG, vIsG, vIsG, vIsG, vIsG, vIsG, vIsG, trivial⟩) (HJ.out.next (newer_drew_ _)) (grown_refl _ _) ?_ ?_)
      ·refine ⟨?_, ?_, ?_, ?_, ?_, ?_, ?_, ?_, ?_, ?_, trivial⟩
       ·intro a W hG hR hO hp; have h10 := hO.slot 10 (by kernel_rfl); obtain ⟨lp, hM, hgd⟩ := hG.me; have c0 := hM.fl.at 0 (v := .func (.func 79) #[] (rpA (rpOf s f t z w.heap.size))) rfl; refine wp_yields (v := .func (.func 79) #[] (rpA (rpOf s f t z w.heap.size))) ?_ ⟨_, rfl, rfl, grown_refl _ _, hG⟩; simp [slotOf] at h10; simp [execOp, go_sem, h10, c0]
       ·intro a W hG hR hO hp; have h14 := hO.slot 14 (by kernel_rfl); refine wp_yields (v := .pointer (some ⟨pb, 0, none⟩)) ?_ ⟨_, rfl, rfl, grown_refl _ _, hG⟩; simp [slotOf] at h14; simp [execOp, go_sem, h14]
       ·intro a W hG hR hO hp; have h60 : slotOf a 60 = .pointer (some ⟨pb, 0, none⟩) := hp.1; have c0 := hG.ch.st.at 0 (v := vi c) rfl; refine wp_yields (v := vi c) ?_ ⟨_, rfl, rfl, grown_refl _ _, hG⟩; simp [slotOf] at h60; simp [execOp, go_sem, h60, c0]
       ·intro a W hG hR hO hp; have h61 : slotOf a 61 = vi c := hp.1; refine wp_yields (v := vi ce) ?_ ⟨_, rfl, rfl, grown_refl _ _, hG⟩; simp [slotOf] at h61; simp [execOp, go_sem, h61, c62]
       ·intro a W hG hR hO hp; have h16 := hO.slot 16 (by kernel_rfl); refine wp_yields (v := vi (loN cur + i2 : Nat)) ?_ ⟨_, rfl, rfl, grown_refl _ _, hG⟩; simp [slotOf] at h16; simp [execOp, go_sem, h16]
       ·intro a W hG hR hO hp; have h62 : slotOf a 62 = vi ce := hp.1; have h63 : slotOf a 63 = vi (loN cur + i2 : Nat) := hp.2.1; refine wp_yields (v := .agg #[vi ce, vi (loN cur + i2 : Nat)]) ?_ ⟨_, rfl, rfl, grown_refl _ _, hG⟩; simp [slotOf] at h62 h63; simp [execOp, go_sem, h62, h63]
       ·intro a W hG hR hO hp
        have h59 : slotOf a 59 = .func (.func 79) #[] (rpA (rpOf s f t z w.heap.size)) := hp.1
        have h64 : slotOf a 64 = .agg #[vi ce, vi (loN cur + i2 : Nat)] := hp.2.1
        obtain ⟨lp, hM, hgd⟩ := hG.me
        have hcc := HRC.out (loN cur + i2) lp W hkn hM hgd
        rw [<- RVH.out] at hcc
        obtain ⟨ar, har⟩ : ∃ ar, ar = #[.agg #[vi ce, vi ((loN cur + i2) : Nat)]] ++ rpA (rpOf s f t z w.heap.size) := ⟨_, rfl⟩
        rw [<- har] at hcc
        refine wp_enters (f := 79) (args := ar) ?_ (hcc.mono ?_)
        ·simp [slotOf] at h59 h64
         rw [har]
         simp [execOp, go_sem, h59, h64]
        ·rintro e w' ⟨rfl, lp2, g1, g2, g3⟩
         exact ⟨_, rfl, _, rfl, rfl, g3, hG.back g3 ⟨lp2, g1, g2⟩⟩
       ·intro a W hG hR hO hp; have h10 := hO.slot 10 (by kernel_rfl); obtain ⟨lp, hM, hgd⟩ := hG.me; have c0 := hM.fl.at 0 (v := .func (.func 79) #[] (rpA (rpOf s f t z w.heap.size))) rfl; refine wp_yields (v := .func (.func 79) #[] (rpA (rpOf s f t z w.heap.size))) ?_ ⟨_, rfl, rfl, grown_refl _ _, hG⟩; simp [slotOf] at h10; simp [execOp, go_sem, h10, c0]
       ·intro a W hG hR hO hp; have h15 := hO.slot 15 (by kernel_rfl); have c0 := hG.sp.at 0 (v := vi ce) rfl; have c1 := hG.sp.at 1 (v := vi bk) rfl; refine wp_yields (v := .agg #[vi ce, vi bk]) ?_ ⟨_, rfl, rfl, grown_refl _ _, hG⟩; simp [slotOf] at h15; simp [execOp, go_sem, h15, c0, c1]
       ·intro a W hG hR hO hp
        have h66 : slotOf a 66 = .func (.func 79) #[] (rpA (rpOf s f t z w.heap.size)) := hp.1
        have h67 : slotOf a 67 = .agg #[vi ce, vi bk] := hp.2.1
        obtain ⟨lp, hM, hgd⟩ := hG.me
        have hcc := HRC.out bk lp W hbk hM hgd
        rw [<- RBH.out] at hcc
        obtain ⟨ar, har⟩ : ∃ ar, ar = #[.agg #[vi ce, vi (bk : Nat)]] ++ rpA (rpOf s f t z w.heap.size) := ⟨_, rfl⟩
        rw [<- har] at hcc
        refine wp_enters (f := 79) (args := ar) ?_ (hcc.mono ?_)
        ·simp [slotOf] at h66 h67
         rw [har]
         simp [execOp, go_sem, h66, h67]
        ·rintro e w' ⟨rfl, lp2, g1, g2, g3⟩
         exact ⟨_, rfl, _, rfl, rfl, g3, hG.back g3 ⟨lp2, g1, g2⟩⟩
      ·intro W hG hR
       rintro _ rfl _ rfl _ rfl _ rfl _ rfl _ rfl _ rfl _ rfl _ rfl _ rfl
       change wpList _ _ _ _ _ _
       simp only [Act.put, List.setIfInBounds_toArray, List.set_cons_zero, List.set_cons_succ, List.drop_succ_cons, List.drop_zero]
       have HJ2 := Lib.hid hG
       clear hG hR HJ c62
       obtain ⟨w9, hw9⟩ : ∃ w9, w9 = W := ⟨_, rfl⟩
       rw [<- hw9] at HJ2 ⊢
       clear hw9 W
       by_cases hgt : rv < rb
       ·have e1 := HJ2.out.sp.at 1 (v := vi bk) rfl
        have e2 := HJ2.out.sp.free 1
        have hsc := setCell_same e1
        have HX8 := Lib.hid (And.intro (HJ2.out.set (loN cur + i2)).lo ((HJ2.out.set (loN cur + i2)).put r0))
        have HE := Lib.hid (show bn = loN cur + i2 by rw [HBN.out, if_pos hgt])
        go_wp2_with fail
        refine onlyN_intro ?_
        gi_wp2_with fail
        exact ⟨HX8.out.1, rfl, HE.out ▸ HX8.out.2⟩
       ·have HX8 := Lib.hid (And.intro HJ2.out.lo (HJ2.out.put r0))
        have HE := Lib.hid (show bn = bk by rw [HBN.out, if_neg hgt])
        go_wp2_with fail
        refine onlyN_intro ?_
        gi_wp2_with fail
        exact ⟨HX8.out.1, rfl, HE.out ▸ HX8.out.2⟩
     ·rintro e W ⟨⟨v, rfl⟩, hj⟩
      refine ⟨⟨_, rfl⟩, .inl ⟨hj.lo, ?_⟩⟩
      rw [HX.out.2, show s.sd.n = (rpOf s f t z w.heap.size).n from rfl, bestK_all] at hj
      obtain ⟨nx, hnx⟩ : ∃ nx, nx = stepB (rpOf s f t z w.heap.size).c (rpOf s f t z w.heap.size).n bigN (z - ce) c cur := ⟨_, rfl⟩
      rw [<- hnx] at hj
      have HNX := Lib.hid hnx
      have hnn : nx < (rpOf s f t z w.heap.size).n := by rw [hnx]; exact (step_mem hcn).1
      obtain ⟨D, hD⟩ : ∃ D, D = w7.heap.size := ⟨_, rfl⟩
      rw [<- hD] at hj ⊢
      have hj5 := hj.put (overOf r0)
      obtain ⟨we, hwe⟩ : ∃ we, we = W.putObj (D + 1) (.loop (overOf r0)) := ⟨_, rfl⟩
      rw [<- hwe] at hj5 ⊢
      obtain ⟨⟨lp3, q1, q2⟩, q3, q4, _, _, q5, _, q6, q7, q8, q9, q10⟩ := hj5
      have hne : D ∉ Ds := fun hm => by have := q6.d _ hm; omega
      have HGD3 := Lib.hid q2
      have HA : Hid (ApJ s f t z w.heap.size k c ce j (D :: Ds) acc cur pb q cc sb nx we.heap.size lp3 w 0 we) := Lib.hid (by
       have a1 := q6.p
       have a2 := q6.q
       have a3 := q6.n
       have a4 := q3.pbb
       have a5 := q3.qge
       have a6 := q4.lt
       have a7 : pb ∉ Ds := q3.ms.far q3.st
       have a8 : q ∉ Ds := fun hm => by
        have e1 := own_whole q3.row
        obtain ⟨tt, cs, e1⟩ := e1
        exact q3.ms.far e1 hm
       refine ⟨q1, q3.st, q4, q3.nw, ⟨List.nodup_cons.2 ⟨hne, q3.ms.nd⟩, fun E hE => ?_⟩, Nat.le_refl _, fun _ => q3.hr, fun _ => q3.row, fun e => by omega, a4, a5, by omega, fun E hE => ?_, ?_, by omega, by omega, ?_, ?_, q3.wb, by omega, by omega⟩
       ·rcases List.mem_cons.1 hE with rfl | hE
        ·exact q5
        ·exact q3.ms.at_ E hE
       ·rcases List.mem_cons.1 hE with rfl | hE
        ·omega
        ·exact q3.ge E hE
       ·intro e
        exact own_ne q3.row q3.st (by decide) (by rw [<- e]; rfl)
       ·rw [List.mem_cons, not_or]
        exact ⟨by omega, a8⟩
       ·rw [List.mem_cons, not_or]
        exact ⟨by omega, a7⟩)
      have HQL := Lib.hid (show q < we.heap.size /\ w.heap.size + 7 <= we.heap.size from ⟨HA.out.lo.2.2.2.2.2.2.2.2.2.2.1, HA.out.lo.2.2.2.2.2.2.2.2.2.2.2⟩)
      have HJ12 : Hid (j <= 12) := Lib.hid (by have := HI.out.2.2.2.2; omega)
      have HNN := Lib.hid hnn
      clear hj r1 r2 r3 r4 r5 r6 q1 q2 q3 q4 q5 q6 q7 q8 q9 q10 hwe hne hnx hD hnn H7 hbb hN HL hcn2 hxn
      go_upto_region 22 with fail
      refine wp_words (by kernel_rfl) (region_steps 9 5 8 (by kernel_rfl) (by kernel_rfl) (by kernel_rfl) (by decide) (by decide) (by decide) (ApJ s f t z w.heap.size k c ce j (D :: Ds) acc cur pb q cc sb nx we.heap.size lp3 w) (fun W W' => W.grownBy W' (some q)) (fun W W' => W.grownBy W' (some (w.heap.size + 1 + 1))) (pickD [vIs (.pointer (some ⟨w.heap.size + 1 + 1, 1, none⟩)), vIs (.slice (some ⟨q, 0, none⟩) (j + 1) cc), vIs (.pointer (some ⟨sb, 1, none⟩)), vIs (vi nx), vCell we.heap.size nx, vOwnJ w.heap.size (j + 1 + 1) (acc ++ [cur] ++ [nx]), vIs (.agg #[vi ce, vi nx]), vIs (.pointer (some ⟨w.heap.size + 1 + 1, 1, none⟩)), fun _ _ => True]) ?_ (fun sg W W' h hb => h.next hb) ?_ ?_ (HA.out.next (newer_drew_ _)) ⟨?_, ?_, ?_, ?_, ?_, ?_, ?_, ?_, ?_, trivial⟩ ?_)
      ·intro i v W W' hD hR
       match i, hD with
       | 0, h => exact h
       | 1, h => exact h
       | 2, h => exact h
       | 3, h => exact h
       | 4, h => exact (by obtain ⟨g, h1, h2, h3⟩ := h; exact ⟨g, h1, h2, h3.below hR h3.lt⟩)
       | 5, h => obtain ⟨g, c', h1, h2⟩ := h; exact ⟨g, c', h1, own_below h2 hR⟩
       | 6, h => exact h
       | 7, h => exact h
       | 8, _ => trivial
       | (_ + 9), _ => trivial
      ·intro i v W W' hi hD hR
       match i, hD with
       | 0, h => exact h
       | 1, h => exact h
       | 2, h => exact h
       | 3, h => exact h
       | 4, h => exact vCell_far HQL.out.1 h hR
       | 5, h => exact absurd rfl hi
       | 6, h => exact h
       | 7, h => exact h
       | 8, _ => trivial
       | (_ + 9), _ => trivial
      ·intro i v W W' hD hR
       match i, hD with
       | 0, h => exact h
       | 1, h => exact h
       | 2, h => exact h
       | 3, h => exact h
       | 4, h => exact vCell_far (by have := HQL.out; omega) h hR
       | 5, h => exact vOwnJ_far (by omega) h hR
       | 6, h => exact h
       | 7, h => exact h
       | 8, _ => trivial
       | (_ + 9), _ => trivial
      ·intro s9 a W hs hG hO hp
       have h6 := hO.slot 6 (by kernel_rfl)
       refine wp_yields (v := .pointer (some ⟨w.heap.size + 1 + 1, 1, none⟩)) ?_ ⟨_, rfl, rfl, Below.refl _ _⟩
       simp [slotOf] at h6
       simp [execOp, go_sem, h6]
      ·intro a W hG hO hp; have h72 := (show slotOf a 72 = .pointer (some ⟨w.heap.size + 1 + 1, 1, none⟩) from hp.1); have c0 := (hG.hr (by omega)).at 1 (v := .slice (some ⟨q, 0, none⟩) (j + 1) cc) rfl; refine wp_yields (v := .slice (some ⟨q, 0, none⟩) (j + 1) cc) ?_ ⟨_, rfl, rfl, Below.refl _ _⟩; simp [slotOf] at h72; simp [execOp, go_sem, h72, c0]
      ·intro s9 a W hs hG hO hp
       have h15 := hO.slot 15 (by kernel_rfl)
       refine wp_yields (v := .pointer (some ⟨sb, 1, none⟩)) ?_ ⟨_, rfl, rfl, Below.refl _ _⟩
       simp [slotOf] at h15
       simp [execOp, go_sem, h15]
      ·intro s9 a W hs hG hO hp
       have h74 := (show slotOf a 74 = .pointer (some ⟨sb, 1, none⟩) from hp.1)
       have c0 := hG.sp.at 1 (v := vi nx) rfl
       refine wp_yields (v := vi nx) ?_ ⟨_, rfl, rfl, Below.refl _ _⟩
       simp [slotOf] at h74
       simp [execOp, go_sem, h74, c0]
      ·intro a W hG hO hp; have h75 : slotOf a 75 = vi nx := hp.1; refine wp_makes (v := .slice (some ⟨W.heap.size, 0, none⟩) 1 1) (W' := W.alloc (.cells #[vi nx] 3)) ?_ ⟨_, rfl, ⟨_, rfl, hG.sz, Whole.made _ _ _⟩, newer_allocH _ _⟩; simp [slotOf] at h75; simp [execOp, go_sem, h75]
      ·intro a W hG hO hp
       have h73 : slotOf a 73 = .slice (some ⟨q, 0, none⟩) (j + 1) cc := hp.1
       obtain ⟨g1, h76, hg1, hg2⟩ := hp.2.1
       obtain ⟨i0, hi, hz0, hz1, hz2⟩ := info_parts info_int
       refine wp_append_one (.tmp 73) (.tmp 76) 60 rfl (w.heap.size + 7) 3 i0 (.int .i64 0) 8 Tryz.underlying60 hi hz0 hz1 hz2 rfl _ (j + 1) cc _ ((eval_slot a 73).trans h73) (hG.ow rfl) _ 1 (vi nx) ((eval_slot a 76).trans h76) (hg2.at 0 rfl) rfl ?_ ?_ ?_ ?_
       ·have h1 := HJ12.out
        unfold maxLen
        omega
       ·have h1 := HJ12.out
        omega
       ·have h1 := hG.sz
        have h2 := HQL.out
        omega
       ·intro g c' W' hown hwhere
        have hgr : W.grownBy W' (some q) := by
         rcases hwhere with ⟨h1, _, h3⟩ | ⟨_, h3⟩
         ·injection h1 with h1
          injection h1 with h1
          rw [h1]
          exact h3
         ·exact h3.but _
        refine ⟨_, rfl, ⟨g, c', rfl, by simpa using hown⟩, hgr, hG.app hgr⟩
      ·intro s9 a W hG hO hp
       have h15 := hO.slot 15 (by kernel_rfl)
       have c0 := hG.sp.at 0 (v := vi ce) rfl
       have c1 := hG.sp.at 1 (v := vi nx) rfl
       refine wp_yields (v := .agg #[vi ce, vi nx]) ?_ ⟨_, rfl, rfl, Below.refl _ _⟩
       simp [slotOf] at h15
       simp [execOp, go_sem, h15, c0, c1]
      ·intro s9 a W hs hG hO hp
       have h6 := hO.slot 6 (by kernel_rfl)
       refine wp_yields (v := .pointer (some ⟨w.heap.size + 1 + 1, 1, none⟩)) ?_ ⟨_, rfl, rfl, Below.refl _ _⟩
       simp [slotOf] at h6
       simp [execOp, go_sem, h6]
      ·intro a W hG hO hp; have h79 : slotOf a 79 = .pointer (some ⟨w.heap.size + 1 + 1, 1, none⟩) := hp.1; obtain ⟨g, c', h77, hown⟩ := hp.2.1; have hr := hG.hr (by omega); have b1 := hr.at 1 (v := .slice (some ⟨q, 0, none⟩) (j + 1) cc) rfl; have f1 := hr.free 1; have hpt := hG.put hown; simp [slotOf] at h79 h77; refine wp_stores (W' := W.setCell ⟨w.heap.size + 1 + 1, 1, none⟩ (.slice (some ⟨g, 0, none⟩) (j + 1 + 1) c')) (by simp [execOp, go_sem, h79, h77, b1, f1]) ⟨undef, rfl, trivial, grown_set (p := ⟨w.heap.size + 1 + 1, 1, none⟩) (grown_refl W _) (.inl rfl) _, hpt⟩
      ·intro W hG
       rintro _ rfl _ rfl _ rfl _ rfl _ ⟨g1, rfl, -⟩ _ ⟨g2, c2, rfl, -⟩ _ rfl _ rfl
       change wpList _ _ _ _ _ _
       simp only [Act.put, List.setIfInBounds_toArray, List.set_cons_zero, List.set_cons_succ, List.drop_succ_cons, List.drop_zero]
       have p0 := hG.st.at 0 (v := vi c) rfl
       have p1 := hG.st.at 1 (v := vi cur) rfl
       have pf0 := hG.st.free 0
       have pf1 := hG.st.free 1
       have HE := Lib.hid hG.done
       clear hG
       go_upto_region 23 with fail
       obtain ⟨g3, c3, he⟩ := HE.out
       refine genQ (fun X => RsM (rpOf s f t z w.heap.size) lp3 X /\ Whole X (w.heap.size + 1 + 1) 72 #[vi k, .slice (some ⟨g3, 0, none⟩) (j + 1 + 1) c3] /\ X.ownsRow (w.heap.size + 7) 3 1 (.slice (some ⟨g3, 0, none⟩) (j + 1 + 1) c3) (j + 1 + 1) ((acc ++ [cur] ++ [nx]).map fun x : Nat => vi x) /\ Whole X pb 155 #[vi ce, vi nx] /\ newer w X /\ MarksOk (D :: Ds) X /\ w.heap.size + 7 <= X.heap.size /\ (∀ E ∈ D :: Ds, w.heap.size + 7 <= E) /\ w.heap.size = w.heap.size) he ?_
       clear he HE p0 p1 pf0 pf1 W
       rintro w10 ⟨k1, k2, k3, k4, k5, k6, k7, k8, k9⟩
       have p0 := k4.at 0 (v := vi ce) rfl
       have p1 := k4.at 1 (v := vi nx) rfl
       have HK2 := Lib.hid (And.intro k1 (And.intro k2 (And.intro k3 (And.intro k5 (And.intro k6 (And.intro k7 k8))))))
       clear k1 k2 k3 k4 k5 k6 k7 k8 k9
       go_wp2_with fail
       refine ⟨ChR.intro ce (j + 1) (D :: Ds) (acc ++ [cur]) nx w10.heap.size g3 c3 lp3 _ _ _ _ _ _ _ _ _ _ _ _ _ _ _ _ _ _ _ _ _ _ _ _ _ _ _ _ _ _ _ _ _ _ _ _ _ _ _ _ _ _ _ _ _ _ _ _ _ _ _ _ _ _ _ _ _ _ _ _ _ _ _ _ _ _ _ _ _ _ _ ?_, ?_⟩
       ·obtain ⟨k1, k2, k3, k5, k6, k7, k8⟩ := HK2.out
        obtain ⟨i1, i2, i3, i4, i5⟩ := HI.out
        have e1 := newer_allocH w10 (.cells #[vi ce, vi nx] 155)
        have hzc : z - ce = m - (j + 1) := by have := HZ.out; have := HCE.out; omega
        refine ⟨k1.next e1, HGD3.out, ⟨k2.below e1 k2.lt, own_below k3 e1, Whole.made _ _ _, newer_trans k5 e1, k6.next e1, k7, k8, rfl⟩, by rw [List.length_append, i2]; rfl, hlt, HNN.out, ?_, by rw [List.length_cons, i4], by have := HCE.out; omega⟩
        rw [<- i3, show m - j = (m - (j + 1)) + 1 by omega]
        simp only [pathB]
        rw [List.append_assoc, <- hzc, <- HNX.out, HCE.out]
        rfl
       ·have h1 := HI.out.2.2.2.1
        have h2 := HAL.out
        simp
        omega
    ·obtain rfl : j = m := by omega
     have hcz : ¬ ((c : Int) < z) := by have := HZ.out; have := HJ.out.ck; omega
     have r0 := HJ.out.ch.hr.at 0 (v := vi k) rfl
     have r1 := HJ.out.ch.hr.at 1 (v := .slice (some ⟨q, 0, none⟩) (j + 1) cc) rfl
     have rf0 := HJ.out.ch.hr.free 0
     have rf1 := HJ.out.ch.hr.free 1
     have hs0 := setCell_same r0
     have hs1 := setCell_same r1
     have HBV := Lib.hid (show bv = (cheapN (cF (hT t s.sd) (dAt s.sd) f) s.sd.n bigN j k).2 by rw [HBI.out.2, HGN.out, <- HN.out]; rfl)
     have HPA : Hid (acc ++ [cur] = (cheapN (cF (hT t s.sd) (dAt s.sd) f) s.sd.n bigN j k).1) := Lib.hid (by
      have h1 := HJ.out.pa
      rw [Nat.sub_self] at h1
      simp only [pathB] at h1
      rw [h1, HBI.out.1, HGN.out]
      show pathB (cF (hT t s.sd) (dAt s.sd) f) s.sd.n bigN j k _ = pathB (cF (hT t s.sd) (dAt s.sd) f) s.sd.n bigN j k (firstB (restN (cF (hT t s.sd) (dAt s.sd) f) s.sd.n bigN j k) bigN s.sd.n).2
      rw [<- HN.out])
     go_wp2_with fail
     refine leaves_marks Ds _ HJ.out.ch.ms ?_
     intro W' h1 h2 h3 h4 h5
     have hr' := HJ.out.ch.hr.same (h5 _ (HJ.out.ch.ms.far HJ.out.ch.hr))
     have r0 := hr'.at 0 (v := vi k) rfl
     have r1 := hr'.at 1 (v := .slice (some ⟨q, 0, none⟩) (j + 1) cc) rfl
     have hq : q ∉ Ds := by
      obtain ⟨tt, cs, e1⟩ := own_whole HJ.out.ch.row
      exact HJ.out.ch.ms.far e1
     refine ⟨.tuple #[.agg #[vi k, .slice (some ⟨q, 0, none⟩) (j + 1) cc], vi bv], by simp [results, Tryz.results59, go_sem, r0, r1], q, cc, by rw [HBV.out], ?_, ?_⟩
     ·have h6 := HJ.out.ch.nw
      refine ⟨h1.trans h6.os, h2.trans h6.tape, h3.trans h6.output, by rw [h4]; exact h6.size, fun x hx => ?_⟩
      exact (h5 x (fun hm => by have := HJ.out.ch.ge x hm; omega)).trans (h6.block x hx)
     ·rw [<- HPA.out]
      exact own_same (own_more HJ.out.ch.row (by omega)) (fun x hx => by
       have e2 : q = x := by simpa [Value.ownBlock] using hx
       rw [<- e2]
       exact h5 q hq)
 all_goals
  trace_state
  sorry
end

section
open Go.RowKit Go.Shelf Go.Deep
theorem cheap_to (s : Sm) (f : Int) (t : Option Bool) (k tz : Nat) (w : World) (hok : SmOk s w) (hs : SdOk s.sd) (f0 : 0 <= f) (f1 : f <= 10001) (hk : k <= tz) (ht : tz < s.cs.length) :
  Calls Tryz.prog 59 #[lkV s f t, vi k, vi tz] w fun e w' => ∃ q c, e = .returned (.tuple #[.agg #[vi k, .slice (some ⟨q, 0, none⟩) (tz - k + 1) c], vi (cheapN (cF (hT t s.sd) (dAt s.sd) f) s.sd.n bigN (tz - k) k).2]) /\ newer w w' /\ w'.ownsRow w.heap.size 3 1 (.slice (some ⟨q, 0, none⟩) (tz - k + 1) c) (tz - k + 1) ((cheapN (cF (hT t s.sd) (dAt s.sd) f) s.sd.n bigN (tz - k) k).1.map fun x : Nat => vi x) := by
 have h := cheap_any s f t k (tz - k) w hok hs f0 f1 (by omega)
 rw [show k + (tz - k) = tz by omega] at h
 exact h
def lowOut (R : Option (Nat × List Nat)) (w : World) (e : Ending) (w' : World) : Prop := match R with
 | none => e = .returned (.tuple #[.agg #[vi 0, .slice none 0 0], .bool false])
 | some (k, l) => ∃ A c, e = .returned (.tuple #[.agg #[vi k, .slice A l.length c], .bool true]) /\ w'.ownsRow w.heap.size 3 1 (.slice A l.length c) l.length (l.map fun x : Nat => vi x)
def lowT (s : Sd) (f : Int) (t : Option Bool) : Option (Nat × List Nat) := lowF (hT t s) (dAt s) s.n s.cols.length s.K f
set_option maxRecDepth 100000 in
set_option maxHeartbeats 1000000 in
theorem lower_any (s : Sm) (f : Int) (t : Option Bool) (w : World) (hok : SmOk s w) (hs : SdOk s.sd) (f0 : 0 <= f) (f1 : f <= 10001) :
  Calls Tryz.prog 32 #[lkV s f t] w fun e w' => lowOut (lowT s.sd f t) w e w' /\ newer w w' := by
 obtain ⟨R, hR⟩ : ∃ R, R = lowT s.sd f t := ⟨_, rfl⟩
 rw [<- hR]
 obtain ⟨c, hc⟩ : ∃ c, c = cF (hT t s.sd) (dAt s.sd) f := ⟨_, rfl⟩
 obtain ⟨n, hn⟩ : ∃ n, n = s.sd.n := ⟨_, rfl⟩
 obtain ⟨K, hK⟩ : ∃ K, K = s.sd.K := ⟨_, rfl⟩
 have HCH : Hid (∀ k tz W, SmOk s W -> k <= tz -> tz < s.cs.length -> Calls Tryz.prog 59 #[lkV s f t, vi k, vi tz] W fun e w' => ∃ q cc, e = .returned (.tuple #[.agg #[vi k, .slice (some ⟨q, 0, none⟩) (tz - k + 1) cc], vi (cheapN c n bigN (tz - k) k).2]) /\ newer W w' /\ w'.ownsRow W.heap.size 3 1 (.slice (some ⟨q, 0, none⟩) (tz - k + 1) cc) (tz - k + 1) ((cheapN c n bigN (tz - k) k).1.map fun x : Nat => vi x)) := Lib.hid (by
  intro k tz W h1 h2 h3
  rw [hc, hn]
  exact cheap_to s f t k tz W h1 hs f0 f1 h2 h3)
 have hl0 : lowS c n bigN s.cs.length K 0 s.cs.length = R := by
  rw [hR, hc, hn, hK]
  unfold lowT lowF
  rw [sd_len]
 have hkl : (K : Int) = s.least /\ 1 <= K /\ K <= 4 := by
  have h1 := hs.least
  have h2 : s.sd.least = s.least := rfl
  rw [hK]
  unfold Sd.K
  omega
 have hcl : s.cs.length <= 12 := by have h1 := hs.cols; rw [sd_len] at h1; omega
 have hnw : newer w ((w.alloc (.cells (lkC s f t) 97)).alloc (.cells #[vi 0, .slice none 0 0] 72)) := newer_trans (newer_allocH _ _) (newer_allocH _ _)
 have hxb := (Whole.made w 97 (lkC s f t)).alloc (.cells #[vi 0, .slice none 0 0] 72)
 have hrb := Whole.made (w.alloc (.cells (lkC s f t) 97)) 72 #[vi 0, .slice none 0 0]
 rw [World.size_alloc] at hrb
 have H0 := Lib.hid (And.intro hnw (And.intro hxb hrb))
 have x0 := hxb.at 0 (v := .slice s.a s.cs.length s.c) rfl
 have HOK := Lib.hid hok
 have HL0 := Lib.hid hl0
 clear hR hc hn hK hs f0 f1 hok hl0 hnw hxb hrb
 go_enter Tryz.func32, Tryz.ntmps32
 go_wp2_with fail
 refine wp_scope_straight ?_
 go_wp2_with fail
 refine wp_label ?_
 go_wp2_with fail
 go_loopw [3, 12] (fun s3 s12 wr => ∃ i : Nat, s3 = .bool false /\ i <= s.cs.length /\ s12 = vi i /\ newer w wr /\ Whole wr w.heap.size 97 (lkC s f t) /\ Whole wr (w.heap.size + 1) 72 #[vi 0, .slice none 0 0] /\ lowS c n bigN s.cs.length K i (s.cs.length - i) = R) (fun _ s12 _ => s.cs.length - (intOf s12).toNat)
 case atStart => exact ⟨0, rfl, Nat.zero_le _, rfl, H0.out.1, H0.out.2.1, H0.out.2.2, HL0.out⟩
 case round =>
  obtain ⟨i, rfl, hi, rfl, q1, q2, q3, q4⟩ := hrel
  have x0 := q2.at 0 (v := .slice s.a s.cs.length s.c) rfl
  have x1 := q2.at 1 (v := vi s.least) rfl
  have H1 := Lib.hid (And.intro q1 (And.intro q2 q3))
  have HR := Lib.hid q4
  by_cases hlt : i < s.cs.length
  ·have HIN : Hid (R = match lowIn c n bigN i (K - 1) (s.cs.length - (i + (K - 1))) with | some l => some (i, l) | none => lowS c n bigN s.cs.length K (i + 1) (s.cs.length - (i + 1))) := Lib.hid (by
    rw [<- q4, show s.cs.length - i = (s.cs.length - (i + 1)) + 1 by omega]
    rfl)
   clear q1 q2 q3 q4
   obtain ⟨wo, rfl⟩ : ∃ wo : World, wo = wr := ⟨_, rfl⟩
   go_wp2_with fail
   go_loopw [3, 5] (fun s3 s5 wr => ∃ tz : Nat, s3 = .bool false /\ s5 = vi tz /\ i + (K - 1) <= tz /\ tz <= 20 /\ newer w wr /\ Whole wr w.heap.size 97 (lkC s f t) /\ Whole wr (w.heap.size + 1) 72 #[vi 0, .slice none 0 0] /\ lowIn c n bigN i (K - 1) (s.cs.length - (i + (K - 1))) = lowIn c n bigN i (tz - i) (s.cs.length - tz)) (fun _ s5 _ => 30 - (intOf s5).toNat)
   case atStart => exact ⟨i + (K - 1), rfl, by rw [show (i : Int) + s.least - 1 = ((i + (K - 1) : Nat) : Int) by omega], Nat.le_refl _, by omega, H1.out.1, H1.out.2.1, H1.out.2.2, by rw [show i + (K - 1) - i = K - 1 by omega]⟩
   case round =>
    obtain ⟨tz, rfl, rfl, ht1, ht2, q1, q2, q3, q4⟩ := hrel
    have x0 := q2.at 0 (v := .slice s.a s.cs.length s.c) rfl
    have x1 := q2.at 1 (v := vi s.least) rfl
    have x2 := q2.at 2 (v := vi f) rfl
    have x3 := q2.at 3 (v := .func (.func (trF t)) #[] #[]) rfl
    have H2 := Lib.hid (And.intro q1 (And.intro q2 q3))
    clear H1
    by_cases hlt2 : tz < s.cs.length
    ·have HQ : Hid (lowIn c n bigN i (K - 1) (s.cs.length - (i + (K - 1))) = if (cheapN c n bigN (tz - i) i).2 < 0 then some (cheapN c n bigN (tz - i) i).1 else lowIn c n bigN i (tz - i + 1) (s.cs.length - (tz + 1))) := Lib.hid (by
      rw [q4, show s.cs.length - tz = (s.cs.length - (tz + 1)) + 1 by omega]
      rfl)
     have hpl : (cheapN c n bigN (tz - i) i).1.length = tz - i + 1 := path_len _ _ _
     have HC := Lib.hid (HCH.out i tz wr (HOK.out.next q1) (by omega) hlt2)
     obtain ⟨p, hp⟩ : ∃ p, p = cheapN c n bigN (tz - i) i := ⟨_, rfl⟩
     rw [<- hp] at HQ HC hpl
     have HPL := Lib.hid hpl
     clear hp hpl q1 q2 q3 q4
     obtain ⟨lv, cv⟩ := p
     go_wp2_with fail
     refine (HC.out).mono ?_
     rintro e w3 ⟨q, cc, rfl, hb3, hown⟩
     have H3 := Lib.hid (And.intro (newer_trans H2.out.1 hb3) (And.intro (H2.out.2.1.below hb3 H2.out.2.1.lt) (H2.out.2.2.below hb3 H2.out.2.2.lt)))
     have HB := Lib.hid (And.intro hown H2.out.1.size)
     clear H2 HC hb3 hown x0 x1 x2 x3
     by_cases hneg : cv < 0
     ·have hn3 := newer_allocH w3 (.cells #[vi i, .slice (some ⟨q, 0, none⟩) (tz - i + 1) cc] 72)
      have hr := H3.out.2.2.below hn3 H3.out.2.2.lt
      have r0 := hr.at 0 (v := vi 0) rfl
      have r1 := hr.at 1 (v := .slice none 0 0) rfl
      have f0 := hr.free 0
      have f1 := hr.free 1
      have hset := (hr.set 0 (vi i)).set 1 (.slice (some ⟨q, 0, none⟩) (tz - i + 1) cc)
      have s0 := hset.at 0 (v := vi i) rfl
      have s1 := hset.at 1 (v := .slice (some ⟨q, 0, none⟩) (tz - i + 1) cc) rfl
      have hs0 := setCell_same s0
      have hs1 := setCell_same s1
      have HF : Hid (lowOut R w (.returned (.tuple #[.agg #[vi i, .slice (some ⟨q, 0, none⟩) (tz - i + 1) cc], .bool true])) (((w3.alloc (.cells #[vi i, .slice (some ⟨q, 0, none⟩) (tz - i + 1) cc] 72)).setCell ⟨w.heap.size + 1, 0, none⟩ (vi i)).setCell ⟨w.heap.size + 1, 1, none⟩ (.slice (some ⟨q, 0, none⟩) (tz - i + 1) cc)) /\ newer w (((w3.alloc (.cells #[vi i, .slice (some ⟨q, 0, none⟩) (tz - i + 1) cc] 72)).setCell ⟨w.heap.size + 1, 0, none⟩ (vi i)).setCell ⟨w.heap.size + 1, 1, none⟩ (.slice (some ⟨q, 0, none⟩) (tz - i + 1) cc))) := Lib.hid (by
       have e1 := HQ.out
       rw [if_pos hneg] at e1
       have e2 := HIN.out
       rw [e1] at e2
       have e3 : R = some (i, lv) := e2
       have o1 := own_below HB.out.1 hn3
       refine ⟨?_, ((newer_trans H3.out.1 hn3).setCell (p := ⟨w.heap.size + 1, 0, none⟩) (Nat.le_succ _) _).setCell (p := ⟨w.heap.size + 1, 1, none⟩) (Nat.le_succ _) _⟩
       rw [e3]
       refine ⟨some ⟨q, 0, none⟩, cc, by rw [HPL.out], ?_⟩
       rw [HPL.out]
       exact own_set (own_set (own_more o1 HB.out.2) (own_ne o1 hr (by decide)) _) (own_ne o1 hr (by decide)) _)
      clear hset hn3 hr
      go_wp2_with fail
      dsimp only [Exit.noGoto]
      refine bodyPost_ret (v := .tuple #[.agg #[vi i, .slice (some ⟨q, 0, none⟩) (tz - i + 1) cc], .bool true]) ?_ rfl HF.out
      simp [results, Tryz.results32, go_sem, s0, s1]
     ·have hn3 := newer_allocH w3 (.cells #[vi i, .slice (some ⟨q, 0, none⟩) (tz - i + 1) cc] 72)
      have HF : Hid (newer w (w3.alloc (.cells #[vi i, .slice (some ⟨q, 0, none⟩) (tz - i + 1) cc] 72)) /\ Whole (w3.alloc (.cells #[vi i, .slice (some ⟨q, 0, none⟩) (tz - i + 1) cc] 72)) w.heap.size 97 (lkC s f t) /\ Whole (w3.alloc (.cells #[vi i, .slice (some ⟨q, 0, none⟩) (tz - i + 1) cc] 72)) (w.heap.size + 1) 72 #[vi 0, .slice none 0 0]) := Lib.hid ⟨newer_trans H3.out.1 hn3, H3.out.2.1.below hn3 H3.out.2.1.lt, H3.out.2.2.below hn3 H3.out.2.2.lt⟩
      have HL : Hid (lowIn c n bigN i (K - 1) (s.cs.length - (i + (K - 1))) = lowIn c n bigN i (tz + 1 - i) (s.cs.length - (tz + 1))) := Lib.hid (by
       have e1 := HQ.out
       rw [if_neg hneg] at e1
       rw [e1, show tz + 1 - i = tz - i + 1 by omega])
      clear hn3
      go_wp2_with fail
      refine ⟨⟨tz + 1, rfl, rfl, by omega, by omega, HF.out.1, HF.out.2.1, HF.out.2.2, HL.out⟩, ?_⟩
      simp [intOf]
      omega
    ·have HL : Hid (R = lowS c n bigN s.cs.length K (i + 1) (s.cs.length - (i + 1))) := Lib.hid (by
      have e1 := HIN.out
      rw [q4, show s.cs.length - tz = 0 by omega] at e1
      exact e1)
     clear q1 q2 q3 q4
     go_wp2_with fail
     refine ⟨⟨i + 1, rfl, by omega, rfl, H2.out.1, H2.out.2.1, H2.out.2.2, HL.out.symm⟩, ?_⟩
     simp [intOf]
     omega
  ·have e3 : R = none := by
    rw [<- q4, show s.cs.length - i = 0 by omega]
    rfl
   have r0 := q3.at 0 (v := vi 0) rfl
   have r1 := q3.at 1 (v := .slice none 0 0) rfl
   have f0 := q3.free 0
   have f1 := q3.free 1
   have hs0 := setCell_same r0
   have hs1 := setCell_same r1
   have HF : Hid (lowOut R w (.returned (.tuple #[.agg #[vi 0, .slice none 0 0], .bool false])) wr /\ newer w wr) := Lib.hid (by
    rw [e3]
    exact ⟨rfl, q1⟩)
   clear q1 q2 q3 q4 e3 H1 HR
   go_wp2_with fail
   dsimp only [Exit.noGoto]
   refine bodyPost_ret (v := .tuple #[.agg #[vi 0, .slice none 0 0], .bool false]) ?_ rfl HF.out
   simp [results, Tryz.results32, go_sem, r0, r1]
end

section
open Go.RowKit Go.Shelf Go.Deep
def worstS (s : Sd) : Option ((Nat × List Nat) × Int) := worstR (hT (some false) s) (dAt s) s.n s.cols.length s.K
end

section
open Go.RowKit Go.Shelf Go.Deep
def askedN (s : Sd) (f : Int) : Int := if !slopeB s then 1 else if !inB f 0 10000 then 2 else 0
def enoughN (s : Sd) (f : Int) : Int := if askedN s f = 0 then (if (lowT s f (some false)).isSome then 10 else 0) else askedN s f
theorem asked_zero {s : Sd} {f : Int} (h : askedN s f = 0) : SdOk s /\ 0 <= f /\ f <= 10000 := by
 unfold askedN at h
 cases hv : slopeB s with
 | false => rw [hv] at h; simp at h
 | true =>
  rw [hv] at h
  cases hf : inB f 0 10000 with
  | false => rw [hf] at h; simp at h
  | true =>
   simp only [inB, Bool.and_eq_true, decide_eq_true_eq] at hf
   exact ⟨sdOk_iff.1 hv, hf⟩
set_option maxRecDepth 100000 in
set_option maxHeartbeats 1000000 in
theorem enough_any (s : Sm) (f : Int) (w : World) (hok : SmOk s w) (few : SmFew s) : Calls Tryz.prog 29 #[smV s, vi f] w fun e w' => e = .returned (vi (enoughN s.sd f)) /\ newer w w' := by
 have hnw : newer w (w.alloc (.cells (smC s) 48)) := newer_allocH _ _
 have hxb := Whole.made w 48 (smC s)
 have HA := Lib.hid (show Calls Tryz.prog 56 #[smV s, vi f] (w.alloc (.cells (smC s) 48)) fun e w' => e = .returned (vi (askedN s.sd f)) /\ newer (w.alloc (.cells (smC s) 48)) w' from asked_any s f _ (hok.next hnw) few)
 have x0 := hxb.at 0 (v := .slice s.a s.cs.length s.c) rfl
 have x1 := hxb.at 1 (v := vi s.least) rfl
 have H0 := Lib.hid (And.intro hnw hxb)
 have HOK := Lib.hid hok
 clear hok hnw hxb few
 unfold enoughN
 have HZ : Hid (askedN s.sd f = 0 -> SdOk s.sd /\ 0 <= f /\ f <= 10000) := Lib.hid asked_zero
 obtain ⟨a, ha⟩ : ∃ a, a = askedN s.sd f := ⟨_, rfl⟩
 rw [<- ha] at HA HZ ⊢
 clear ha
 by_cases hz : a = 0
 ·subst hz
  obtain ⟨hs, f0, f1⟩ := HZ.out rfl
  rw [if_pos rfl]
  obtain ⟨R, hR⟩ : ∃ R, R = lowT s.sd f (some false) := ⟨_, rfl⟩
  have HLOW : Hid (∀ W, newer w W -> Calls Tryz.prog 32 #[lkV s f (some false)] W fun e w' => lowOut R W e w' /\ newer W w') := Lib.hid (fun W h => by rw [hR]; exact lower_any s f (some false) W (HOK.out.next h) hs f0 (by omega))
  rw [<- hR]
  clear hR HZ hs
  go_enter Tryz.func29, Tryz.ntmps29
  go_wp2_with fail
  refine (HA.out).mono ?_
  rintro e w1 ⟨rfl, hb⟩
  have H1 := Lib.hid (And.intro (newer_trans H0.out.1 hb) (H0.out.2.below hb H0.out.2.lt))
  clear H0 hb HA x0 x1
  have x0 := H1.out.2.at 0 (v := .slice s.a s.cs.length s.c) rfl
  have x1 := H1.out.2.at 1 (v := vi s.least) rfl
  go_wp2_with fail
  refine (below_any s f _).mono ?_
  rintro e w3 ⟨rfl, hb3⟩
  have H3 := Lib.hid (newer_trans H1.out.1 hb3)
  clear H1 hb3 x0 x1
  go_wp2_with fail
  refine (HLOW.out w3 H3.out).mono ?_
  rintro e w4 ⟨hout, hb4⟩
  have H4 := Lib.hid (newer_trans H3.out hb4)
  clear H3 hb4
  cases R with
  | none =>
   have hout2 : e = .returned (.tuple #[.agg #[vi 0, .slice none 0 0], .bool false]) := hout
   subst hout2
   clear hout
   have HE := Lib.hid (newer_trans H4.out (newer_allocH w4 (.cells #[vi 0, .slice none 0 0] 72)))
   go_wp2_with fail
   go_ret
   exact ⟨rfl, HE.out⟩
  | some u =>
   obtain ⟨k, l⟩ := u
   have hout2 : ∃ A c, e = .returned (.tuple #[.agg #[vi k, .slice A l.length c], .bool true]) /\ w4.ownsRow w3.heap.size 3 1 (.slice A l.length c) l.length (l.map fun x : Nat => vi x) := hout
   obtain ⟨A, c, rfl, _⟩ := hout2
   clear hout
   have HE := Lib.hid (newer_trans H4.out (newer_allocH w4 (.cells #[vi k, .slice A l.length c] 72)))
   go_wp2_with fail
   go_ret
   exact ⟨rfl, HE.out⟩
 ·rw [if_neg hz]
  have hz2 : (a == 0) = false := by rw [beq_eq_false_iff_ne]; exact hz
  have hz3 : (a != 0) = true := by simp [hz]
  clear HZ
  go_enter Tryz.func29, Tryz.ntmps29
  go_wp2_with fail
  refine (HA.out).mono ?_
  rintro e w1 ⟨rfl, hb⟩
  have HE := Lib.hid (newer_trans H0.out.1 hb)
  clear H0 hb HA x0 x1
  go_wp2_with fail
  go_ret
  exact ⟨rfl, HE.out⟩
end

end Go.Proofs.YtcdhhfgpdokkoaaGreat
