/- The cheapest rest of a surface, by a memo: its function. -/
import Derived.Test.YtkenokpobbichaaF
namespace Go.Proofs.Ytkenokpobbichaa
open Go.RowKit Go.Shelf Go.Deep

/-- What the rounds over the beds beside a bed hold. -/
structure RsJ (T : RP) (c b sb nb bb lb D : Nat) (n : Int) (r : Loop) (w W : World) : Prop where
  me : ∃ lp, RsM T lp W ∧ Good T lp
  sp : Whole W sb 162 #[vi c, vi b]
  nx : Whole W nb 3 #[vi n]
  bx : Whole W bb 3 #[vi b]
  lx : Whole W lb 115 (lkC T.s T.f T.t)
  df : W.heap[D]? = some (.deferred (some []))
  lo : W.heap[D + 1]? = some (.loop r)
  gr : w.grownBy W (some T.mb)
  ml : T.mb < sb
  so : sb = w.heap.size ∧ sb < nb ∧ nb < lb ∧ lb < bb ∧ bb < D
section
variable {T : RP} {c b sb nb bb lb D : Nat} {n : Int} {r : Loop} {w W W' : World}
theorem RsJ.next (h : RsJ T c b sb nb bb lb D n r w W) (hb : newer W W') : RsJ T c b sb nb bb lb D n r w W' := by
  obtain ⟨lp, h1, h2⟩ := h.me
  exact ⟨⟨lp, h1.next hb, h2⟩, h.sp.below hb h.sp.lt, h.nx.below hb h.nx.lt, h.bx.below hb h.bx.lt, h.lx.below hb h.lx.lt, (hb.block _ (Array.getElem?_eq_some_iff.1 h.df).1).trans h.df, (hb.block _ (Array.getElem?_eq_some_iff.1 h.lo).1).trans h.lo, grown_below h.gr hb, h.ml, h.so⟩
/-- Behind a call of the search. -/
theorem RsJ.back (h : RsJ T c b sb nb bb lb D n r w W) (hg : W.grownBy W' (some T.mb)) (hm : ∃ lp, RsM T lp W' ∧ Good T lp) : RsJ T c b sb nb bb lb D n r w W' := by
  have h1 := h.so
  have h2 := h.ml
  have ne : ∀ {k : Nat}, T.mb < k → some k ≠ some T.mb := fun h e => by injection e; omega
  exact ⟨hm, h.sp.grown hg (ne h2), h.nx.grown hg (ne (by omega)), h.bx.grown hg (ne (by omega)), h.lx.grown hg (ne (by omega)), (hg.block _ (Array.getElem?_eq_some_iff.1 h.df).1 (ne (by omega))).trans h.df, (hg.block _ (Array.getElem?_eq_some_iff.1 h.lo).1 (ne (by omega))).trans h.lo, grown_trans h.gr hg, h.ml, h.so⟩
end
structure RpLt (T : RP) (q : Nat) : Prop where
  x : T.xb < q
  t : T.tb < q
  k : T.kb < q
  p : T.pb < q
  f : T.fb < q
  m : T.mb < q
theorem RsM.lts {T : RP} {lp : List ((Int × Int) × Int)} {W : World} (h : RsM T lp W) : RpLt T W.heap.size := ⟨h.xl.lt, h.tl.lt, h.kl.lt, h.pl.lt, h.fl.lt, h.mm.lt⟩
section
variable {T : RP} {c b sb nb bb lb D : Nat} {n : Int} {r : Loop} {w W W' : World}
theorem RsJ.put (hT : RpOk T) (hl : RpLt T w.heap.size) (h : RsJ T c b sb nb bb lb D n r w W) (r' : Loop) : RsJ T c b sb nb bb lb D n r' w (W.putObj (D + 1) (.loop r')) := by
  obtain ⟨lp, h1, h2⟩ := h.me
  have h3 := h.so
  have h4 := hl.x
  have h5 := hl.t
  have h6 := hl.k
  have h7 := hl.p
  have h8 := hl.f
  have h9 := hl.m
  have hB := hT.bm
  have hD := (Array.getElem?_eq_some_iff.1 h.lo).1
  exact ⟨⟨lp, h1.far (grown_putL _ _ _) (by omega) (by omega) (by omega) (by omega) (by omega) (by omega) (by omega), h2⟩, h.sp.put (by omega) _, h.nx.put (by omega) _, h.bx.put (by omega) _, h.lx.put (by omega) _, (World.putObj_heap_other (by omega)).trans h.df, World.putObj_heap_same hD, grown_put h.gr (by omega) _, h.ml, h.so⟩
/-- The number has turned. -/
theorem RsJ.set (hT : RpOk T) (hl : RpLt T w.heap.size) (h : RsJ T c b sb nb bb lb D n r w W) (v : Int) : RsJ T c b sb nb bb lb D v r w (W.setCell ⟨nb, 0, none⟩ (vi v)) := by
  obtain ⟨lp, h1, h2⟩ := h.me
  have h3 := h.so
  have h4 := hl.x
  have h5 := hl.t
  have h6 := hl.k
  have h7 := hl.p
  have h8 := hl.f
  have h9 := hl.m
  have hB := hT.bm
  have hg : W.grownBy (W.setCell ⟨nb, 0, none⟩ (vi v)) (some nb) := grown_set (p := ⟨nb, 0, none⟩) (grown_refl W (some nb)) (.inl rfl) _
  have ne : ∀ {k : Nat}, k ≠ nb → some k ≠ some nb := fun h e => h (by injection e)
  exact ⟨⟨lp, h1.far hg (by omega) (by omega) (by omega) (by omega) (by omega) (by omega) (by omega), h2⟩, h.sp.grown hg (ne (by omega)), h.nx.set 0 (vi v), h.bx.grown hg (ne (by omega)), h.lx.grown hg (ne (by omega)), (hg.block _ (Array.getElem?_eq_some_iff.1 h.df).1 (ne (by omega))).trans h.df, (hg.block _ (Array.getElem?_eq_some_iff.1 h.lo).1 (ne (by omega))).trans h.lo, grown_set (p := ⟨nb, 0, none⟩) h.gr (.inr (by show w.heap.size ≤ nb; omega)) _, h.ml, h.so⟩
end
/-- Two numbers, in memory of its own. -/
def vTwo (B m : Nat) (x y : Int) (v : Value) (W : World) : Prop := ∃ q, v = .slice (some ⟨q, 0, none⟩) 2 2 ∧ B ≤ q ∧ m < q ∧ Whole W q 3 #[vi x, vi y]
theorem vTwo_st {B m : Nat} {x y : Int} : ∀ v W W', vTwo B m x y v W → W.grownBy W' (some m) → vTwo B m x y v W' := fun _ _ _ ⟨q, h1, h2, h3, h4⟩ hb => ⟨q, h1, h2, h3, h4.grown hb (fun e => by injection e; omega)⟩
theorem minL_snoc (z : Int) (l : List Int) (x : Int) : minL z (l ++ [x]) = mnI (minL z l) x := by simp [minL]
theorem near_take (n b k : Nat) (f : Nat → Int) (hk : k < cntN n b) : minL bigN (((nearL n b).take (k + 1)).map f) = mnI (minL bigN (((nearL n b).take k).map f)) (f (loN b + k)) := by
  rw [near_is, List.take_add_one, List.getElem?_range' hk, List.map_append, Option.toList_some, List.map_cons, List.map_nil, minL_snoc, Nat.one_mul]
theorem minL_bd {l : List Int} {z lo : Int} (h : ∀ x ∈ l, lo ≤ x) (hz : lo ≤ z) : lo ≤ minL z l := by
  rcases minL_mem l z with e | e
  · omega
  · exact h _ e
theorem rest_bd {c : Nat → Nat → Int} {n : Nat} (hc : ∀ k b, -1300100000 ≤ c k b ∧ c k b ≤ 1300100000) : ∀ (m k b : Nat), m < 20 → -(((m : Int) + 1) * 1300100000) ≤ restN c n bigN m k b ∧ restN c n bigN m k b ≤ bigN + 1300100000 := by
  intro m
  induction m with
  | zero =>
    intro k b _
    have := hc k b
    simp only [restN, bigN]
    omega
  | succ m ih =>
    intro k b hm
    have h1 := hc k b
    have h2 : minL bigN ((nearL n b).map (restN c n bigN m (k + 1))) ≤ bigN := (minL_le _ _).1
    have h3 : -(((m : Int) + 1) * 1300100000) ≤ minL bigN ((nearL n b).map (restN c n bigN m (k + 1))) := by
      refine minL_bd ?_ (by simp only [bigN]; omega)
      intro x hx
      obtain ⟨y, _, rfl⟩ := List.mem_map.1 hx
      exact (ih (k + 1) y (by omega)).1
    simp only [restN]
    simp only [bigN] at h2 h3 ⊢
    omega
theorem mem_put (a : Int × Int) (v : Int) (l : List ((Int × Int) × Int)) : (a, v) ∈ putR a v l := by
  unfold putR
  split
  · rename_i i p h
    have h2 := (atR_some h).2
    have h3 := (List.getElem?_eq_some_iff.1 h2).1
    exact List.mem_iff_getElem?.2 ⟨i, by rw [List.getElem?_set_self (by omega)]⟩
  · simp
theorem look_put (a : Int × Int) (v : Int) (l : List ((Int × Int) × Int)) : ∃ iv, atR a (putR a v l) 0 = some iv := by
  cases h : atR a (putR a v l) 0 with
  | some iv => exact ⟨iv, rfl⟩
  | none => exact absurd rfl (atR_none h _ (mem_put a v l))
theorem vIsG {v : Value} {m : Nat} : ∀ (x : Value) (W W' : World), vIs v x W → W.grownBy W' (some m) → vIs v x W' := fun _ _ _ h _ => h

theorem newer_drew_ (w : World) : newer w w.drew := (Below.refl _ w).drew
theorem near_all (n b : Nat) : (nearL n b).take (cntN n b) = nearL n b := by
  rw [near_is]
  exact List.take_of_length_le (by simp)
set_option maxRecDepth 100000 in
set_option maxHeartbeats 1000000 in
theorem recur_step (T : RP) (hT : RpOk T) (m : Nat) (IH : ∀ m', m = m' + 1 → RestC T m') : RestC T m := by
  intro c b lp w hcm hb hm hg
  have HG := Lib.hid hg
  have hlt := hm.lts
  have HLT := Lib.hid hlt
  have HIH := Lib.hid IH
  have h1 := newer_allocH w (.cells #[vi c, vi b] 162)
  have HF := Lib.hid (And.intro (hm.next h1) (And.intro (Whole.made w 162 #[vi c, vi b]) h1))
  clear hg hm hlt h1 IH
  refine callsIn_wide.1 (callsIn_of_wp_marks (n := 9) Try.func114 rfl trivial ?_ rfl)
  simp only [Try.ntmps114, List.size_toArray, List.length_cons, List.length_nil, Nat.reduceAdd, Nat.reduceSub, Array.replicate_succ, Array.replicate_zero, List.push_toArray, List.append_toArray, List.nil_append, List.cons_append]
  refine wpIn_wide.2 ?_
  go_upto_region 1 with fail
  refine genQ (fun X => RsM T lp X ∧ Whole X w.heap.size 162 #[vi c, vi b] ∧ newer w X) HF.out ?_
  clear HF
  obtain ⟨sb, hsb⟩ : ∃ sb, sb = w.heap.size := ⟨_, rfl⟩
  have HSB := Lib.hid hsb
  rw [← hsb]
  clear hsb
  rintro w1 ⟨hm1, hs1, hn1⟩
  have H1 := Lib.hid (And.intro hm1 (And.intro hs1 hn1))
  have s0 := hs1.at 0 (v := vi c) rfl
  have s1 := hs1.at 1 (v := vi b) rfl
  have t0 := hm1.tl.at 0 (v := vi T.z) rfl
  have k0 := hm1.kl.at 0 (v := .map (some T.mb)) rfl
  have p0 := hm1.pl.at 0 (v := .func (.func 84) #[lkV T.s T.f T.t] #[]) rfl
  have HPR := Lib.hid (fun (W : World) (h : SmOk T.s W) => price_any (W := W) hT h (k := c) (j := b) (by omega) hb)
  clear hm1 hs1 hn1
  cases m with
  | zero =>
    obtain rfl : c = T.z := by omega
    go_wp2_with fail
    refine (HPR.out _ H1.out.1.at_.ok).mono ?_
    rintro e w2 ⟨rfl, hb2⟩
    have HB := Lib.hid (And.intro (H1.out.1.next hb2) (newer_trans H1.out.2.2 hb2))
    clear hb2
    go_wp2_with fail
    exact ⟨_, by simp [results, Try.results114, go_sem]; rfl, rfl, lp, HB.out.1, HG.out, grown_of_newer HB.out.2 _⟩
  | succ m' =>
    have HIR := Lib.hid (HIH.out m' rfl)
    have hne : ((c : Int) == T.z) = false := by rw [beq_eq_false_iff_ne]; omega
    have HZ := Lib.hid (show T.z - c = m' + 1 by omega)
    clear HIH
    cases ha : atR ((c : Int), (b : Int)) lp 0 with
    | some iv =>
      obtain ⟨i, v⟩ := iv
      have HH := Lib.hid ha
      have HV := Lib.hid (good_look HG.out ha)
      clear ha
      go_wp2_with (at_lookup; refine wpList_lookup_r _ rfl _ _ 159 true rfl spot_key Try.underlying159 (zero3 _) T.mb lp rfl H1.out.1.mm ((c : Int), (b : Int)) rfl ?_; simp only [HH.out, Option.map_some, Option.getD_some, Option.isSome_some, if_true])
      exact ⟨_, by simp [results, Try.results114, go_sem]; rfl, by rw [HV.out, HZ.out], lp, H1.out.1, HG.out, grown_of_newer H1.out.2.2 _⟩
    | none =>
      have HH := Lib.hid ha
      clear ha
      go_upto_region 7 with (at_lookup; refine wpList_lookup_r _ rfl _ _ 159 true rfl spot_key Try.underlying159 (zero3 _) T.mb lp rfl H1.out.1.mm ((c : Int), (b : Int)) rfl ?_; simp only [HH.out, Option.map_none, Option.getD_none, Option.isSome_none, if_true])
      have hn0 : newer w1 (w1.alloc (.cells #[vi bigN] 3)) := newer_allocH _ _
      have HN := Lib.hid (show RsM T lp (w1.alloc (.cells #[vi bigN] 3)) ∧ Whole (w1.alloc (.cells #[vi bigN] 3)) sb 162 #[vi c, vi b] ∧ Whole (w1.alloc (.cells #[vi bigN] 3)) w1.heap.size 3 #[vi bigN] ∧ newer w (w1.alloc (.cells #[vi bigN] 3)) from ⟨H1.out.1.next hn0, H1.out.2.1.below hn0 H1.out.2.1.lt, Whole.made _ _ _, newer_trans H1.out.2.2 hn0⟩)
      clear hn0 HH s0 s1 t0 k0 p0
      have HNB := Lib.hid (show sb < w1.heap.size from H1.out.2.1.lt)
      clear H1
      refine genQ (fun X => RsM T lp X ∧ Whole X sb 162 #[vi c, vi b] ∧ Whole X w1.heap.size 3 #[vi bigN] ∧ newer w X) HN.out ?_
      clear HN
      obtain ⟨nb, hnb⟩ : ∃ nb, nb = w1.heap.size := ⟨_, rfl⟩
      rw [← hnb] at HNB ⊢
      clear hnb
      rintro w2 ⟨hm2, hs2, hb2, hn2⟩
      have s1 := hs2.at 1 (v := vi b) rfl
      have l0 := hm2.xl.at 0 (v := .slice T.s.a T.s.cs.length T.s.c) rfl
      have l1 := hm2.xl.at 1 (v := vi T.s.least) rfl
      have l2 := hm2.xl.at 2 (v := vi T.f) rfl
      have l3 := hm2.xl.at 3 (v := .func (.func (trF T.t)) #[] #[]) rfl
      have H2 := Lib.hid (And.intro hm2 (And.intro hs2 (And.intro hb2 hn2)))
      clear hm2 hs2 hb2 hn2
      go_wp2_with fail
      refine (next_any T.s T.f T.t b _).mono ?_
      rintro e w6 ⟨rfl, hw6⟩
      have HX6 : Hid (RsM T lp w6 ∧ Whole w6 sb 162 #[vi c, vi b] ∧ Whole w6 nb 3 #[vi bigN] ∧ newer w w6 ∧ Whole w6 (w2.heap.size + 1) 3 #[vi b] ∧ Whole w6 w2.heap.size 115 (lkC T.s T.f T.t) ∧ nb < w2.heap.size) := Lib.hid (by
        have e1 : newer w2 (w2.alloc (.cells (lkC T.s T.f T.t) 115)) := newer_allocH _ _
        have e2 : newer (w2.alloc (.cells (lkC T.s T.f T.t) 115)) w6 := hw6 ▸ newer_allocH _ _
        have e3 := newer_trans e1 e2
        obtain ⟨a1, a2, a3, a4⟩ := H2.out
        refine ⟨a1.next e3, a2.below e3 a2.lt, a3.below e3 a3.lt, newer_trans a4 e3, ?_, ?_, a3.lt⟩
        · rw [← hw6]
          have e5 := Whole.made (w2.alloc (.cells (lkC T.s T.f T.t) 115)) 3 #[vi b]
          rw [World.size_alloc] at e5
          exact e5
        · have e4 := Whole.made w2 115 (lkC T.s T.f T.t)
          exact e4.below e2 e4.lt)
      obtain ⟨lb, hlb⟩ : ∃ lb, lb = w2.heap.size := ⟨_, rfl⟩
      rw [← hlb] at HX6 ⊢
      clear hlb hw6 H2 s1 l0 l1 l2 l3
      obtain ⟨x, _, hx, _, hxl, _, _⟩ := sm_bed hT.sd (k := 0) (j := b) (by have := hT.zl; omega) hb
      have HNN := Lib.hid (show x.beds.length = T.n from hxl)
      have hxn : x.beds.length ≤ 1000 := by have := hT.sd.beds; omega
      go_wp2_with fail
      refine (wpIn_wide (n := 9)).1 (range_law (gf := 115) (lb := #[.pointer (some ⟨lb + 1, 0, none⟩), .pointer (some ⟨lb, 0, none⟩)]) rfl (enters_of Try.func115 (by kernel_rfl) rfl) ?_)
      intro r0 r1 r2 r3 r4 r5 r6
      refine (callsIn_wide.1 (next_in 8 (w6.heap.size + 1) (lb + 1) lb T.s T.f T.t x b hx (by rw [HNN.out]; exact hb) hxn (fun k W => RsJ T c b sb nb (lb + 1) lb w6.heap.size (minL bigN (((nearL T.n b).take k).map (restN T.c T.n bigN m' (c + 1)))) r0 w W) ?hJ ?hN ?hY _ ?h0)).mono ?_
      case hJ => 
        intro k W hj
        obtain ⟨_, g1, _⟩ := hj.me
        exact ⟨hj.bx, hj.lx, g1.at_.ok⟩
      case hN => exact fun k W W' hj hb => hj.next hb
      case h0 =>
        have e1 := newer_trans (newer_allocH w6 (.deferred (some []))) (newer_allocH (w6.alloc (.deferred (some []))) (.loop r0))
        obtain ⟨a1, a2, a3, a4, a5, a6, a7⟩ := HX6.out
        have b1 := HSB.out
        have b2 := HLT.out.m
        have b3 := HNB.out
        have b4 := a5.lt
        refine ⟨⟨lp, a1.next e1, HG.out⟩, a2.below e1 a2.lt, a3.below e1 a3.lt, a5.below e1 a5.lt, a6.below e1 a6.lt, ?_, ?_, grown_of_newer (newer_trans a4 e1) _, by omega, by omega⟩
        · simp only [heap_if, World.size_alloc]
          repeat rw [if_neg (by omega)]
          rfl
        · simp only [heap_if, World.size_alloc]
          repeat rw [if_neg (by omega)]
          rfl
      case hY =>
        intro k W hk hj
        rw [show ((loN b : Nat) : Int) + (k : Int) = ((loN b + k : Nat) : Int) from rfl]
        rw [HNN.out] at hk
        rw [near_take T.n b k _ hk]
        obtain ⟨rv, hrv⟩ : ∃ rv, rv = restN T.c T.n bigN m' (c + 1) (loN b + k) := ⟨_, rfl⟩
        have HRV := Lib.hid hrv
        rw [← hrv]
        clear hrv
        have hkn : loN b + k < T.n := by
          unfold cntN at hk
          unfold loN
          omega
        obtain ⟨nk, hnk⟩ : ∃ nk, nk = minL bigN (((nearL T.n b).take k).map (restN T.c T.n bigN m' (c + 1))) := ⟨_, rfl⟩
        rw [← hnk] at hj ⊢
        clear hnk
        refine yield_round (r := r0) hj.lo r1 r2 (by rw [r4]; rfl) ?_
        rw [r3, r4, r5, r6]
        simp only [List.zip_toArray, List.zip_cons_cons, List.zip_nil_right, List.foldl_toArray, List.foldl_cons, List.foldl_nil, List.setIfInBounds_toArray, List.set_cons_zero, List.set_cons_succ]
        gi_wp2_with fail
        refine ⟨hj.lo, ?_⟩
        have hj5 := hj.put hT HLT.out (busyOf r0)
        obtain ⟨w7, hw7⟩ : ∃ w7, w7 = W.putObj (w6.heap.size + 1) (.loop (busyOf r0)) := ⟨_, rfl⟩
        rw [← hw7] at hj5 ⊢
        clear hw7 hj W
        obtain ⟨bb, hbb⟩ : ∃ bb, bb = lb + 1 := ⟨_, rfl⟩
        obtain ⟨D, hD⟩ : ∃ D, D = w6.heap.size := ⟨_, rfl⟩
        rw [← hbb, ← hD] at hj5 ⊢
        have HJ := Lib.hid hj5
        have c39 : IntKind.i64.wrap ((c : Int) + 1) = ((c + 1 : Nat) : Int) := IntWalk.i64_in _ (by have := hT.zl; have := hT.sd.cols; have := sd_len (s := T.s); omega)
        clear hj5 r1 r2 r3 r4 r5 r6 hbb hD HX6
        gi_wp2_with fail
        refine round_words (by kernel_rfl) (by kernel_rfl) (fun _ _ h => h) (region_told 10 (by kernel_rfl) (by kernel_rfl) (RsJ T c b sb nb bb lb D nk (busyOf r0) w) (fun A B => A.grownBy B (some T.mb)) (pickD [vIs (vi nk), vIs (.func (.func 114) #[] (rpA T)), vIs (.pointer (some ⟨sb, 0, none⟩)), vIs (vi c), vIs (vi (c + 1 : Nat)), vIs (vi (loN b + k : Nat)), vIs (.agg #[vi (c + 1 : Nat), vi (loN b + k : Nat)]), vIs (vi rv), vTwo w7.heap.size T.mb nk rv, vIs (vi (mnI nk rv))]) (fun h k => grown_trans h k) (pickD_stable _ ⟨vIsG, vIsG, vIsG, vIsG, vIsG, vIsG, vIsG, vIsG, vTwo_st, vIsG, trivial⟩) (HJ.out.next (newer_drew_ _)) (grown_refl _ _) ?_ ?_)
        · refine ⟨?_, ?_, ?_, ?_, ?_, ?_, ?_, ?_, ?_, ?_, trivial⟩
          · intro a W hG hR hO hp
            have h10 := hO.slot 10 (by kernel_rfl)
            have c0 := hG.nx.at 0 (v := vi nk) rfl
            refine wp_yields (v := vi nk) ?_ ⟨_, rfl, rfl, grown_refl _ _, hG⟩
            simp [slotOf] at h10
            simp [execOp, go_sem, h10, c0]
          · intro a W hG hR hO hp
            have h5 := hO.slot 5 (by kernel_rfl)
            obtain ⟨lp, hM, hgd⟩ := hG.me
            have c0 := hM.fl.at 0 (v := .func (.func 114) #[] (rpA T)) rfl
            refine wp_yields (v := .func (.func 114) #[] (rpA T)) ?_ ⟨_, rfl, rfl, grown_refl _ _, hG⟩
            simp [slotOf] at h5
            simp [execOp, go_sem, h5, c0]
          · intro a W hG hR hO hp
            have h6 := hO.slot 6 (by kernel_rfl)
            refine wp_yields (v := .pointer (some ⟨sb, 0, none⟩)) ?_ ⟨_, rfl, rfl, grown_refl _ _, hG⟩
            simp [slotOf] at h6
            simp [execOp, go_sem, h6]
          · intro a W hG hR hO hp
            have h37 : slotOf a 37 = .pointer (some ⟨sb, 0, none⟩) := hp.1
            have c0 := hG.sp.at 0 (v := vi c) rfl
            refine wp_yields (v := vi c) ?_ ⟨_, rfl, rfl, grown_refl _ _, hG⟩
            simp [slotOf] at h37
            simp [execOp, go_sem, h37, c0]
          · intro a W hG hR hO hp
            have h38 : slotOf a 38 = vi c := hp.1
            refine wp_yields (v := vi (c + 1 : Nat)) ?_ ⟨_, rfl, rfl, grown_refl _ _, hG⟩
            simp [slotOf] at h38
            simp [execOp, go_sem, h38, c39]
          · intro a W hG hR hO hp
            have h11 := hO.slot 11 (by kernel_rfl)
            refine wp_yields (v := vi (loN b + k : Nat)) ?_ ⟨_, rfl, rfl, grown_refl _ _, hG⟩
            simp [slotOf] at h11
            simp [execOp, go_sem, h11]
          · intro a W hG hR hO hp
            have h39 : slotOf a 39 = vi (c + 1 : Nat) := hp.1
            have h40 : slotOf a 40 = vi (loN b + k : Nat) := hp.2.1
            refine wp_yields (v := .agg #[vi (c + 1 : Nat), vi (loN b + k : Nat)]) ?_ ⟨_, rfl, rfl, grown_refl _ _, hG⟩
            simp [slotOf] at h39 h40
            simp [execOp, go_sem, h39, h40]
          · intro a W hG hR hO hp
            have h36 : slotOf a 36 = .func (.func 114) #[] (rpA T) := hp.1
            have h41 : slotOf a 41 = .agg #[vi (c + 1 : Nat), vi (loN b + k : Nat)] := hp.2.1
            obtain ⟨lp, hM, hgd⟩ := hG.me
            have hcc := HIR.out (c + 1) (loN b + k) lp W (by omega) (by omega) hM hgd
            rw [← HRV.out] at hcc
            obtain ⟨ar, har⟩ : ∃ ar, ar = #[.agg #[vi (c + 1 : Nat), vi (loN b + k : Nat)]] ++ rpA T := ⟨_, rfl⟩
            rw [← har] at hcc
            refine wp_enters (f := 114) (args := ar) ?_ (hcc.mono ?_)
            · simp [slotOf] at h36 h41
              rw [har]
              simp [execOp, go_sem, h36, h41]
            · rintro e w' ⟨rfl, lp2, g1, g2, g3⟩
              exact ⟨_, rfl, _, rfl, rfl, g3, hG.back g3 ⟨lp2, g1, g2⟩⟩
          · intro a W hG hR hO hp
            have h35 : slotOf a 35 = vi nk := hp.1
            have h42 : slotOf a 42 = vi rv := hp.2.1
            refine wp_makes (v := .slice (some ⟨W.heap.size, 0, none⟩) 2 2) (W' := W.alloc (.cells #[vi nk, vi rv] 3)) ?_ ⟨_, rfl, ⟨W.heap.size, rfl, Nat.le_trans (Nat.le_refl _) hR.size, ?_, Whole.made _ _ _⟩, grown_alloc (grown_refl _ _) _, hG.next (newer_allocH _ _)⟩
            · simp [slotOf] at h35 h42
              simp [execOp, go_sem, h35, h42]
            · have h1 := hG.sp.lt
              have h2 := hG.ml
              omega
          · intro a W hG hR hO hp
            have h43 := hp.1
            obtain ⟨q, h43, hq1, hq2, hq3⟩ := h43
            refine wp_enters (f := 83) (args := #[.slice (some ⟨q, 0, none⟩) 2 2]) ?_ ((least2_any nk rv q 2 W hq3).mono ?_)
            · simp [slotOf] at h43
              simp [go_sem, h43]
            · rintro e w' ⟨rfl, rfl⟩
              exact ⟨_, rfl, _, rfl, rfl, grown_refl _ _, hG⟩
        · intro W hG hR
          rintro _ rfl _ rfl _ rfl _ rfl _ rfl _ rfl _ rfl _ rfl _ hv43 _ rfl
          change wpList _ _ _ _ _ _
          simp only [Act.put, List.setIfInBounds_toArray, List.set_cons_zero, List.set_cons_succ, List.drop_succ_cons, List.drop_zero]
          have n0 := hG.nx.at 0 (v := vi nk) rfl
          have nf := hG.nx.free 0
          have hsc := setCell_same n0
          have hS := hG.set hT HLT.out (mnI nk rv)
          have HX8 := Lib.hid (And.intro hS.lo (hS.put hT HLT.out r0))
          clear hS hG hR
          go_wp2_with fail
          refine onlyN_intro ?_
          gi_wp2_with fail
          exact ⟨HX8.out.1, rfl, HX8.out.2⟩
      · rintro e W ⟨⟨v, rfl⟩, hj⟩
        refine ⟨⟨_, rfl⟩, .inl ⟨hj.lo, ?_⟩⟩
        rw [HNN.out, near_all] at hj
        obtain ⟨nz, hnz⟩ : ∃ nz, nz = minL bigN ((nearL T.n b).map (restN T.c T.n bigN m' (c + 1))) := ⟨_, rfl⟩
        rw [← hnz] at hj
        obtain ⟨pc, hpc⟩ : ∃ pc, pc = T.c c b := ⟨_, rfl⟩
        rw [← hpc] at HPR
        have HVV := Lib.hid (show pc + nz = restN T.c T.n bigN (m' + 1) c b by rw [hpc, hnz]; rfl)
        have c54 : IntKind.i64.wrap (pc + nz) = pc + nz := by
          have h1 : -1300100000 ≤ T.c c b ∧ T.c c b ≤ 1300100000 := cF_bd (ok_of hT) hT.f0 hT.f1 c b
          rw [← hpc] at h1
          have h2 : nz ≤ bigN := hnz ▸ (minL_le _ _).1
          have h3 : -(((m' : Int) + 1) * 1300100000) ≤ nz := by
            rw [hnz]
            refine minL_bd ?_ (by simp only [bigN]; omega)
            intro x hx
            obtain ⟨y, _, rfl⟩ := List.mem_map.1 hx
            exact (rest_bd (c := T.c) (n := T.n) (fun k b => cF_bd (ok_of hT) hT.f0 hT.f1 k b) m' (c + 1) y (by have := hT.zl; have := hT.sd.cols; have := sd_len (s := T.s); omega)).1
          have h4 : m' < 20 := by have := hT.zl; have := hT.sd.cols; have := sd_len (s := T.s); omega
          simp only [bigN] at h2
          exact IntWalk.i64_in _ (by omega)
        clear hnz hpc
        have HJ := Lib.hid (hj.put hT HLT.out (overOf r0))
        clear hj r1 r2 r3 r4 r5 r6 HX6
        go_upto_region 10 with fail
        obtain ⟨⟨lp2, q1, q2⟩, q3, q4, _, _, q5, _, q6, _, qs⟩ := HJ.out
        have HSO := Lib.hid qs
        have HG2 := Lib.hid q2
        have HJ2 := Lib.hid (And.intro q1 (And.intro q3 (And.intro q4 (And.intro q5 q6))))
        clear q1 q2 q3 q4 q5 q6 qs HJ
        refine genQ (fun X => RsM T lp2 X ∧ Whole X sb 162 #[vi c, vi b] ∧ Whole X nb 3 #[vi nz] ∧ X.heap[w6.heap.size]? = some (.deferred (some [])) ∧ w.grownBy X (some T.mb)) HJ2.out ?_
        clear HJ2
        intro we he
        have HE := Lib.hid he
        clear he
        refine wp_words (by kernel_rfl) (region_told 10 (by kernel_rfl) (by kernel_rfl) (fun W => Below we.heap.size we W) newer (pickD [vIs (.map (some T.mb)), vIs (.agg #[vi c, vi b]), vIs (.func (.func 84) #[lkV T.s T.f T.t] #[]), vIs (.pointer (some ⟨sb, 0, none⟩)), vIs (vi c), vIs (.pointer (some ⟨sb, 1, none⟩)), vIs (vi b), vIs (vi pc), vIs (vi nz), vIs (vi (pc + nz))]) (fun h k => newer_trans h k) (pickD_stable _ ⟨vIs_st, vIs_st, vIs_st, vIs_st, vIs_st, vIs_st, vIs_st, vIs_st, vIs_st, vIs_st, trivial⟩) (Below.refl _ we).drew (Below.refl _ _) ?_ ?_)
        · refine ⟨?_, ?_, ?_, ?_, ?_, ?_, ?_, ?_, ?_, ?_, trivial⟩
          · intro a W hG hR hO hp
            have h3 := hO.slot 3 (by kernel_rfl)
            have hM := HE.out.1.next hG
            have hs := HE.out.2.1.below hG HE.out.2.1.lt
            have hn := HE.out.2.2.1.below hG HE.out.2.2.1.lt
            have c0 := hM.kl.at 0 (v := .map (some T.mb)) rfl
            refine wp_yields (v := .map (some T.mb)) ?_ ⟨_, rfl, rfl, Below.refl _ _, hG⟩
            simp [slotOf] at h3
            simp [execOp, go_sem, h3, c0]
          · intro a W hG hR hO hp
            have h6 := hO.slot 6 (by kernel_rfl)
            have hM := HE.out.1.next hG
            have hs := HE.out.2.1.below hG HE.out.2.1.lt
            have hn := HE.out.2.2.1.below hG HE.out.2.2.1.lt
            have c0 := hs.at 0 (v := vi c) rfl
            have c1 := hs.at 1 (v := vi b) rfl
            refine wp_yields (v := .agg #[vi c, vi b]) ?_ ⟨_, rfl, rfl, Below.refl _ _, hG⟩
            simp [slotOf] at h6
            simp [execOp, go_sem, h6, c0, c1]
          · intro a W hG hR hO hp
            have h2 := hO.slot 2 (by kernel_rfl)
            have hM := HE.out.1.next hG
            have hs := HE.out.2.1.below hG HE.out.2.1.lt
            have hn := HE.out.2.2.1.below hG HE.out.2.2.1.lt
            have c0 := hM.pl.at 0 (v := .func (.func 84) #[lkV T.s T.f T.t] #[]) rfl
            refine wp_yields (v := .func (.func 84) #[lkV T.s T.f T.t] #[]) ?_ ⟨_, rfl, rfl, Below.refl _ _, hG⟩
            simp [slotOf] at h2
            simp [execOp, go_sem, h2, c0]
          · intro a W hG hR hO hp
            have h6 := hO.slot 6 (by kernel_rfl)
            have hM := HE.out.1.next hG
            have hs := HE.out.2.1.below hG HE.out.2.1.lt
            have hn := HE.out.2.2.1.below hG HE.out.2.2.1.lt
            refine wp_yields (v := .pointer (some ⟨sb, 0, none⟩)) ?_ ⟨_, rfl, rfl, Below.refl _ _, hG⟩
            simp [slotOf] at h6
            simp [execOp, go_sem, h6]
          · intro a W hG hR hO hp
            have h48 : slotOf a 48 = .pointer (some ⟨sb, 0, none⟩) := hp.1
            have hM := HE.out.1.next hG
            have hs := HE.out.2.1.below hG HE.out.2.1.lt
            have hn := HE.out.2.2.1.below hG HE.out.2.2.1.lt
            have c0 := hs.at 0 (v := vi c) rfl
            refine wp_yields (v := vi c) ?_ ⟨_, rfl, rfl, Below.refl _ _, hG⟩
            simp [slotOf] at h48
            simp [execOp, go_sem, h48, c0]
          · intro a W hG hR hO hp
            have h6 := hO.slot 6 (by kernel_rfl)
            have hM := HE.out.1.next hG
            have hs := HE.out.2.1.below hG HE.out.2.1.lt
            have hn := HE.out.2.2.1.below hG HE.out.2.2.1.lt
            refine wp_yields (v := .pointer (some ⟨sb, 1, none⟩)) ?_ ⟨_, rfl, rfl, Below.refl _ _, hG⟩
            simp [slotOf] at h6
            simp [execOp, go_sem, h6]
          · intro a W hG hR hO hp
            have h50 : slotOf a 50 = .pointer (some ⟨sb, 1, none⟩) := hp.1
            have hM := HE.out.1.next hG
            have hs := HE.out.2.1.below hG HE.out.2.1.lt
            have hn := HE.out.2.2.1.below hG HE.out.2.2.1.lt
            have c0 := hs.at 1 (v := vi b) rfl
            refine wp_yields (v := vi b) ?_ ⟨_, rfl, rfl, Below.refl _ _, hG⟩
            simp [slotOf] at h50
            simp [execOp, go_sem, h50, c0]
          · intro a W hG hR hO hp
            have h47 : slotOf a 47 = .func (.func 84) #[lkV T.s T.f T.t] #[] := hp.1
            have h49 : slotOf a 49 = vi c := hp.2.1
            have h51 : slotOf a 51 = vi b := hp.2.2.1
            have hM := HE.out.1.next hG
            have hs := HE.out.2.1.below hG HE.out.2.1.lt
            have hn := HE.out.2.2.1.below hG HE.out.2.2.1.lt
            refine wp_enters (f := 84) (args := #[lkV T.s T.f T.t, vi c, vi b]) ?_ ((HPR.out W hM.at_.ok).mono ?_)
            · simp [slotOf] at h47 h49 h51
              simp [execOp, go_sem, h47, h49, h51]
            · rintro e w' ⟨rfl, hb⟩
              exact ⟨_, rfl, _, rfl, rfl, hb, below_next hG hb⟩
          · intro a W hG hR hO hp
            have h10 := hO.slot 10 (by kernel_rfl)
            have hM := HE.out.1.next hG
            have hs := HE.out.2.1.below hG HE.out.2.1.lt
            have hn := HE.out.2.2.1.below hG HE.out.2.2.1.lt
            have c0 := hn.at 0 (v := vi nz) rfl
            refine wp_yields (v := vi nz) ?_ ⟨_, rfl, rfl, Below.refl _ _, hG⟩
            simp [slotOf] at h10
            simp [execOp, go_sem, h10, c0]
          · intro a W hG hR hO hp
            have h52 : slotOf a 52 = vi pc := hp.1
            have h53 : slotOf a 53 = vi nz := hp.2.1
            have hM := HE.out.1.next hG
            have hs := HE.out.2.1.below hG HE.out.2.1.lt
            have hn := HE.out.2.2.1.below hG HE.out.2.2.1.lt
            refine wp_yields (v := vi (pc + nz)) ?_ ⟨_, rfl, rfl, Below.refl _ _, hG⟩
            simp [slotOf] at h52 h53
            simp [execOp, go_sem, h52, h53, c54]
        · intro wu hG hR
          rintro _ rfl _ rfl _ rfl _ rfl _ rfl _ rfl _ rfl _ rfl _ rfl _ rfl
          change wpList _ _ _ _ _ _
          simp only [Act.put, List.setIfInBounds_toArray, List.set_cons_zero, List.set_cons_succ, List.drop_succ_cons, List.drop_zero]
          obtain ⟨lp3, hlp3⟩ : ∃ lp3, lp3 = putR ((c : Int), (b : Int)) (pc + nz) lp2 := ⟨_, rfl⟩
          refine wpList_update_r _ rfl _ _ _ 159 rfl spot_key Try.underlying159 T.mb lp2 rfl (HE.out.1.next hG).mm ((c : Int), (b : Int)) (pc + nz) rfl rfl ?_
          rw [← hlp3]
          have HLO := Lib.hid (show ∃ iv, atR ((c : Int), (b : Int)) lp3 0 = some iv from hlp3 ▸ look_put _ _ _)
          have HG3 : Hid (Good T lp3) := Lib.hid (hlp3 ▸ good_put HG2.out (by omega) (by rw [HVV.out, HZ.out]))
          obtain ⟨w3, hw3⟩ : ∃ w3, w3 = Go.ChangeMaps.setBlock wu T.mb (.map (ents spotK evI lp3) lp3.length) := ⟨_, rfl⟩
          have H3 : Hid (RsM T lp3 w3 ∧ Whole w3 sb 162 #[vi c, vi b] ∧ w3.heap[w6.heap.size]? = some (.deferred (some [])) ∧ w.grownBy w3 (some T.mb)) := Lib.hid (by
            obtain ⟨a1, a2, a3, a4, a5⟩ := HE.out
            have b1 := HSB.out
            have b2 := HLT.out.m
            have b3 := HSO.out
            rw [hw3]
            refine ⟨(a1.next hG).put hT lp3, (a2.below hG a2.lt).setBlock (by omega) _, ?_, grown_trans a5 (grown_trans (grown_of_newer hG _) (grown_setBlock _ _ _))⟩
            rw [setBlock_get_ne _ (by omega)]
            exact (hG.block _ (Array.getElem?_eq_some_iff.1 a4).1).trans a4)
          rw [← hw3]
          clear hw3 hlp3 hG hR HE
          obtain ⟨⟨i3, v3⟩, h3⟩ := HLO.out
          have HV3 := Lib.hid (good_look HG3.out h3)
          have HH := Lib.hid h3
          have s0 := H3.out.2.1.at 0 (v := vi c) rfl
          have s1 := H3.out.2.1.at 1 (v := vi b) rfl
          have k0 := H3.out.1.kl.at 0 (v := .map (some T.mb)) rfl
          clear h3 HLO
          go_wp2_with (at_lookup; refine wpList_lookup_r _ rfl _ _ 159 false rfl spot_key Try.underlying159 (zero3 _) T.mb lp3 rfl H3.out.1.mm ((c : Int), (b : Int)) rfl ?_; simp only [HH.out, Option.map_some, Option.getD_some, Bool.false_eq_true, if_false])
          refine ⟨by simp, .inl ⟨_, _, rfl, run_takeDeferred H3.out.2.2.1, ?_⟩⟩
          refine ⟨_, by simp [results, Try.results114, go_sem]; rfl, by rw [HV3.out, HZ.out], lp3, ?_, HG3.out, ?_⟩
          · have b1 := HSB.out
            have b2 := HLT.out
            have b3 := HSO.out
            have b4 := b2.x
            have b5 := b2.t
            have b6 := b2.k
            have b7 := b2.p
            have b8 := b2.f
            have b9 := b2.m
            have b10 := hT.bm
            exact H3.out.1.far (grown_putL _ _ _) (by omega) (by omega) (by omega) (by omega) (by omega) (by omega) (by omega)
          · have b1 := HSB.out
            have b3 := HSO.out
            exact grown_put H3.out.2.2.2 (by omega) _
/-- The search, whatever is left. -/
theorem rest_any (T : RP) (hT : RpOk T) : ∀ m, RestC T m
  | 0 => recur_step T hT 0 (fun _ h => by omega)
  | m + 1 => recur_step T hT (m + 1) (fun m' h => by
    have e : m = m' := by omega
    exact e ▸ rest_any T hT m)

end Go.Proofs.Ytkenokpobbichaa
