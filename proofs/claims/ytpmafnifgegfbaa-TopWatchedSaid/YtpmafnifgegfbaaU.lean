/- A look at a survey with some turns: the walk. -/
import Derived.Test.YtpmafnifgegfbaaT
namespace Go.Proofs.Ytpmafnifgegfbaa
open Go.RowKit Go.Shelf Go.Deep

open Go.ChangeMaps (setBlock)
attribute [local go_sem] Oper.semAt_some
/-- A look lies in memory, from block b on: the sets of all spots. -/
structure LookOk (y : Sm) (ks : List (Option Int)) (b lb : Nat) (ms : List Nat) (A : Option Addr) (c : Nat) (W : World) : Prop where
  lk : ∃ ka n kc, Whole W lb 126 (lkC y ka n kc (.slice A y.s.spots.length c))
  bl : b ≤ lb
  ow : W.ownsRow b 128 1 (.slice A y.s.spots.length c) y.s.spots.length (ms.flatMap mapL)
  ln : ms.length = y.s.spots.length
  ml : ∀ m ∈ ms, b ≤ m
  mp : ∀ (j m : Nat), ms[j]? = some m → KMap mvV trV m (kvL (aliveS y.s ks j)) W
section
variable {y : Sm} {ks : List (Option Int)} {b lb : Nat} {ms : List Nat} {A : Option Addr} {c : Nat} {W W' : World}
theorem LookOk.next (h : LookOk y ks b lb ms A c W) (hb : newer W W') : LookOk y ks b lb ms A c W' := by
  obtain ⟨ka, n, kc, h1⟩ := h.lk
  exact ⟨⟨ka, n, kc, h1.below hb h1.lt⟩, h.bl, own_below h.ow hb, h.ln, h.ml, fun j m hm => (h.mp j m hm).next hb⟩
theorem LookOk.row (h : LookOk y ks b lb ms A c W) : Row mapL 1 W W.heap.size A ms := by
  have h1 := h.ow
  rw [← h.ln] at h1
  exact row_of_own (by omega) (fun _ => rfl) h1
theorem LookOk.low (h : LookOk y ks b lb ms A c W) {b' : Nat} (hb : b' ≤ b) : LookOk y ks b' lb ms A c W := ⟨h.lk, Nat.le_trans hb h.bl, own_more h.ow hb, h.ln, fun m hm => Nat.le_trans hb (h.ml m hm), h.mp⟩
/-- What a look needs stays as it was. -/
theorem LookOk.kept (h : LookOk y ks b lb ms A c W) (hk : ∀ k, k < W.heap.size → b ≤ k → (∀ (t : TypeId) (cs : Array Value), Whole W k t cs → t = 126 ∨ t = 128) → W'.heap[k]? = W.heap[k]?) : LookOk y ks b lb ms A c W' := by
  obtain ⟨ka, n, kc, h1⟩ := h.lk
  have tyOf : ∀ {k : Nat} {t t' : TypeId} {cs cs' : Array Value}, Whole W k t cs → Whole W k t' cs' → t' = t := fun a b => by
    unfold Whole at a b
    rw [a] at b
    injection b with b
    injection b with _ b
    exact b.symm
  refine ⟨⟨ka, n, kc, h1.same (hk lb h1.lt h.bl fun t cs hw => .inl (tyOf h1 hw))⟩, h.bl, own_same h.ow (fun k hq => hk k (own_lt h.ow k hq) (own_ge h.ow k hq) fun t cs hw => ?_), h.ln, h.ml, fun j m hm => ?_⟩
  · rcases h.ow.2 with ⟨e, _⟩ | ⟨g, cap, cur, e, _, hg, _⟩
    · rw [e] at hq
      simp [Value.ownBlock] at hq
    · rw [e] at hq
      have e3 : g = k := by simpa [Value.ownBlock] using hq
      rw [e3] at hg
      exact .inr (tyOf (cs := cur) hg hw)
  · have h2 := h.mp j m hm
    refine h2.same (hk m h2.lt (h.ml m (List.mem_of_getElem? hm)) fun t cs hw => ?_)
    obtain ⟨es, k, hes, _⟩ := h2.len
    unfold Whole at hw
    rw [hes] at hw
    injection hw with hw
    cases hw
end
set_option maxRecDepth 100000 in
set_option maxHeartbeats 2000000 in
theorem at_any (y : Sm) (ks : List (Option Int)) (ka : Option Addr) (kc : Nat) (w : World) (hok : SmOk y w) (hs : SdOk y.s) (hks : Row koL 1 w w.heap.size ka ks) (hkl : ks.length = y.s.tools.length) (hkb : ∀ o ∈ ks, ∀ k, o = some k → -100000 ≤ k ∧ k ≤ 100000) :
    Calls Try.prog 61 #[smV y, .slice ka ks.length kc] w fun e w' => ∃ lb, e = .returned (.tuple #[.pointer (some ⟨lb, 0, none⟩), .bool (okS y.s ks)]) ∧ newer w w' ∧ (okS y.s ks = true → ∃ ms A c, LookOk y ks w.heap.size lb ms A c w') := by
  have HS := Lib.hid (at_start y ks ka kc w)
  have HOK := Lib.hid hok
  have HSD := Lib.hid hs
  have HKS := Lib.hid (And.intro hks (And.intro hkl hkb))
  have e0 := Whole.made w 40 (smC y)
  have x0 := e0.at 0 (v := .slice y.sa y.s.spots.length y.sc) rfl
  have x1 := e0.at 1 (v := vi y.s.strain) rfl
  have x2 := e0.at 2 (v := .slice y.ta y.s.tools.length y.tc) rfl
  have x3 := e0.at 3 (v := vi y.s.day) rfl
  have x4 := e0.at 4 (v := .slice y.ra y.s.reads.length y.rc) rfl
  clear hok hs hks hkl hkb e0
  refine callsIn_wide.1 (callsIn_of_wp_marks (n := 9) Try.func61 rfl trivial ?_ rfl)
  simp only [Try.ntmps61, List.size_toArray, List.length_cons, List.length_nil, Nat.reduceAdd, Nat.reduceSub, Array.replicate_succ, Array.replicate_zero, List.push_toArray, List.append_toArray, List.nil_append, List.cons_append]
  refine wpIn_wide.2 ?_
  go_upto_region 3 with fail
  refine genQ (fun X => AtL y ks ka kc w.heap.size 0 y.s.spots.length (fwS y.s ks) [] [] none 0 w X) HS.out ?_
  clear HS x0 x1 x2 x3 x4
  intro w1 h1
  have x0 := h1.b0.at 0 (v := .slice y.sa y.s.spots.length y.sc) rfl
  have H1 := Lib.hid h1
  clear h1
  go_upto_region 4 with fail
  clear x0
  refine wp_loop (AtR y ks ka kc w) (fun a _ => y.s.spots.length - a.defers.length) ?_ ?_
  · exact AtR.intro 0 [] [] none 0 _ _ _ _ _ _ _ _ _ _ _ _ _ _ _ _ _ _ _ _ _ _ _ _ _ _ _ _ _ _ _ _ _ _ _ _ _ _ _ _ _ _ _ _ _ _ _ _ _ _ _ _ _ _ _ _ _ _ _ _ _ _ _ _ _ _ _ _ _ _ _ _ _ _ _ _ _ _ _ _ _ _ _ _ _ _ _ _ _ _ _ _ _ _ _ _ _ _ _ _ _ _ _ ⟨H1.out, fun j hj => by omega, rfl, by omega⟩
  · intro a W hJ
    refine AtR.elim hJ ?_
    clear hJ H1
    intro i ms Ds A c z3 z8 z9 z10 z11 z12 z13 z14 z15 z16 z17 z18 z19 z20 z24 z25 z26 z27 z28 z29 z30 z31 z32 z33 z34 z35 z36 z37 z38 z39 z40 z41 z42 z43 z44 z45 z46 z47 z48 z49 z50 z51 z52 z53 z54 z55 z56 z57 z58 z59 z60 z61 z62 z63 z64 z65 z66 z67 z68 z69 z70 z71 z72 z73 z74 z75 z76 z77 z78 z79 z80 z81 z82 z83 z84 z85 z86 z87 z88 z89 z90 z91 z92 z93 z94 z95 z96 z97 z98 z99 z100 z101 z102 z103 z104 z105 z106 z107 z108 z109 z110 z111 z112 hJ hal
    have HAL := Lib.hid hal
    clear hal
    have HJ := Lib.hid hJ
    clear hJ
    by_cases hlt : i < y.s.spots.length
    · obtain ⟨p, hp⟩ : ∃ p, y.s.spots[i]? = some p := ⟨_, List.getElem?_eq_getElem hlt⟩
      obtain ⟨sb, so, es, hsb, p0, p1, p2, p3⟩ := row4 (HOK.out.next HJ.out.at_.nw).sp hp
      have hpk := HSD.out.spot p (List.mem_of_getElem? hp)
      have HPK := Lib.hid (And.intro hpk (And.intro hp hlt))
      have HES := Lib.hid es
      rw [es]
      clear hpk hp es hsb
      go_wp2_with fail
      rw [run_makeMap]
      go_upto_region 7 with fail
      have HX := Lib.hid (show AtL y ks ka kc w.heap.size i y.s.spots.length (fwS y.s ks) ms Ds A c w ((((W.alloc (.cells #[vi i] 3)).alloc (.cells (spC p) 56)).alloc (.map #[] 0)).alloc (.cells #[.map (some (W.heap.size + 1 + 1))] 128)) ∧ Whole ((((W.alloc (.cells #[vi i] 3)).alloc (.cells (spC p) 56)).alloc (.map #[] 0)).alloc (.cells #[.map (some (W.heap.size + 1 + 1))] 128)) W.heap.size 3 #[vi i] ∧ Whole ((((W.alloc (.cells #[vi i] 3)).alloc (.cells (spC p) 56)).alloc (.map #[] 0)).alloc (.cells #[.map (some (W.heap.size + 1 + 1))] 128)) (W.heap.size + 1) 56 (spC p) ∧ KMap mvV trV (W.heap.size + 1 + 1) (kvL []) ((((W.alloc (.cells #[vi i] 3)).alloc (.cells (spC p) 56)).alloc (.map #[] 0)).alloc (.cells #[.map (some (W.heap.size + 1 + 1))] 128)) ∧ Whole ((((W.alloc (.cells #[vi i] 3)).alloc (.cells (spC p) 56)).alloc (.map #[] 0)).alloc (.cells #[.map (some (W.heap.size + 1 + 1))] 128)) (W.heap.size + 1 + 1 + 1) 128 #[.map (some (W.heap.size + 1 + 1))] by
        have n1 := newer_allocH W (.cells #[vi i] 3)
        have n2 := newer_allocH (W.alloc (.cells #[vi i] 3)) (.cells (spC p) 56)
        have n3 := newer_allocH ((W.alloc (.cells #[vi i] 3)).alloc (.cells (spC p) 56)) (.map #[] 0)
        have n4 := newer_allocH (((W.alloc (.cells #[vi i] 3)).alloc (.cells (spC p) 56)).alloc (.map #[] 0)) (.cells #[.map (some (W.heap.size + 1 + 1))] 128)
        have m1 := ((Whole.made W 3 #[vi i]).alloc (.cells (spC p) 56)).alloc (.map #[] 0)
        have m2 := (Whole.made (W.alloc (.cells #[vi i] 3)) 56 (spC p)).alloc (.map #[] 0)
        have m3 := KMap.made mvV trV ((W.alloc (.cells #[vi i] 3)).alloc (.cells (spC p) 56))
        have m4 := Whole.made (((W.alloc (.cells #[vi i] 3)).alloc (.cells (spC p) 56)).alloc (.map #[] 0)) 128 #[.map (some (W.heap.size + 1 + 1))]
        simp only [World.size_alloc] at m2 m3 m4
        exact ⟨HJ.out.at_.next (newer_trans (newer_trans (newer_trans n1 n2) n3) n4), m1.alloc _, m2.alloc _, m3.next n4, m4⟩)
      have HLT := Lib.hid HJ.out.at_.lts
      have HQ := Lib.hid (And.intro HJ.out.ne (And.intro HJ.out.dl HJ.out.le))
      obtain ⟨ib, hib⟩ : ∃ ib, ib = W.heap.size := ⟨_, rfl⟩
      rw [← hib] at HLT
      refine genQ (fun X => AtL y ks ka kc w.heap.size i y.s.spots.length (fwS y.s ks) ms Ds A c w X ∧ Whole X W.heap.size 3 #[vi i] ∧ Whole X (W.heap.size + 1) 56 (spC p) ∧ KMap mvV trV (W.heap.size + 1 + 1) (kvL []) X ∧ Whole X (W.heap.size + 1 + 1 + 1) 128 #[.map (some (W.heap.size + 1 + 1))]) HX.out ?_
      rw [← hib]
      clear HX HJ hib p0 p1 p2 p3 W
      rintro w2 ⟨g1, g2, g3, g4, g5⟩
      obtain ⟨pb, hpb⟩ : ∃ q, q = ib + 1 := ⟨_, rfl⟩
      obtain ⟨mb, hmb⟩ : ∃ q, q = ib + 1 + 1 := ⟨_, rfl⟩
      obtain ⟨nb, hnb⟩ : ∃ q, q = ib + 1 + 1 + 1 := ⟨_, rfl⟩
      have HB := Lib.hid (show pb = ib + 1 ∧ mb = ib + 2 ∧ nb = ib + 3 by omega)
      rw [← hnb, ← hmb] at g5
      rw [← hmb] at g4
      rw [← hpb] at g3
      rw [← hnb, ← hpb]
      have q0 := g3.at 0 (v := vi p.x.lo) rfl
      have q1 := g3.at 1 (v := vi p.x.hi) rfl
      have q2 := g3.at 2 (v := vi p.y.lo) rfl
      have q3 := g3.at 3 (v := vi p.y.hi) rfl
      have H2 := Lib.hid (And.intro g1 (And.intro g2 (And.intro g4 g5)))
      clear g1 g2 g3 g4 g5 hpb hmb hnb
      go_wp2_with fail
      refine (moves_any p _).mono ?_
      rintro e w3 ⟨rfl, hw3⟩
      have H3 : Hid (AtL y ks ka kc w.heap.size i y.s.spots.length (fwS y.s ks) ms Ds A c w w3 ∧ Whole w3 ib 3 #[vi i] ∧ KMap mvV trV mb (kvL []) w3 ∧ Whole w3 nb 128 #[.map (some mb)] ∧ Whole w3 w2.heap.size 56 (spC p) ∧ nb < w2.heap.size) := Lib.hid (by
        have e1 := newer_allocH w2 (.cells (spC p) 56)
        rw [← hw3] at e1
        obtain ⟨a1, a2, a3, a4⟩ := H2.out
        exact ⟨a1.next e1, a2.below e1 a2.lt, a3.next e1, a4.below e1 a4.lt, hw3 ▸ Whole.made w2 56 (spC p), a4.lt⟩)
      obtain ⟨cb, hcb⟩ : ∃ q, q = w2.heap.size := ⟨_, rfl⟩
      rw [← hcb] at H3 ⊢
      clear hw3 H2 hcb q0 q1 q2 q3 w2
      go_wp2_with fail
      refine (wpIn_wide (n := 9)).1 (range_law (gf := 121) (lb := #[.pointer (some ⟨cb, 0, none⟩)]) rfl (enters_of Try.func121 (by kernel_rfl) rfl) ?_)
      intro r0 r1 r2 r3 r4 r5 r6
      have hpk := HPK.out.1
      unfold rgOk at hpk
      refine (callsIn_wide.1 (moves_in 8 (w3.heap.size + 1) cb p (by omega) (by omega) (fun k W => AtB y ks ka kc w.heap.size i ms Ds A c p ib nb mb cb w3.heap.size ib (((movesL p).take k).filter (comeB y.s ks i)) r0 w W) ?hJ ?hY _ ?h0)).mono ?_
      case hJ => exact fun k W hj => hj.cx
      case h0 =>
        have e1 := newer_trans (newer_allocH w3 (.deferred (some []))) (newer_allocH (w3.alloc (.deferred (some []))) (.loop r0))
        obtain ⟨a1, a2, a3, a4, a5, a6⟩ := H3.out
        have b4 := a5.lt
        have hb := HB.out
        refine ⟨a1.next e1, a2.below e1 a2.lt, a4.below e1 a4.lt, a5.below e1 a5.lt, a3.next e1, ?_, ?_, HLT.out, by omega⟩
        · simp only [heap_if, World.size_alloc]
          repeat rw [if_neg (by omega)]
          rfl
        · simp only [heap_if, World.size_alloc]
          repeat rw [if_neg (by omega)]
          rfl
      case hY =>
        intro k m W hm hj
        have hmm := List.mem_of_getElem? hm
        have hmb2 := moves_bd HSD.out HPK.out.2.1 hmm
        have HM := Lib.hid (And.intro hm hmb2)
        refine yield_round (r := r0) hj.lo r1 r2 (by rw [r4]; rfl) ?_
        rw [r3, r4, r5, r6]
        simp only [List.zip_toArray, List.zip_cons_cons, List.zip_nil_right, List.foldl_toArray, List.foldl_cons, List.foldl_nil, List.setIfInBounds_toArray, List.set_cons_zero, List.set_cons_succ]
        gi_wp2_with fail
        have hj1 := hj.next (newer_allocH W (.cells (mvC m) 116))
        refine ⟨hj1.lo, ?_⟩
        have hj5 := hj1.put (busyOf r0)
        have hso := hj1.so
        have hxb : Whole ((W.alloc (.cells (mvC m) 116)).putObj (w3.heap.size + 1) (.loop (busyOf r0))) W.heap.size 116 (mvC m) := (Whole.made W 116 (mvC m)).put (by have := (Array.getElem?_eq_some_iff.1 hj.lo).1; omega) _
        obtain ⟨w8, hw8⟩ : ∃ w8, w8 = (W.alloc (.cells (mvC m) 116)).putObj (w3.heap.size + 1) (.loop (busyOf r0)) := ⟨_, rfl⟩
        rw [← hw8] at hj5 hxb ⊢
        obtain ⟨xb, hxe⟩ : ∃ q, q = W.heap.size := ⟨_, rfl⟩
        rw [← hxe] at hxb ⊢
        obtain ⟨D, hD⟩ : ∃ D, D = w3.heap.size := ⟨_, rfl⟩
        rw [← hD] at hj5 ⊢
        have HXB := Lib.hid hxb
        have HJ := Lib.hid hj5
        clear hw8 hj hj1 hso hxe hj5 hxb W r1 r2 r3 r4 r5 r6 hD H3 hpk hmm hmb2 hm
        have f0 := HJ.out.at_.fv.at 0 (v := mayV w.heap.size) rfl
        have i0 := HJ.out.ix.at 0 (v := vi i) rfl
        have m0 := HXB.out.at 0 (v := vi m.1) rfl
        have m1 := HXB.out.at 1 (v := vi m.2) rfl
        have v0 := HJ.out.at_.xv.at 0 (v := .pointer (some ⟨w.heap.size + 1, 0, none⟩)) rfl
        have HMAY := Lib.hid (fun W (h : AtB y ks ka kc w.heap.size i ms Ds A c p ib nb mb cb D ib (((movesL p).take k).filter (comeB y.s ks i)) (busyOf r0) w W) => may_any y ks (w.heap.size + 1) i m ka kc (.slice A i c) W (HOK.out.next h.at_.nw) HSD.out h.at_.lk ((HKS.out.1.below h.at_.nw).more h.at_.nw.size) HKS.out.2.1 HM.out.2.1 HM.out.2.2 HKS.out.2.2)
        obtain ⟨fm, hfm⟩ : ∃ q, q = mayB y.s ks i m := ⟨_, rfl⟩
        rw [← hfm] at HMAY
        have HCO : Hid (comeB y.s ks i m = (fm && (decide (i = 0) || (fwS y.s ks (i - 1)).any fun o => nearB y.s.strain o m))) := Lib.hid (by rw [hfm]; rfl)
        clear hfm
        cases fm with
        | false =>
          have HC := Lib.hid (show comeB y.s ks i m = false by rw [HCO.out]; rfl)
          gi_wp2_with fail
          refine round_words (by kernel_rfl) (by kernel_rfl) (fun _ _ h => h) (region_told_u 20 (by kernel_rfl) (by kernel_rfl) [false, false, false, false, false, true, true, true, true, true, true, true, true, true, true, true, true, true, true, true] (fun W => Below w8.heap.size w8 W) newer [vIs (mayV w.heap.size), vIs (.int .i64 i), vIs (mvV m), vIs (.bool false), vIs (.bool false), vIs (undef), vIs (undef), vIs (undef), vIs (undef), vIs (undef), vIs (undef), vIs (undef), vIs (undef), vIs (undef), vIs (undef), vIs (undef), vIs (undef), vIs (undef), vIs (undef), vIs (undef)] ⟨rfl, rfl, rfl, rfl, rfl, (fun v W h => by obtain rfl : v = _ := h; simp), (fun v W h => by obtain rfl : v = _ := h; simp), (fun v W h => by obtain rfl : v = _ := h; simp), (fun v W h => by obtain rfl : v = _ := h; simp [undef]), (fun v W h => by obtain rfl : v = _ := h; simp [undef]), (fun v W h => by obtain rfl : v = _ := h; simp [undef]), (fun v W h => by obtain rfl : v = _ := h; simp [undef]), (fun v W h => by obtain rfl : v = _ := h; simp [undef]), (fun v W h => by obtain rfl : v = _ := h; simp [undef]), (fun v W h => by obtain rfl : v = _ := h; simp [undef]), (fun v W h => by obtain rfl : v = _ := h; simp [undef]), (fun v W h => by obtain rfl : v = _ := h; simp [undef]), (fun v W h => by obtain rfl : v = _ := h; simp [undef]), (fun v W h => by obtain rfl : v = _ := h; simp [undef]), (fun v W h => by obtain rfl : v = _ := h; simp), trivial⟩ ⟨(fun h => Bool.noConfusion (show false = true from h)), (fun h => Bool.noConfusion (show false = true from h)), (fun h => Bool.noConfusion (show false = true from h)), (fun h => Bool.noConfusion (show false = true from h)), (fun h => Bool.noConfusion (show false = true from h)), (fun _ _ => rfl), (fun _ _ => rfl), (fun _ _ => rfl), (fun _ _ => rfl), (fun _ _ => rfl), (fun _ _ => rfl), (fun _ _ => rfl), (fun _ _ => rfl), (fun _ _ => rfl), (fun _ _ => rfl), (fun _ _ => rfl), (fun _ _ => rfl), (fun _ _ => rfl), (fun _ _ => rfl), (fun _ _ => rfl), trivial⟩ (fun h k => newer_trans h k) (pickD_stable _ ⟨vIs_st, vIs_st, vIs_st, vIs_st, vIs_st, vIs_st, vIs_st, vIs_st, vIs_st, vIs_st, vIs_st, vIs_st, vIs_st, vIs_st, vIs_st, vIs_st, vIs_st, vIs_st, vIs_st, vIs_st, trivial⟩) (Below.refl _ w8).drew (Below.refl _ _) ?_ ?_)
          · refine ⟨.inr ?_, .inr ?_, .inr ?_, .inr ?_, .inr ?_, .inl rfl, .inl rfl, .inl rfl, .inl rfl, .inl rfl, .inl rfl, .inl rfl, .inl rfl, .inl rfl, .inl rfl, .inl rfl, .inl rfl, .inl rfl, .inl rfl, .inl rfl, trivial⟩
            · intro a W hG hR hO hp
              have h7 := hO.slot 7 (by kernel_rfl)
              have c0 := keep_cell f0 hG
              refine kY (v := mayV w.heap.size) hG rfl ?_
              simp [slotOf] at h7
              simp [execOp, go_sem, h7, c0]
            · intro a W hG hR hO hp
              have h8 := hO.slot 8 (by kernel_rfl)
              have c0 := keep_cell i0 hG
              refine kY (v := .int .i64 i) hG rfl ?_
              simp [slotOf] at h8
              simp [execOp, go_sem, h8, c0]
            · intro a W hG hR hO hp
              have h11 := hO.slot 11 (by kernel_rfl)
              have c0 := keep_cell m0 hG
              have c1 := keep_cell m1 hG
              refine kY (v := mvV m) hG rfl ?_
              simp [slotOf] at h11
              simp [execOp, go_sem, h11, c0, c1]
            · intro a W hG hR hO hp
              have h32 : slotOf a 32 = mayV w.heap.size := hp.1
              have h33 : slotOf a 33 = .int .i64 i := hp.2.1
              have h34 : slotOf a 34 = mvV m := hp.2.2.1
              refine wp_enters (f := 92) (args := #[.pointer (some ⟨w.heap.size + 1, 0, none⟩), vi i, mvV m]) ?_ ((HMAY.out W (HJ.out.next hG)).mono ?_)
              · simp [slotOf] at h32 h33 h34
                simp [execOp, go_sem, h32, h33, h34]
              · rintro e w' ⟨rfl, hb⟩
                exact ⟨_, rfl, _, rfl, rfl, hb, below_next hG hb⟩
            · exact fun a W hG _ _ hp => kM 35 rfl hp.1 rfl hG
          · intro w9 hG hR
            rintro _ rfl _ rfl _ rfl _ rfl _ rfl _ rfl _ rfl _ rfl _ rfl _ rfl _ rfl _ rfl _ rfl _ rfl _ rfl _ rfl _ rfl _ rfl _ rfl _ rfl
            change wpList _ _ _ _ _ _
            simp only [Act.put, List.setIfInBounds_toArray, List.set_cons_zero, List.set_cons_succ, List.drop_succ_cons, List.drop_zero]
            have HJ2 := Lib.hid (HJ.out.next hG)
            have HX8 : Hid (w9.heap[D + 1]? = some (.loop (busyOf r0)) ∧ AtB y ks ka kc w.heap.size i ms Ds A c p ib nb mb cb D ib (((movesL p).take (k + 1)).filter (comeB y.s ks i)) r0 w (w9.putObj (D + 1) (.loop r0))) := Lib.hid ⟨HJ2.out.lo, by rw [take_no HM.out.1 HC.out]; exact HJ2.out.put r0⟩
            clear hG hR HJ HXB f0 i0 m0 m1 v0
            go_wp2_with fail
            refine onlyN_intro ?_
            gi_wp2_with fail
            exact ⟨HX8.out.1, rfl, HX8.out.2⟩
        | true =>
          by_cases hi0 : i = 0
          · have hz : ((i : Int) == 0) = true := by rw [beq_iff_eq]; omega
            have HC := Lib.hid (show comeB y.s ks i m = true by rw [HCO.out]; simp [hi0])
            gi_wp2_with fail
            refine round_words (by kernel_rfl) (by kernel_rfl) (fun _ _ h => h) (region_told_u 20 (by kernel_rfl) (by kernel_rfl) [false, false, false, false, false, false, false, false, true, true, true, true, true, true, true, true, true, true, true, false] (fun W => Below w8.heap.size w8 W) newer [vIs (mayV w.heap.size), vIs (.int .i64 i), vIs (mvV m), vIs (.bool true), vIs (.bool true), vIs (.int .i64 i), vIs (.bool true), vIs (.bool true), vIs (undef), vIs (undef), vIs (undef), vIs (undef), vIs (undef), vIs (undef), vIs (undef), vIs (undef), vIs (undef), vIs (undef), vIs (undef), vIs (.bool true)] ⟨rfl, rfl, rfl, rfl, rfl, (fun v W h => by obtain rfl : v = _ := h; rfl), (fun v W h => by obtain rfl : v = _ := h; rfl), (fun v W h => by obtain rfl : v = _ := h; rfl), (fun v W h => by obtain rfl : v = _ := h; simp), (fun v W h => by obtain rfl : v = _ := h; simp), (fun v W h => by obtain rfl : v = _ := h; simp), (fun v W h => by obtain rfl : v = _ := h; simp), (fun v W h => by obtain rfl : v = _ := h; simp), (fun v W h => by obtain rfl : v = _ := h; simp), (fun v W h => by obtain rfl : v = _ := h; simp), (fun v W h => by obtain rfl : v = _ := h; simp), (fun v W h => by obtain rfl : v = _ := h; simp), (fun v W h => by obtain rfl : v = _ := h; simp), (fun v W h => by obtain rfl : v = _ := h; simp), (fun v W h => by obtain rfl : v = _ := h; rfl), trivial⟩ ⟨(fun h => Bool.noConfusion (show false = true from h)), (fun h => Bool.noConfusion (show false = true from h)), (fun h => Bool.noConfusion (show false = true from h)), (fun h => Bool.noConfusion (show false = true from h)), (fun h => Bool.noConfusion (show false = true from h)), (fun h => Bool.noConfusion (show false = true from h)), (fun h => Bool.noConfusion (show false = true from h)), (fun h => Bool.noConfusion (show false = true from h)), (fun _ _ => rfl), (fun _ _ => rfl), (fun _ _ => rfl), (fun _ _ => rfl), (fun _ _ => rfl), (fun _ _ => rfl), (fun _ _ => rfl), (fun _ _ => rfl), (fun _ _ => rfl), (fun _ _ => rfl), (fun _ _ => rfl), (fun h => Bool.noConfusion (show false = true from h)), trivial⟩ (fun h k => newer_trans h k) (pickD_stable _ ⟨vIs_st, vIs_st, vIs_st, vIs_st, vIs_st, vIs_st, vIs_st, vIs_st, vIs_st, vIs_st, vIs_st, vIs_st, vIs_st, vIs_st, vIs_st, vIs_st, vIs_st, vIs_st, vIs_st, vIs_st, trivial⟩) (Below.refl _ w8).drew (Below.refl _ _) ?_ ?_)
            · refine ⟨.inr ?_, .inr ?_, .inr ?_, .inr ?_, .inr ?_, .inr ?_, .inr ?_, .inr ?_, .inl rfl, .inl rfl, .inl rfl, .inl rfl, .inl rfl, .inl rfl, .inl rfl, .inl rfl, .inl rfl, .inl rfl, .inl rfl, .inr ?_, trivial⟩
              · intro a W hG hR hO hp
                have h7 := hO.slot 7 (by kernel_rfl)
                have c0 := keep_cell f0 hG
                refine kY (v := mayV w.heap.size) hG rfl ?_
                simp [slotOf] at h7
                simp [execOp, go_sem, h7, c0]
              · intro a W hG hR hO hp
                have h8 := hO.slot 8 (by kernel_rfl)
                have c0 := keep_cell i0 hG
                refine kY (v := .int .i64 i) hG rfl ?_
                simp [slotOf] at h8
                simp [execOp, go_sem, h8, c0]
              · intro a W hG hR hO hp
                have h11 := hO.slot 11 (by kernel_rfl)
                have c0 := keep_cell m0 hG
                have c1 := keep_cell m1 hG
                refine kY (v := mvV m) hG rfl ?_
                simp [slotOf] at h11
                simp [execOp, go_sem, h11, c0, c1]
              · intro a W hG hR hO hp
                have h32 : slotOf a 32 = mayV w.heap.size := hp.1
                have h33 : slotOf a 33 = .int .i64 i := hp.2.1
                have h34 : slotOf a 34 = mvV m := hp.2.2.1
                refine wp_enters (f := 92) (args := #[.pointer (some ⟨w.heap.size + 1, 0, none⟩), vi i, mvV m]) ?_ ((HMAY.out W (HJ.out.next hG)).mono ?_)
                · simp [slotOf] at h32 h33 h34
                  simp [execOp, go_sem, h32, h33, h34]
                · rintro e w' ⟨rfl, hb⟩
                  exact ⟨_, rfl, _, rfl, rfl, hb, below_next hG hb⟩
              · exact fun a W hG _ _ hp => kM 35 rfl hp.1 rfl hG
              · intro a W hG hR hO hp
                have h8 := hO.slot 8 (by kernel_rfl)
                have c0 := keep_cell i0 hG
                refine kY (v := .int .i64 i) hG rfl ?_
                simp [slotOf] at h8
                simp [execOp, go_sem, h8, c0]
              · intro a W hG hR hO hp
                have h37 : slotOf a 37 = .int .i64 i := hp.1
                refine kY (v := .bool true) hG rfl ?_
                simp [slotOf] at h37
                simp [execOp, go_sem, h37, hz]
              · exact fun a W hG _ _ hp => kM 38 rfl hp.1 rfl hG
              · intro a W hG hR hO hp
                have h39 : slotOf a 39 = .bool true := hp.1
                have h50 : slotOf a 50 = undef := hp.2.1
                refine kY (v := .bool true) hG rfl ?_
                simp [slotOf] at h39 h50
                simp [execOp, go_sem, h39, h50]
            · intro w9 hG hR
              rintro _ rfl _ rfl _ rfl _ rfl _ rfl _ rfl _ rfl _ rfl _ rfl _ rfl _ rfl _ rfl _ rfl _ rfl _ rfl _ rfl _ rfl _ rfl _ rfl _ rfl
              change wpList _ _ _ _ _ _
              simp only [Act.put, List.setIfInBounds_toArray, List.set_cons_zero, List.set_cons_succ, List.drop_succ_cons, List.drop_zero]
              clear hz
              have hj2 := HJ.out.next hG
              have hxm := HXB.out.below hG HXB.out.lt
              have n0 := hj2.nx.at 0 (v := .map (some mb)) rfl
              have y0 := hxm.at 0 (v := vi m.1) rfl
              have y1 := hxm.at 1 (v := vi m.2) rfl
              have HJ2 := Lib.hid hj2
              have HNEW := Lib.hid (take_new (moves_nodup p) (f := comeB y.s ks i) HM.out.1)
              clear hG hR HJ HXB f0 i0 m0 m1 v0 hj2 hxm
              go_wp2_with fail
              refine onlyN_intro ?_
              gi_wp2_with (gi_at_mapUpdate; refine wpListIn_update_s _ rfl _ _ _ 128 rfl mv_key Try.underlying128 mb _ rfl HJ2.out.mx m () rfl rfl HNEW.out ?_; intro ob hkm; have HJ3 := Lib.hid (HJ2.out.lay_ ob (by rw [kvL_snoc, ← take_yes HM.out.1 HC.out] at hkm; exact hkm)); have HX8 := Lib.hid (And.intro HJ3.out.lo (HJ3.out.put r0)); clear hkm)
              exact ⟨HX8.out.1, rfl, HX8.out.2⟩
          · have hz : ((i : Int) == 0) = false := by rw [beq_eq_false_iff_ne]; omega
            obtain ⟨i2, hi2e⟩ : ∃ i2, i = i2 + 1 := ⟨i - 1, by omega⟩
            have hi2 : IntKind.i64.wrap ((i : Int) - 1) = (i2 : Int) := by rw [show (i : Int) - 1 = i2 by omega]; have := HSD.out.spots; exact IntWalk.i64_in _ (by omega)
            have hi3 : (i2 : Int) < i := by omega
            obtain ⟨pm, hpm⟩ : ∃ q, ms[i2]? = some q := ⟨_, List.getElem?_eq_getElem (by have := HJ.out.at_.ln; omega)⟩
            obtain ⟨ab, ao, ea, hab, a0⟩ := rowM HJ.out.at_.row hpm
            have l6 := HJ.out.at_.lk.at 6 (v := .slice A i c) rfl
            rw [ea] at l6
            have HNR := Lib.hid (fun W (h : AtB y ks ka kc w.heap.size i ms Ds A c p ib nb mb cb D ib (((movesL p).take k).filter (comeB y.s ks i)) (busyOf r0) w W) => near_any y (w.heap.size + 1) pm (fwS y.s ks i2) m ka ks.length kc (.slice A i c) W HSD.out h.at_.lk (h.at_.mp i2 pm hpm (by omega)) HM.out.2.1 HM.out.2.2 fun o ho => fw_bd HSD.out (by omega) ho)
            obtain ⟨nr, hnr⟩ : ∃ q, q = (fwS y.s ks i2).any fun o => nearB y.s.strain o m := ⟨_, rfl⟩
            rw [← hnr] at HNR
            have HC := Lib.hid (show comeB y.s ks i m = nr by rw [HCO.out, hnr, hi2e]; simp)
            clear hnr hpm hab ea hi2e
            gi_wp2_with fail
            refine round_words (by kernel_rfl) (by kernel_rfl) (fun _ _ h => h) (region_told_u 20 (by kernel_rfl) (by kernel_rfl) [false, false, false, false, false, false, false, false, false, false, false, false, false, false, false, false, false, false, false, false] (fun W => Below w8.heap.size w8 W) newer [vIs (mayV w.heap.size), vIs (.int .i64 i), vIs (mvV m), vIs (.bool true), vIs (.bool true), vIs (.int .i64 i), vIs (.bool false), vIs (.bool false), vIs (.pointer (some ⟨(w.heap.size + 1), 0, none⟩)), vIs (.pointer (some ⟨(w.heap.size + 1), 0, none⟩)), vIs (.pointer (some ⟨(w.heap.size + 1), 0, none⟩)), vIs (.pointer (some ⟨(w.heap.size + 1), 6, none⟩)), vIs (.slice (some ⟨ab, ao, none⟩) i c), vIs (.int .i64 i), vIs (.int .i64 i2), vIs (.pointer (some ⟨ab, ao + i2, none⟩)), vIs (.map (some pm)), vIs (mvV m), vIs (.bool nr), vIs (.bool nr)] ⟨rfl, rfl, rfl, rfl, rfl, (fun v W h => by obtain rfl : v = _ := h; rfl), (fun v W h => by obtain rfl : v = _ := h; rfl), (fun v W h => by obtain rfl : v = _ := h; rfl), (fun v W h => by obtain rfl : v = _ := h; rfl), (fun v W h => by obtain rfl : v = _ := h; rfl), (fun v W h => by obtain rfl : v = _ := h; rfl), (fun v W h => by obtain rfl : v = _ := h; rfl), (fun v W h => by obtain rfl : v = _ := h; rfl), (fun v W h => by obtain rfl : v = _ := h; rfl), (fun v W h => by obtain rfl : v = _ := h; rfl), (fun v W h => by obtain rfl : v = _ := h; rfl), (fun v W h => by obtain rfl : v = _ := h; rfl), (fun v W h => by obtain rfl : v = _ := h; rfl), (fun v W h => by obtain rfl : v = _ := h; rfl), (fun v W h => by obtain rfl : v = _ := h; rfl), trivial⟩ ⟨(fun h => Bool.noConfusion (show false = true from h)), (fun h => Bool.noConfusion (show false = true from h)), (fun h => Bool.noConfusion (show false = true from h)), (fun h => Bool.noConfusion (show false = true from h)), (fun h => Bool.noConfusion (show false = true from h)), (fun h => Bool.noConfusion (show false = true from h)), (fun h => Bool.noConfusion (show false = true from h)), (fun h => Bool.noConfusion (show false = true from h)), (fun h => Bool.noConfusion (show false = true from h)), (fun h => Bool.noConfusion (show false = true from h)), (fun h => Bool.noConfusion (show false = true from h)), (fun h => Bool.noConfusion (show false = true from h)), (fun h => Bool.noConfusion (show false = true from h)), (fun h => Bool.noConfusion (show false = true from h)), (fun h => Bool.noConfusion (show false = true from h)), (fun h => Bool.noConfusion (show false = true from h)), (fun h => Bool.noConfusion (show false = true from h)), (fun h => Bool.noConfusion (show false = true from h)), (fun h => Bool.noConfusion (show false = true from h)), (fun h => Bool.noConfusion (show false = true from h)), trivial⟩ (fun h k => newer_trans h k) (pickD_stable _ ⟨vIs_st, vIs_st, vIs_st, vIs_st, vIs_st, vIs_st, vIs_st, vIs_st, vIs_st, vIs_st, vIs_st, vIs_st, vIs_st, vIs_st, vIs_st, vIs_st, vIs_st, vIs_st, vIs_st, vIs_st, trivial⟩) (Below.refl _ w8).drew (Below.refl _ _) ?_ ?_)
            · refine ⟨.inr ?_, .inr ?_, .inr ?_, .inr ?_, .inr ?_, .inr ?_, .inr ?_, .inr ?_, .inr ?_, .inr ?_, .inr ?_, .inr ?_, .inr ?_, .inr ?_, .inr ?_, .inr ?_, .inr ?_, .inr ?_, .inr ?_, .inr ?_, trivial⟩
              · intro a W hG hR hO hp
                have h7 := hO.slot 7 (by kernel_rfl)
                have c0 := keep_cell f0 hG
                refine kY (v := mayV w.heap.size) hG rfl ?_
                simp [slotOf] at h7
                simp [execOp, go_sem, h7, c0]
              · intro a W hG hR hO hp
                have h8 := hO.slot 8 (by kernel_rfl)
                have c0 := keep_cell i0 hG
                refine kY (v := .int .i64 i) hG rfl ?_
                simp [slotOf] at h8
                simp [execOp, go_sem, h8, c0]
              · intro a W hG hR hO hp
                have h11 := hO.slot 11 (by kernel_rfl)
                have c0 := keep_cell m0 hG
                have c1 := keep_cell m1 hG
                refine kY (v := mvV m) hG rfl ?_
                simp [slotOf] at h11
                simp [execOp, go_sem, h11, c0, c1]
              · intro a W hG hR hO hp
                have h32 : slotOf a 32 = mayV w.heap.size := hp.1
                have h33 : slotOf a 33 = .int .i64 i := hp.2.1
                have h34 : slotOf a 34 = mvV m := hp.2.2.1
                refine wp_enters (f := 92) (args := #[.pointer (some ⟨w.heap.size + 1, 0, none⟩), vi i, mvV m]) ?_ ((HMAY.out W (HJ.out.next hG)).mono ?_)
                · simp [slotOf] at h32 h33 h34
                  simp [execOp, go_sem, h32, h33, h34]
                · rintro e w' ⟨rfl, hb⟩
                  exact ⟨_, rfl, _, rfl, rfl, hb, below_next hG hb⟩
              · exact fun a W hG _ _ hp => kM 35 rfl hp.1 rfl hG
              · intro a W hG hR hO hp
                have h8 := hO.slot 8 (by kernel_rfl)
                have c0 := keep_cell i0 hG
                refine kY (v := .int .i64 i) hG rfl ?_
                simp [slotOf] at h8
                simp [execOp, go_sem, h8, c0]
              · intro a W hG hR hO hp
                have h37 : slotOf a 37 = .int .i64 i := hp.1
                refine kY (v := .bool false) hG rfl ?_
                simp [slotOf] at h37
                simp [execOp, go_sem, h37, hz]
              · exact fun a W hG _ _ hp => kM 38 rfl hp.1 rfl hG
              · intro a W hG hR hO hp
                have h6 := hO.slot 6 (by kernel_rfl)
                have c0 := keep_cell v0 hG
                refine kY (v := .pointer (some ⟨(w.heap.size + 1), 0, none⟩)) hG rfl ?_
                simp [slotOf] at h6
                simp [execOp, go_sem, h6, c0]
              · intro a W hG hR hO hp
                have h6 := hO.slot 6 (by kernel_rfl)
                have c0 := keep_cell v0 hG
                refine kY (v := .pointer (some ⟨(w.heap.size + 1), 0, none⟩)) hG rfl ?_
                simp [slotOf] at h6
                simp [execOp, go_sem, h6, c0]
              · intro a W hG hR hO hp
                have h41 : slotOf a 41 = .pointer (some ⟨(w.heap.size + 1), 0, none⟩) := hp.1
                refine kY (v := .pointer (some ⟨(w.heap.size + 1), 0, none⟩)) hG rfl ?_
                simp [slotOf] at h41
                simp [execOp, go_sem, h41]
              · intro a W hG hR hO hp
                have h42 : slotOf a 42 = .pointer (some ⟨(w.heap.size + 1), 0, none⟩) := hp.1
                refine kY (v := .pointer (some ⟨(w.heap.size + 1), 6, none⟩)) hG rfl ?_
                simp [slotOf] at h42
                simp [execOp, go_sem, h42]
              · intro a W hG hR hO hp
                have h43 : slotOf a 43 = .pointer (some ⟨(w.heap.size + 1), 6, none⟩) := hp.1
                have c0 := keep_cell l6 hG
                refine kY (v := .slice (some ⟨ab, ao, none⟩) i c) hG rfl ?_
                simp [slotOf] at h43
                simp [execOp, go_sem, h43, c0]
              · intro a W hG hR hO hp
                have h8 := hO.slot 8 (by kernel_rfl)
                have c0 := keep_cell i0 hG
                refine kY (v := .int .i64 i) hG rfl ?_
                simp [slotOf] at h8
                simp [execOp, go_sem, h8, c0]
              · intro a W hG hR hO hp
                have h45 : slotOf a 45 = .int .i64 i := hp.1
                refine kY (v := .int .i64 i2) hG rfl ?_
                simp [slotOf] at h45
                simp [execOp, go_sem, h45, hi2]
              · intro a W hG hR hO hp
                have h44 : slotOf a 44 = .slice (some ⟨ab, ao, none⟩) i c := hp.1
                have h46 : slotOf a 46 = .int .i64 i2 := hp.2.1
                refine kY (v := .pointer (some ⟨ab, ao + i2, none⟩)) hG rfl ?_
                simp [slotOf] at h44 h46
                simp [execOp, go_sem, h44, h46, hi3]
              · intro a W hG hR hO hp
                have h47 : slotOf a 47 = .pointer (some ⟨ab, ao + i2, none⟩) := hp.1
                have c0 := keep_cell a0 hG
                refine kY (v := .map (some pm)) hG rfl ?_
                simp [slotOf] at h47
                simp [execOp, go_sem, h47, c0]
              · intro a W hG hR hO hp
                have h11 := hO.slot 11 (by kernel_rfl)
                have c0 := keep_cell m0 hG
                have c1 := keep_cell m1 hG
                refine kY (v := mvV m) hG rfl ?_
                simp [slotOf] at h11
                simp [execOp, go_sem, h11, c0, c1]
              · intro a W hG hR hO hp
                have h40 : slotOf a 40 = .pointer (some ⟨(w.heap.size + 1), 0, none⟩) := hp.1
                have h48 : slotOf a 48 = .map (some pm) := hp.2.1
                have h49 : slotOf a 49 = mvV m := hp.2.2.1
                refine wp_enters (f := 94) (args := #[.pointer (some ⟨w.heap.size + 1, 0, none⟩), .map (some pm), mvV m]) ?_ ((HNR.out W (HJ.out.next hG)).mono ?_)
                · simp [slotOf] at h40 h48 h49
                  simp [go_sem, h40, h48, h49]
                · rintro e w' ⟨rfl, hb⟩
                  exact ⟨_, rfl, _, rfl, rfl, hb, below_next hG hb⟩
              · intro a W hG hR hO hp
                have h39 : slotOf a 39 = .bool false := hp.1
                have h50 : slotOf a 50 = .bool nr := hp.2.1
                refine kY (v := .bool nr) hG rfl ?_
                simp [slotOf] at h39 h50
                simp [execOp, go_sem, h39, h50]
            · intro w9 hG hR
              rintro _ rfl _ rfl _ rfl _ rfl _ rfl _ rfl _ rfl _ rfl _ rfl _ rfl _ rfl _ rfl _ rfl _ rfl _ rfl _ rfl _ rfl _ rfl _ rfl _ rfl
              change wpList _ _ _ _ _ _
              simp only [Act.put, List.setIfInBounds_toArray, List.set_cons_zero, List.set_cons_succ, List.drop_succ_cons, List.drop_zero]
              clear hz hi2 hi3 a0 l6 HNR
              cases nr with
              | true =>
                have hj2 := HJ.out.next hG
                have hxm := HXB.out.below hG HXB.out.lt
                have n0 := hj2.nx.at 0 (v := .map (some mb)) rfl
                have y0 := hxm.at 0 (v := vi m.1) rfl
                have y1 := hxm.at 1 (v := vi m.2) rfl
                have HJ2 := Lib.hid hj2
                have HNEW := Lib.hid (take_new (moves_nodup p) (f := comeB y.s ks i) HM.out.1)
                clear hG hR HJ HXB f0 i0 m0 m1 v0 hj2 hxm
                go_wp2_with fail
                refine onlyN_intro ?_
                gi_wp2_with (gi_at_mapUpdate; refine wpListIn_update_s _ rfl _ _ _ 128 rfl mv_key Try.underlying128 mb _ rfl HJ2.out.mx m () rfl rfl HNEW.out ?_; intro ob hkm; have HJ3 := Lib.hid (HJ2.out.lay_ ob (by rw [kvL_snoc, ← take_yes HM.out.1 HC.out] at hkm; exact hkm)); have HX8 := Lib.hid (And.intro HJ3.out.lo (HJ3.out.put r0)); clear hkm)
                exact ⟨HX8.out.1, rfl, HX8.out.2⟩
              | false =>
                have HJ2 := Lib.hid (HJ.out.next hG)
                have HX8 : Hid (w9.heap[D + 1]? = some (.loop (busyOf r0)) ∧ AtB y ks ka kc w.heap.size i ms Ds A c p ib nb mb cb D ib (((movesL p).take (k + 1)).filter (comeB y.s ks i)) r0 w (w9.putObj (D + 1) (.loop r0))) := Lib.hid ⟨HJ2.out.lo, by rw [take_no HM.out.1 HC.out]; exact HJ2.out.put r0⟩
                clear hG hR HJ HXB f0 i0 m0 m1 v0
                go_wp2_with fail
                refine onlyN_intro ?_
                gi_wp2_with fail
                exact ⟨HX8.out.1, rfl, HX8.out.2⟩
      · rintro e W ⟨⟨v, rfl⟩, hj⟩
        refine ⟨⟨_, rfl⟩, .inl ⟨hj.lo, ?_⟩⟩
        have hj5 := hj.put (overOf r0)
        rw [List.take_of_length_le (Nat.le_refl _), ← fwS_at HPK.out.2.1] at hj5
        obtain ⟨D, hD⟩ : ∃ D, D = w3.heap.size := ⟨_, rfl⟩
        rw [← hD] at hj5 ⊢
        obtain ⟨we, hwe⟩ : ∃ we, we = W.putObj (D + 1) (.loop (overOf r0)) := ⟨_, rfl⟩
        rw [← hwe] at hj5 ⊢
        have hDm : D ∉ Ds := fun hm => by have := hj5.lm.d _ hm; have := hj5.so; omega
        have hmks : MarksOk (D :: Ds) we := ⟨List.nodup_cons.2 ⟨hDm, hj5.at_.mks.nd⟩, fun E hE => by
          rcases List.mem_cons.1 hE with rfl | hE
          · exact hj5.df
          · exact hj5.at_.mks.at_ E hE⟩
        have hdg : ∀ E ∈ D :: Ds, w.heap.size + 4 ≤ E := fun E hE => by
          rcases List.mem_cons.1 hE with rfl | hE
          · have := hj5.so; have := hj5.lm.n; omega
          · exact hj5.at_.dg E hE
        have hmd : ∀ m ∈ ms, m ∉ D :: Ds ∧ (Value.slice A i c).ownBlock ≠ some m := fun m hm => ⟨fun hE => by
          rcases List.mem_cons.1 hE with rfl | hE
          · have := hj5.so; have := hj5.lm.m _ hm; omega
          · exact (hj5.at_.md m hm).1 hE, (hj5.at_.md m hm).2⟩
        have hat : AtL y ks ka kc w.heap.size i y.s.spots.length (fwS y.s ks) ms (D :: Ds) A c w we := ⟨hj5.at_.nw, hj5.at_.b0, hj5.at_.lk, hj5.at_.xv, hj5.at_.fv, hj5.at_.ow, hj5.at_.ln, hj5.at_.mp, hj5.at_.ml, hmd, hj5.at_.nd, hmks, hdg, hj5.at_.wb⟩
        have HE := Lib.hid (And.intro hat (And.intro hj5.mx (And.intro hj5.nx (And.intro hj5.lm hj5.so))))
        have n0 := hj5.nx.at 0 (v := .map (some mb)) rfl
        have v0 := hat.xv.at 0 (v := .pointer (some ⟨w.heap.size + 1, 0, none⟩)) rfl
        have HKV := Lib.hid (show (kvL (fwS y.s ks i)).length = (fwS y.s ks i).length by unfold kvL; rw [List.length_map])
        clear hj hj5 hwe hDm hmks hdg hmd hat hD H3 hpk r1 r2 r3 r4 r5 r6 W
        by_cases hnil : fwS y.s ks i = []
        · have hz : (((kvL (fwS y.s ks i)).length : Nat) : Int) = 0 := by rw [HKV.out, hnil]; rfl
          have HOF := Lib.hid (show okS y.s ks = false by
            unfold okS
            rw [List.all_eq_false]
            exact ⟨i, List.mem_range.2 hlt, by rw [hnil]; decide⟩)
          clear hnil
          go_wp2_with (at_len; go_loud (refine wpList_len_s _ rfl _ 128 rfl Try.underlying128 mb _ rfl HE.out.2.1 ?_; rw [hz]))
          refine leaves_marks (D :: Ds) _ HE.out.1.mks ?_
          intro W2 k1 k2 k3 k4 k5
          exact ⟨.tuple #[.pointer (some ⟨w.heap.size + 1, 0, none⟩), .bool false], by simp [results, Try.results61, go_sem], w.heap.size + 1, by rw [HOF.out], newer_shut HE.out.1.nw (fun E hE => by have := HE.out.1.dg E hE; omega) k1 k2 k3 k4 k5, fun h => by rw [HOF.out] at h; cases h⟩
        · have hz : ((((kvL (fwS y.s ks i)).length : Nat) : Int) == 0) = false := by
            rw [HKV.out, beq_eq_false_iff_ne]
            have := List.length_pos_iff.2 hnil
            omega
          have HNE := Lib.hid hnil
          have HNO := Lib.hid (show ∀ q : Nat, q < w.heap.size + 4 → some q ≠ (Value.slice A i c).ownBlock from fun q hq e => by have := own_ge HE.out.1.ow _ e.symm; omega)
          have HNB := Lib.hid (show some nb ≠ (Value.slice A i c).ownBlock from fun e => by have := HE.out.2.2.2.1.a _ e.symm; have := HE.out.2.2.2.2; omega)
          have HNW := Lib.hid (show ∀ q, (Value.slice A i c).ownBlock = some q → q < we.heap.size from own_lt HE.out.1.ow)
          have HSZ := Lib.hid (show w.heap.size + 4 ≤ we.heap.size from HE.out.1.lts.n)
          have HFEW := Lib.hid (show i ≤ 6 by have := HSD.out.spots; omega)
          clear hnil
          go_wp2_with (at_len; go_loud (refine wpList_len_s _ rfl _ 128 rfl Try.underlying128 mb _ rfl HE.out.2.1 ?_))
          have hfew := HFEW.out
          refine wp_words (by kernel_rfl) (region_tale 10 (by kernel_rfl) (by kernel_rfl) 7 (fun W => we.grownBy W (Value.slice A i c).ownBlock) (fun W => W.ownsRow (w.heap.size + 4) 128 1 (.slice A i c) i (ms.flatMap mapL) ∧ newer we W) (relAt 7 (fun W W' => W.grownBy W' (Value.slice A i c).ownBlock)) (pickD [vIs (.pointer (some ⟨w.heap.size + 1, 0, none⟩)), vIs (.pointer (some ⟨w.heap.size + 1, 0, none⟩)), vIs (.pointer (some ⟨w.heap.size + 1, 0, none⟩)), vIs (.pointer (some ⟨w.heap.size + 1, 6, none⟩)), vIs (.slice A i c), vIs (.map (some mb)), vOne we.heap.size 128 #[.map (some mb)], vOnG (w.heap.size + 4) 128 A i c (ms.flatMap mapL) (.map (some mb)) we, vIs (.pointer (some ⟨w.heap.size + 1, 0, none⟩)), vIs (.pointer (some ⟨w.heap.size + 1, 6, none⟩))]) (allBut_ok (fun _ _ h => grown_of_newer h _) _ ⟨vIs_st, vIs_st, vIs_st, vIs_st, vIs_st, vIs_st, vOne_grown HNW.out, vOnG_st, vIs_st, vIs_st, trivial⟩) (by decide) (grown_drew (grown_refl _ _)) ⟨HE.out.1.ow, (Below.refl _ _).drew⟩ ?_ ?_)
          · refine ⟨?_, ?_, ?_, ?_, ?_, ?_, ?_, ?_, ?_, ?_, trivial⟩
            · intro a W hG hG1 hO hp
              have h6 := hO.slot 6 (by kernel_rfl)
              have c0 := (HE.out.1.xv.grown hG (HNO.out (w.heap.size + 1 + 1) (by omega))).at 0 (v := .pointer (some ⟨w.heap.size + 1, 0, none⟩)) rfl
              refine wp_yields (v := .pointer (some ⟨w.heap.size + 1, 0, none⟩)) ?_ ⟨_, rfl, rfl, newer_refl _, hG, fun _ h => h⟩
              simp [slotOf] at h6
              simp [execOp, go_sem, h6, c0]
            · intro a W hG hG1 hO hp
              have h6 := hO.slot 6 (by kernel_rfl)
              have c0 := (HE.out.1.xv.grown hG (HNO.out (w.heap.size + 1 + 1) (by omega))).at 0 (v := .pointer (some ⟨w.heap.size + 1, 0, none⟩)) rfl
              refine wp_yields (v := .pointer (some ⟨w.heap.size + 1, 0, none⟩)) ?_ ⟨_, rfl, rfl, newer_refl _, hG, fun _ h => h⟩
              simp [slotOf] at h6
              simp [execOp, go_sem, h6, c0]
            · intro a W hG hG1 hO hp
              have h60 : slotOf a 60 = .pointer (some ⟨w.heap.size + 1, 0, none⟩) := hp.1
              refine wp_yields (v := .pointer (some ⟨w.heap.size + 1, 0, none⟩)) ?_ ⟨_, rfl, rfl, newer_refl _, hG, fun _ h => h⟩
              simp [slotOf] at h60
              simp [execOp, go_sem, h60]
            · intro a W hG hG1 hO hp
              have h61 : slotOf a 61 = .pointer (some ⟨w.heap.size + 1, 0, none⟩) := hp.1
              refine wp_yields (v := .pointer (some ⟨w.heap.size + 1, 6, none⟩)) ?_ ⟨_, rfl, rfl, newer_refl _, hG, fun _ h => h⟩
              simp [slotOf] at h61
              simp [execOp, go_sem, h61]
            · intro a W hG hG1 hO hp
              have h62 : slotOf a 62 = .pointer (some ⟨w.heap.size + 1, 6, none⟩) := hp.1
              have c0 := (HE.out.1.lk.grown hG (HNO.out (w.heap.size + 1) (by omega))).at 6 (v := .slice A i c) rfl
              refine wp_yields (v := .slice A i c) ?_ ⟨_, rfl, rfl, newer_refl _, hG, fun _ h => h⟩
              simp [slotOf] at h62
              simp [execOp, go_sem, h62, c0]
            · intro a W hG hG1 hO hp
              have h10 := hO.slot 10 (by kernel_rfl)
              have c0 := (HE.out.2.2.1.grown hG HNB.out).at 0 (v := .map (some mb)) rfl
              refine wp_yields (v := .map (some mb)) ?_ ⟨_, rfl, rfl, newer_refl _, hG, fun _ h => h⟩
              simp [slotOf] at h10
              simp [execOp, go_sem, h10, c0]
            · intro a W hG hG1 hO hp
              have h64 : slotOf a 64 = .map (some mb) := hp.1
              refine wp_makes (v := .slice (some ⟨W.heap.size, 0, none⟩) 1 1) (W' := W.alloc (.cells #[.map (some mb)] 128)) ?_ ⟨_, rfl, ⟨_, rfl, hG.size, Whole.made _ _ _⟩, newer_allocH _ _, grown_alloc hG _, fun _ h => ⟨own_below h.1 (newer_allocH _ _), newer_trans h.2 (newer_allocH _ _)⟩⟩
              simp [slotOf] at h64
              simp [execOp, go_sem, h64]
            · intro a W hG hG1 hO hp
              have h63 : slotOf a 63 = .slice A i c := hp.1
              have h65 := hp.2.1
              obtain ⟨nb2, h65, hnb2, hW⟩ := h65
              obtain ⟨ho, hnw⟩ := hG1 rfl
              obtain ⟨i0, hi0, hz0, hz1, hz2⟩ := info_parts info_map
              refine wp_append_one (.tmp 63) (.tmp 65) 124 rfl (w.heap.size + 4) 128 i0 (.map none) 8 Try.underlying124 hi0 hz0 hz1 hz2 rfl A i c (ms.flatMap mapL) ((eval_slot a 63).trans h63) ho ⟨nb2, 0, none⟩ 1 (.map (some mb)) ((eval_slot a 65).trans h65) (hW.at 0 rfl) rfl (by have := HFEW.out; unfold maxLen; omega) (by have := HFEW.out; omega) (Nat.le_trans HSZ.out hG.size) ?_
              intro g c' w1 hown hon0
              have hon : Onto1 A c g c' W w1 := hon0
              exact ⟨_, rfl, ⟨g, c', rfl, hown, hon.ahead hnw⟩, hon.grown, grown_trans' hG hon.grown, fun e => absurd rfl e⟩
            · intro a W hG hG1 hO hp
              have h59 : slotOf a 59 = .pointer (some ⟨w.heap.size + 1, 0, none⟩) := hp.1
              refine wp_yields (v := .pointer (some ⟨w.heap.size + 1, 0, none⟩)) ?_ ⟨_, rfl, rfl, newer_refl _, hG, fun _ h => h⟩
              simp [slotOf] at h59
              simp [execOp, go_sem, h59]
            · intro a W hG hG1 hO hp
              have h67 : slotOf a 67 = .pointer (some ⟨w.heap.size + 1, 0, none⟩) := hp.1
              refine wp_yields (v := .pointer (some ⟨w.heap.size + 1, 6, none⟩)) ?_ ⟨_, rfl, rfl, newer_refl _, hG, fun _ h => h⟩
              simp [slotOf] at h67
              simp [execOp, go_sem, h67]
          · intro W hG
            rintro _ rfl _ rfl _ rfl _ rfl _ rfl _ rfl _ hv65 _ ⟨g, c2, rfl, hown, hon⟩ _ rfl _ rfl
            change wpList _ _ _ _ _ _
            simp only [Act.put, List.setIfInBounds_toArray, List.set_cons_zero, List.set_cons_succ, List.drop_succ_cons, List.drop_zero]
            have k1 := HE.out.1.lk.grown hG (HNO.out (w.heap.size + 1) (by omega))
            have l6 := k1.at 6 (v := .slice A i c) rfl
            have lf := k1.free 6
            have HA := Lib.hid (HE.out.1.add (mb := mb) HPK.out.2.2 HE.out.2.1 (by have := HE.out.2.2.2.1.n; have := HE.out.2.2.2.2; omega) (fun hm => by have := HE.out.2.2.2.1.m _ hm; have := HE.out.2.2.2.2; omega) (fun hE => by
              rcases List.mem_cons.1 hE with e | hE
              · have := HE.out.2.2.2.2; omega
              · have := HE.out.2.2.2.1.d _ hE; have := HE.out.2.2.2.2; omega) hown hon)
            clear k1 hG hown hon n0 v0 hz hv65
            go_wp2_with fail
            rw [← HES.out, show ((i : Int) + 1) = ((i + 1 : Nat) : Int) from rfl]
            refine ⟨AtR.intro (i + 1) (ms ++ [mb]) (D :: Ds) (some ⟨g, 0, none⟩) c2 _ _ _ _ _ _ _ _ _ _ _ _ _ _ _ _ _ _ _ _ _ _ _ _ _ _ _ _ _ _ _ _ _ _ _ _ _ _ _ _ _ _ _ _ _ _ _ _ _ _ _ _ _ _ _ _ _ _ _ _ _ _ _ _ _ _ _ _ _ _ _ _ _ _ _ _ _ _ _ _ _ _ _ _ _ _ _ _ _ _ _ _ _ _ _ _ _ _ _ _ _ _ _ ⟨HA.out, fun j hj => ?_, by rw [List.length_cons, HQ.out.2.1], by have := HPK.out.2.2; omega⟩, ?_⟩
            · by_cases e : j = i
              · rw [e]
                exact HNE.out
              · exact HQ.out.1 j (by omega)
            · have h1 := HQ.out.2.1
              have h2 := HAL.out
              have h3 := HPK.out.2.2
              simp
              omega
    · obtain rfl : i = y.s.spots.length := by have := HJ.out.le; omega
      have HOT := Lib.hid (show okS y.s ks = true by
        unfold okS
        rw [List.all_eq_true]
        intro j hj
        have h1 := HJ.out.ne j (List.mem_range.1 hj)
        cases hl : fwS y.s ks j with
        | nil => exact absurd hl h1
        | cons a l => rfl)
      have hn := HSD.out.spots
      have v0 := HJ.out.at_.xv.at 0 (v := .pointer (some ⟨w.heap.size + 1, 0, none⟩)) rfl
      have l6 := HJ.out.at_.lk.at 6 (v := .slice A y.s.spots.length c) rfl
      have HA : Hid (AtL y ks ka kc w.heap.size y.s.spots.length y.s.spots.length (LsT y.s ks (y.s.spots.length - 1)) ms Ds A c w W) := Lib.hid (by
        have h := HJ.out.at_
        refine ⟨h.nw, h.b0, h.lk, h.xv, h.fv, h.ow, h.ln, fun j m hm hx => ?_, h.ml, h.md, h.nd, h.mks, h.dg, h.wb⟩
        have h1 := h.mp j m hm hx
        have h2 := (List.getElem?_eq_some_iff.1 hm).1
        rw [h.ln] at h2
        unfold LsT
        by_cases e : y.s.spots.length - 1 ≤ j
        · obtain rfl : j = y.s.spots.length - 1 := by omega
          rw [if_pos e, alive_last (by omega)]
          exact h1
        · rw [if_neg e]
          exact h1)
      clear HJ HAL
      go_upto_region 16 with fail
      clear v0 l6
      refine wp_loop (AtR2 y ks ka kc ms Ds A c w) (fun a _ => (intOf (slotOf a 12) + 1).toNat) ?_ ?_
      · exact AtR2.intro (y.s.spots.length - 1) ((y.s.spots.length : Int) - 2) _ _ _ _ _ _ _ _ _ _ _ _ _ _ _ _ _ _ _ _ _ _ _ _ _ _ _ _ _ _ _ _ _ _ _ _ _ _ _ _ _ _ _ _ _ _ _ _ _ _ _ _ _ _ _ _ _ _ _ _ _ _ _ _ _ _ _ _ _ _ _ _ _ _ _ _ _ _ _ _ _ _ _ _ _ _ _ _ _ _ _ _ _ _ _ _ _ _ _ _ _ _ _ _ _ ⟨HA.out, by omega, by omega⟩
      · intro a W hJ
        refine AtR2.elim hJ ?_
        clear hJ HA z3 z8 z9 z10 z11 z12 z13 z14 z15 z16 z17 z18 z19 z20 z24 z25 z26 z27 z28 z29 z30 z31 z32 z33 z34 z35 z36 z37 z38 z39 z40 z41 z42 z43 z44 z45 z46 z47 z48 z49 z50 z51 z52 z53 z54 z55 z56 z57 z58 z59 z60 z61 z62 z63 z64 z65 z66 z67 z68 z69 z70 z71 z72 z73 z74 z75 z76 z77 z78 z79 z80 z81 z82 z83 z84 z85 z86 z87 z88 z89 z90 z91 z92 z93 z94 z95 z96 z97 z98 z99 z100 z101 z102 z103 z104 z105 z106 z107 z108 z109 z110 z111 z112
        intro t u z3 z8 z9 z10 z11 z13 z14 z15 z16 z17 z18 z19 z20 z21 z22 z23 z24 z25 z26 z27 z28 z29 z30 z31 z32 z33 z34 z35 z36 z37 z38 z39 z40 z41 z42 z43 z44 z45 z46 z47 z48 z49 z50 z51 z52 z53 z54 z55 z56 z57 z58 z59 z60 z61 z62 z63 z64 z65 z66 z67 z68 z69 z70 z71 z72 z73 z74 z75 z76 z77 z78 z79 z80 z81 z82 z83 z84 z85 z86 z87 z88 z89 z90 z91 z92 z93 z94 z95 z96 z97 z98 z99 z100 z101 z102 z103 z104 z105 z106 z107 z108 z109 z110 z111 z112 hJ hal
        have HAL := Lib.hid hal
        clear hal
        have HJ := Lib.hid hJ
        have htu := hJ.tu
        have hle := hJ.le
        clear hJ
        by_cases ht0 : t = 0
        · have hu : ¬ ((0 : Int) ≤ u) := by omega
          have v0 := HJ.out.at_.xv.at 0 (v := .pointer (some ⟨w.heap.size + 1, 0, none⟩)) rfl
          go_wp2_with fail
          refine leaves_marks Ds _ HJ.out.at_.mks ?_
          intro W2 k1 k2 k3 k4 k5
          have HS2 := Lib.hid (HJ.out.at_.shut k1 k2 k3 k4 k5)
          refine ⟨.tuple #[.pointer (some ⟨w.heap.size + 1, 0, none⟩), .bool true], by simp [results, Try.results61, go_sem], w.heap.size + 1, by rw [HOT.out], HS2.out.nw, fun _ => ⟨ms, A, c, ⟨ka, ks.length, kc, HS2.out.lk⟩, Nat.le_succ _, own_more HS2.out.ow (Nat.le_add_right _ _), HS2.out.ln, fun m hm => Nat.le_trans (Nat.le_add_right _ 4) (HS2.out.ml m hm).1, fun j m hm => ?_⟩⟩
          have h1 := HS2.out.mp j m hm (by have := (List.getElem?_eq_some_iff.1 hm).1; have := HS2.out.ln; omega)
          unfold LsT at h1
          rw [if_pos (by omega)] at h1
          exact h1
        · obtain ⟨t2, rfl⟩ : ∃ t2, t = t2 + 1 := ⟨t - 1, by omega⟩
          obtain rfl : u = (t2 : Int) := by omega
          have ht4 : (t2 : Int) < y.s.spots.length := by omega
          obtain ⟨mi, hmi⟩ : ∃ q, ms[t2]? = some q := ⟨_, List.getElem?_eq_getElem (by have := HJ.out.at_.ln; omega)⟩
          obtain ⟨mt, hmt⟩ : ∃ q, ms[t2 + 1]? = some q := ⟨_, List.getElem?_eq_getElem (by have := HJ.out.at_.ln; omega)⟩
          have HMI := Lib.hid (And.intro hmi hmt)
          obtain ⟨ab, ao, ea, hab, a1⟩ := rowM HJ.out.at_.row hmi
          have v0 := HJ.out.at_.xv.at 0 (v := .pointer (some ⟨w.heap.size + 1, 0, none⟩)) rfl
          have l6 := HJ.out.at_.lk.at 6 (v := .slice A y.s.spots.length c) rfl
          rw [ea] at l6
          have HEA := Lib.hid ea
          have HKM := Lib.hid (show KMap mvV trV mi (kvL (fwS y.s ks t2)) W from by
            have h1 := HJ.out.at_.mp t2 mi hmi (by omega)
            unfold LsT at h1
            rw [if_neg (by omega)] at h1
            exact h1)
          have HLE := Lib.hid hle
          clear hmi hmt hab ea htu hle ht0
          go_wp2_with (at_range; refine wpList_range_s _ rfl _ 128 rfl Try.underlying128 mi (kvL (fwS y.s ks t2)) rfl HKM.out ?_; intro w6 hn6 hit6)
          obtain ⟨r, hr⟩ : ∃ r, r = W.heap.size := ⟨_, rfl⟩
          have HLT := Lib.hid (hr ▸ HJ.out.at_.lts)
          rw [← hr] at hit6 ⊢
          rw [kv_keys] at hit6
          have H6 := Lib.hid (And.intro (HJ.out.at_.next hn6) hit6)
          clear hn6 hit6 hr HJ HKM v0 l6 a1
          go_frame
          obtain ⟨good, hgd⟩ : ∃ q : Mv → Bool, q = fun m => (aliveS y.s ks (t2 + 1)).any fun o => nearB y.s.strain o m := ⟨_, rfl⟩
          have HGD := Lib.hid hgd
          clear hgd
          go_loopw [13] (fun _ wr => ∃ rem : List Mv, KIter mvV trV mi (kvL (cutL (fwS y.s ks t2) rem good)) r rem wr ∧ AtL y ks ka kc w.heap.size y.s.spots.length t2 (LsT y.s ks (t2 + 1)) ms Ds A c w wr) (fun _ wr => itLeft r wr)
          case atStart => exact ⟨fwS y.s ks t2, by rw [cut_all]; exact H6.out.2, H6.out.1.less (by rw [H6.out.1.ln]; exact Nat.le_refl _) t2⟩
          case round =>
            obtain ⟨rem, hit, hat⟩ := hrel
            have HIT := Lib.hid hit
            have HAT := Lib.hid hat
            clear hit hat H6
            go_wp2_with (at_next; refine wpList_next_s _ rfl _ rfl mi r (kvL (cutL (fwS y.s ks t2) rem good)) rem rfl HIT.out ?_ ?_; (intro hall; have HALL := Lib.hid hall; clear hall); rotate_left 1; (intro p w7 hp hpr hit7 hbel hsz hoth hen; obtain ⟨⟨ox, oy⟩, _⟩ := p; have HP := Lib.hid (And.intro hp hpr); have HIT7 := Lib.hid hit7; have HG7 := Lib.hid (grown_of_next (hbel r (Nat.le_refl _)) hsz hoth); clear hp hpr hit7 hbel hsz hoth))
            · have hat7 := HAT.out.fresh HLT.out (Nat.le_refl _) HG7.out
              have n7 := newer_allocH w7 (.cells #[vi ox, vi oy] 116)
              have HX := Lib.hid (And.intro (hat7.next n7) (And.intro (HIT7.out.next n7) (Whole.made w7 116 #[vi ox, vi oy])))
              obtain ⟨xb, hxb⟩ : ∃ q, q = w7.heap.size := ⟨_, rfl⟩
              rw [← hxb] at HX ⊢
              refine genQ (fun X => AtL y ks ka kc w.heap.size y.s.spots.length t2 (LsT y.s ks (t2 + 1)) ms Ds A c w X ∧ KIter mvV trV mi (kvL (cutL (fwS y.s ks t2) rem good)) r (rem.filter fun k => decide (k ≠ (ox, oy))) X ∧ Whole X xb 116 #[vi ox, vi oy]) HX.out ?_
              have HOI := Lib.hid (show (ox, oy) ∈ fwS y.s ks t2 from by
                have h1 := kv_mem HP.out.1
                unfold cutL at h1
                exact (List.mem_filter.1 h1).1)
              clear HX hxb hat7 n7 hen HIT7 HG7 w7
              rintro w8 ⟨g1, g2, g3⟩
              have HA8 := Lib.hid g1
              have HI8 := Lib.hid g2
              have HX8 := Lib.hid g3
              clear g1 g2 g3
              have ht1' : IntKind.i64.wrap ((t2 : Int) + 1) = ((t2 + 1 : Nat) : Int) := by have := HSD.out.spots; exact IntWalk.i64_in _ (by omega)
              obtain ⟨t1, ht1e⟩ : ∃ q, q = t2 + 1 := ⟨_, rfl⟩
              have ht1 : IntKind.i64.wrap ((t2 : Int) + 1) = (t1 : Int) := by rw [ht1e]; exact ht1'
              have ht3 : (t1 : Int) < y.s.spots.length := by have := HLE.out; omega
              have v0 := HA8.out.xv.at 0 (v := .pointer (some ⟨w.heap.size + 1, 0, none⟩)) rfl
              have l6 := HA8.out.lk.at 6 (v := .slice A y.s.spots.length c) rfl
              have a0 := rowM2 HA8.out.row HEA.out (ht1e ▸ HMI.out.2)
              rw [HEA.out] at l6
              have m0 := HX8.out.at 0 (v := vi ox) rfl
              have m1 := HX8.out.at 1 (v := vi oy) rfl
              have HNR := Lib.hid (fun W (h : AtL y ks ka kc w.heap.size y.s.spots.length t2 (LsT y.s ks (t2 + 1)) ms Ds A c w W) => near_any y (w.heap.size + 1) mt (aliveS y.s ks (t2 + 1)) (ox, oy) ka ks.length kc (.slice A y.s.spots.length c) W HSD.out h.lk (by
                have h1 := h.mp (t2 + 1) mt HMI.out.2 (by omega)
                unfold LsT at h1
                rw [if_pos (Nat.le_refl _)] at h1
                exact h1) (fw_bd HSD.out (by have := HLE.out; omega) HOI.out).1 (fw_bd HSD.out (by have := HLE.out; omega) HOI.out).2 fun o ho => fw_bd HSD.out (by have := HLE.out; omega) (alive_fw (by have := HLE.out; omega) ho))
              have hgo : good (ox, oy) = (aliveS y.s ks (t2 + 1)).any fun o => nearB y.s.strain o (ox, oy) := by rw [HGD.out]
              obtain ⟨nr, hnr⟩ : ∃ q, q = (aliveS y.s ks (t2 + 1)).any fun o => nearB y.s.strain o (ox, oy) := ⟨_, rfl⟩
              rw [← hnr] at HNR hgo
              have HGO := Lib.hid hgo
              clear hnr hgo ht1' ht1e
              refine wp_words (by kernel_rfl) (region_told 11 (by kernel_rfl) (by kernel_rfl) (fun W => Below w8.heap.size w8 W) newer (pickD [vIs (.pointer (some ⟨(w.heap.size + 1), 0, none⟩)), vIs (.pointer (some ⟨(w.heap.size + 1), 0, none⟩)), vIs (.pointer (some ⟨(w.heap.size + 1), 0, none⟩)), vIs (.pointer (some ⟨(w.heap.size + 1), 6, none⟩)), vIs (.slice (some ⟨ab, ao, none⟩) y.s.spots.length c), vIs (.int .i64 t2), vIs (.int .i64 t1), vIs (.pointer (some ⟨ab, ao + t1, none⟩)), vIs (.map (some mt)), vIs (mvV (ox, oy)), vIs (.bool nr)]) (fun h k => newer_trans h k) (pickD_stable _ ⟨vIs_st, vIs_st, vIs_st, vIs_st, vIs_st, vIs_st, vIs_st, vIs_st, vIs_st, vIs_st, vIs_st, trivial⟩) (Below.refl _ w8).drew (Below.refl _ _) ?_ ?_)
              · refine ⟨?_, ?_, ?_, ?_, ?_, ?_, ?_, ?_, ?_, ?_, ?_, trivial⟩
                · intro a W hG hR hO hp
                  have h6 := hO.slot 6 (by kernel_rfl)
                  have c0 := keep_cell v0 hG
                  refine kY (v := .pointer (some ⟨(w.heap.size + 1), 0, none⟩)) hG rfl ?_
                  simp [slotOf] at h6
                  simp [execOp, go_sem, h6, c0]
                · intro a W hG hR hO hp
                  have h6 := hO.slot 6 (by kernel_rfl)
                  have c0 := keep_cell v0 hG
                  refine kY (v := .pointer (some ⟨(w.heap.size + 1), 0, none⟩)) hG rfl ?_
                  simp [slotOf] at h6
                  simp [execOp, go_sem, h6, c0]
                · intro a W hG hR hO hp
                  have h93 : slotOf a 93 = .pointer (some ⟨(w.heap.size + 1), 0, none⟩) := hp.1
                  refine kY (v := .pointer (some ⟨(w.heap.size + 1), 0, none⟩)) hG rfl ?_
                  simp [slotOf] at h93
                  simp [execOp, go_sem, h93]
                · intro a W hG hR hO hp
                  have h94 : slotOf a 94 = .pointer (some ⟨(w.heap.size + 1), 0, none⟩) := hp.1
                  refine kY (v := .pointer (some ⟨(w.heap.size + 1), 6, none⟩)) hG rfl ?_
                  simp [slotOf] at h94
                  simp [execOp, go_sem, h94]
                · intro a W hG hR hO hp
                  have h95 : slotOf a 95 = .pointer (some ⟨(w.heap.size + 1), 6, none⟩) := hp.1
                  have c0 := keep_cell l6 hG
                  refine kY (v := .slice (some ⟨ab, ao, none⟩) y.s.spots.length c) hG rfl ?_
                  simp [slotOf] at h95
                  simp [execOp, go_sem, h95, c0]
                · exact fun a W hG _ hO _ => kM 12 rfl (hO.slot 12 (by kernel_rfl)) rfl hG
                · intro a W hG hR hO hp
                  have h97 : slotOf a 97 = .int .i64 t2 := hp.1
                  refine kY (v := .int .i64 t1) hG rfl ?_
                  simp [slotOf] at h97
                  simp [execOp, go_sem, h97, ht1]
                · intro a W hG hR hO hp
                  have h96 : slotOf a 96 = .slice (some ⟨ab, ao, none⟩) y.s.spots.length c := hp.1
                  have h98 : slotOf a 98 = .int .i64 t1 := hp.2.1
                  refine kY (v := .pointer (some ⟨ab, ao + t1, none⟩)) hG rfl ?_
                  simp [slotOf] at h96 h98
                  simp [execOp, go_sem, h96, h98, ht3]
                · intro a W hG hR hO hp
                  have h99 : slotOf a 99 = .pointer (some ⟨ab, ao + t1, none⟩) := hp.1
                  have c0 := keep_cell a0 hG
                  refine kY (v := .map (some mt)) hG rfl ?_
                  simp [slotOf] at h99
                  simp [execOp, go_sem, h99, c0]
                · intro a W hG hR hO hp
                  have h13 := hO.slot 13 (by kernel_rfl)
                  have c0 := keep_cell m0 hG
                  have c1 := keep_cell m1 hG
                  refine kY (v := mvV (ox, oy)) hG rfl ?_
                  simp [slotOf] at h13
                  simp [execOp, go_sem, h13, c0, c1]
                · intro a W hG hR hO hp
                  have h92 : slotOf a 92 = .pointer (some ⟨(w.heap.size + 1), 0, none⟩) := hp.1
                  have h100 : slotOf a 100 = .map (some mt) := hp.2.1
                  have h101 : slotOf a 101 = mvV (ox, oy) := hp.2.2.1
                  refine wp_enters (f := 94) (args := #[.pointer (some ⟨w.heap.size + 1, 0, none⟩), .map (some mt), mvV (ox, oy)]) ?_ ((HNR.out W (HA8.out.next hG)).mono ?_)
                  · simp [slotOf] at h92 h100 h101
                    simp [go_sem, h92, h100, h101]
                  · rintro e w' ⟨rfl, hb⟩
                    exact ⟨_, rfl, _, rfl, rfl, hb, below_next hG hb⟩
              · intro w9 hG hR
                rintro _ rfl _ rfl _ rfl _ rfl _ rfl _ rfl _ rfl _ rfl _ rfl _ rfl _ rfl
                change wpList _ _ _ _ _ _
                simp only [Act.put, List.setIfInBounds_toArray, List.set_cons_zero, List.set_cons_succ, List.drop_succ_cons, List.drop_zero]
                have HA9 := Lib.hid (HA8.out.next hG)
                have HI9 := Lib.hid (HI8.out.next hG)
                have HX9 := Lib.hid (HX8.out.below hG HX8.out.lt)
                clear hG hR HA8 HI8 HX8 v0 l6 a0 m0 m1 HNR ht1 ht3
                cases nr with
                | true =>
                  go_wp2_with fail
                  refine ⟨⟨rem.filter fun k => decide (k ≠ (ox, oy)), by rw [← cut_good HGO.out]; exact HI9.out, HA9.out⟩, ?_⟩
                  rw [HI9.out.left, HIT.out.left]
                  exact filter_less HP.out.2
                | false =>
                  have v0 := HA9.out.xv.at 0 (v := .pointer (some ⟨w.heap.size + 1, 0, none⟩)) rfl
                  have l6 := HA9.out.lk.at 6 (v := .slice A y.s.spots.length c) rfl
                  have a1 := rowM2 HA9.out.row HEA.out HMI.out.1
                  rw [HEA.out] at l6
                  have m0 := HX9.out.at 0 (v := vi ox) rfl
                  have m1 := HX9.out.at 1 (v := vi oy) rfl
                  go_wp2_with fail
                  refine wp_words (by kernel_rfl) (region_told 8 (by kernel_rfl) (by kernel_rfl) (fun W => Below w9.heap.size w9 W) newer (pickD [vIs (.pointer (some ⟨(w.heap.size + 1), 0, none⟩)), vIs (.pointer (some ⟨(w.heap.size + 1), 0, none⟩)), vIs (.pointer (some ⟨(w.heap.size + 1), 6, none⟩)), vIs (.slice (some ⟨ab, ao, none⟩) y.s.spots.length c), vIs (.int .i64 t2), vIs (.pointer (some ⟨ab, ao + t2, none⟩)), vIs (.map (some mi)), vIs (mvV (ox, oy))]) (fun h k => newer_trans h k) (pickD_stable _ ⟨vIs_st, vIs_st, vIs_st, vIs_st, vIs_st, vIs_st, vIs_st, vIs_st, trivial⟩) (Below.refl _ w9).drew (Below.refl _ _) ?_ ?_)
                  · refine ⟨?_, ?_, ?_, ?_, ?_, ?_, ?_, ?_, trivial⟩
                    · intro a W hG hR hO hp
                      have h6 := hO.slot 6 (by kernel_rfl)
                      have c0 := keep_cell v0 hG
                      refine kY (v := .pointer (some ⟨(w.heap.size + 1), 0, none⟩)) hG rfl ?_
                      simp [slotOf] at h6
                      simp [execOp, go_sem, h6, c0]
                    · intro a W hG hR hO hp
                      have h104 : slotOf a 104 = .pointer (some ⟨(w.heap.size + 1), 0, none⟩) := hp.1
                      refine kY (v := .pointer (some ⟨(w.heap.size + 1), 0, none⟩)) hG rfl ?_
                      simp [slotOf] at h104
                      simp [execOp, go_sem, h104]
                    · intro a W hG hR hO hp
                      have h105 : slotOf a 105 = .pointer (some ⟨(w.heap.size + 1), 0, none⟩) := hp.1
                      refine kY (v := .pointer (some ⟨(w.heap.size + 1), 6, none⟩)) hG rfl ?_
                      simp [slotOf] at h105
                      simp [execOp, go_sem, h105]
                    · intro a W hG hR hO hp
                      have h106 : slotOf a 106 = .pointer (some ⟨(w.heap.size + 1), 6, none⟩) := hp.1
                      have c0 := keep_cell l6 hG
                      refine kY (v := .slice (some ⟨ab, ao, none⟩) y.s.spots.length c) hG rfl ?_
                      simp [slotOf] at h106
                      simp [execOp, go_sem, h106, c0]
                    · exact fun a W hG _ hO _ => kM 12 rfl (hO.slot 12 (by kernel_rfl)) rfl hG
                    · intro a W hG hR hO hp
                      have h107 : slotOf a 107 = .slice (some ⟨ab, ao, none⟩) y.s.spots.length c := hp.1
                      have h108 : slotOf a 108 = .int .i64 t2 := hp.2.1
                      refine kY (v := .pointer (some ⟨ab, ao + t2, none⟩)) hG rfl ?_
                      simp [slotOf] at h107 h108
                      simp [execOp, go_sem, h107, h108, ht4]
                    · intro a W hG hR hO hp
                      have h109 : slotOf a 109 = .pointer (some ⟨ab, ao + t2, none⟩) := hp.1
                      have c0 := keep_cell a1 hG
                      refine kY (v := .map (some mi)) hG rfl ?_
                      simp [slotOf] at h109
                      simp [execOp, go_sem, h109, c0]
                    · intro a W hG hR hO hp
                      have h13 := hO.slot 13 (by kernel_rfl)
                      have c0 := keep_cell m0 hG
                      have c1 := keep_cell m1 hG
                      refine kY (v := mvV (ox, oy)) hG rfl ?_
                      simp [slotOf] at h13
                      simp [execOp, go_sem, h13, c0, c1]
                  · intro wb hG hR
                    rintro _ rfl _ rfl _ rfl _ rfl _ rfl _ rfl _ rfl _ rfl
                    change wpList _ _ _ _ _ _
                    simp only [Act.put, List.setIfInBounds_toArray, List.set_cons_zero, List.set_cons_succ, List.drop_succ_cons, List.drop_zero]
                    have HA10 := Lib.hid (HA9.out.next hG)
                    have HI10 := Lib.hid (HI9.out.next hG)
                    clear hG hR HA9 HI9 HX9 v0 l6 a1 m0 m1
                    go_wp2_with (at_delete; refine wpList_delete_s _ rfl _ _ 128 116 rfl mv_key Try.underlying128 mi r _ _ rfl HI10.out (ox, oy) rfl ?_; intro ob hit11; rw [kvL_filter, cut_bad HGO.out] at hit11; have HI11 := Lib.hid hit11; have HA11 := Lib.hid (HA10.out.mapAt HMI.out.1 (grown_setBlock _ mi ob)); clear hit11)
                    refine ⟨⟨⟨_, HI11.out⟩, HA11.out⟩, ?_⟩
                    rw [HI11.out.left, HIT.out.left]
                    exact Nat.lt_of_le_of_lt (List.length_filter_le _ _) (filter_less HP.out.2)
            · have HE := Lib.hid (show AtL y ks ka kc w.heap.size y.s.spots.length y.s.spots.length (LsT y.s ks t2) ms Ds A c w wr from by
                have hl := HLE.out
                refine HAT.out.more (fun j hj hne => ?_) HMI.out.1 ?_ _
                · unfold LsT
                  by_cases e : t2 ≤ j
                  · rw [if_pos e, if_pos (by omega)]
                  · rw [if_neg e, if_neg (by omega)]
                · have h1 := HIT.out.map
                  rw [HALL.out, cut_none, HGD.out] at h1
                  unfold LsT
                  rw [if_pos (Nat.le_refl _), alive_step hl]
                  exact h1)
              refine ⟨AtR2.intro t2 ((t2 : Int) - 1) _ _ _ _ _ _ _ _ _ _ _ _ _ _ _ _ _ _ _ _ _ _ _ _ _ _ _ _ _ _ _ _ _ _ _ _ _ _ _ _ _ _ _ _ _ _ _ _ _ _ _ _ _ _ _ _ _ _ _ _ _ _ _ _ _ _ _ _ _ _ _ _ _ _ _ _ _ _ _ _ _ _ _ _ _ _ _ _ _ _ _ _ _ _ _ _ _ _ _ _ _ _ _ _ _ ⟨HE.out, rfl, by have := HLE.out; omega⟩, ?_⟩
              rw [HAL.out]
              simp [slotOf, intOf]

end Go.Proofs.Ytpmafnifgegfbaa
