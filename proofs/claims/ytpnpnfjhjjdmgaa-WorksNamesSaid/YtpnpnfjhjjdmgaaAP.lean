/- The reference's best plan. -/
import Derived.Test.YtpnpnfjhjjdmgaaAO
namespace Go.Proofs.Ytpnpnfjhjjdmgaa
open Go.RowKit Go.Deep

theorem gdM (x f : Bool) : if (x || f) = true then (bif x then undef else Value.bool f) ≠ .bool false else (bif x then undef else Value.bool f) = .bool false := by cases x <;> cases f <;> simp [undef]
theorem flatB_snoc (l : List Int) (y : Int) : (l ++ [y]).flatMap intL = l.flatMap intL ++ [vi y] := by simp [List.flatMap_append, intL]
def vNilB (H : Nat) (v : Value) (W : World) : Prop := ∃ nb, v = .slice (some ⟨nb, 0, none⟩) 0 0 ∧ H ≤ nb ∧ Whole W nb 3 #[]
def vCopyB (H : Nat) (l : List Int) (v : Value) (W : World) : Prop := ∃ B c, v = .slice B l.length c ∧ W.ownsRow H 3 1 (.slice B l.length c) l.length (l.flatMap intL)
def vOneB (H : Nat) (y : Int) (v : Value) (W : World) : Prop := ∃ nb, v = .slice (some ⟨nb, 0, none⟩) 1 1 ∧ H ≤ nb ∧ Whole W nb 3 #[vi y]
def vTwoB (H : Nat) (l : List Int) (y : Int) (v : Value) (W : World) : Prop := ∃ g c, v = .slice (some ⟨g, 0, none⟩) (l.length + 1) c ∧ W.ownsRow H 3 1 (.slice (some ⟨g, 0, none⟩) (l.length + 1) c) (l.length + 1) ((l ++ [y]).flatMap intL)
def vFoundB (b : List Int × Bool) (v : Value) (W : World) : Prop := ∃ A c, v = .tuple #[.slice A b.1.length c, .bool b.2] ∧ Row intL 1 W W.heap.size A b.1
def vSlB (b : List Int × Bool) (v : Value) (W : World) : Prop := ∃ A c, v = .slice A b.1.length c ∧ Row intL 1 W W.heap.size A b.1
theorem vSlB_st {b : List Int × Bool} : ∀ v W W', vSlB b v W → newer W W' → vSlB b v W' := fun _ _ _ ⟨A, c, e, h⟩ hb => ⟨A, c, e, (h.below hb).more hb.size⟩
theorem vNilB_st {H : Nat} : ∀ v W W', vNilB H v W → newer W W' → vNilB H v W' := fun _ _ _ ⟨nb, e, h1, h2⟩ hb => ⟨nb, e, h1, h2.below hb h2.lt⟩
theorem vCopyB_st {H : Nat} {l : List Int} : ∀ v W W', vCopyB H l v W → newer W W' → vCopyB H l v W' := fun _ _ _ ⟨B, c, e, h⟩ hb => ⟨B, c, e, own_below h hb⟩
theorem vOneB_st {H : Nat} {y : Int} : ∀ v W W', vOneB H y v W → newer W W' → vOneB H y v W' := fun _ _ _ ⟨nb, e, h1, h2⟩ hb => ⟨nb, e, h1, h2.below hb h2.lt⟩
theorem vTwoB_st {H : Nat} {l : List Int} {y : Int} : ∀ v W W', vTwoB H l y v W → newer W W' → vTwoB H l y v W' := fun _ _ _ ⟨g, c, e, h⟩ hb => ⟨g, c, e, own_below h hb⟩
theorem vFoundB_st {b : List Int × Bool} : ∀ v W W', vFoundB b v W → newer W W' → vFoundB b v W' := fun _ _ _ ⟨A, c, e, h⟩ hb => ⟨A, c, e, (h.below hb).more hb.size⟩
/-- What the reference's Best returns. -/
def foundC (w : World) (b : List Int × Bool) (e : Ending) (w' : World) : Prop := (∃ A c, e = .returned (.tuple #[.slice A b.1.length c, .bool b.2]) ∧ Row intL 1 w' w'.heap.size A b.1) ∧ newer w w'
theorem refB_len {q : Pj} : ∀ (r : Nat) (l : List Int), l.length + r = q.works.length → (refB q r l).2 = true → (refB q r l).1.length = q.works.length
  | 0, l, h, _ => h
  | r + 1, l, h, hf => by
    unfold refB at hf ⊢
    split at hf
    · rename_i x hx
      have key : ∀ (ys : List Int) (b : List Int × Bool), (b.2 = true → b.1.length = q.works.length) → (ys.foldl (refStep q (refB q r) l) b).2 = true → (ys.foldl (refStep q (refB q r) l) b).1.length = q.works.length := by
        intro ys
        induction ys with
        | nil => intro b hb h2; exact hb h2
        | cons y ys ih =>
          intro b hb
          rw [List.foldl_cons]
          refine ih _ fun h2 => ?_
          unfold refStep at h2 ⊢
          split
          · rename_i hc
            simp only [Bool.and_eq_true] at hc
            exact refB_len r (l ++ [y]) (by rw [List.length_append]; simp; omega) hc.1
          · rename_i hc
            rw [if_neg hc] at h2
            exact hb h2
      exact key _ _ (fun h2 => refB_len r (l ++ [-1]) (by rw [List.length_append]; simp; omega) h2) hf
    · cases hf
theorem yearsL_at {x : Wd} {j : Nat} (h : j < yearsN x) : (yearsL x)[j]? = some (x.first + (j : Int)) := by
  unfold yearsL
  rw [List.getElem?_map, List.getElem?_range h]
  rfl
theorem foldl_take {α β : Type} (f : β → α → β) {l : List α} {j : Nat} {y : α} (b : β) (h : l[j]? = some y) : (l.take (j + 1)).foldl f b = f ((l.take j).foldl f b) y := by
  rw [List.take_add_one, h, List.foldl_append]
  rfl
set_option maxRecDepth 100000 in
set_option maxHeartbeats 8000000 in
theorem refBest_leaf (p : Pm) (l : List Int) (L : Option Addr) (lp : Nat) (w : World) (hok : PmOk p w) (hpo : PjOk p) (hpl : planB p.pj.works l = true) (hr : Row intL 1 w w.heap.size L l) :
    Calls Try.prog 28 #[pmV p, .slice L l.length lp] w (foundC w (l, goodP p.pj l)) := by
  have hnw := newer_allocH w (.cells (pmC p) 27)
  have H0 := Lib.hid (And.intro hnw (Whole.made w 27 (pmC p)))
  have x0 := H0.out.2.at 0 (v := vi p.years) rfl
  have x1 := H0.out.2.at 1 (v := vi p.slopes) rfl
  have x2 := H0.out.2.at 2 (v := .slice p.wa p.ws.length p.wc) rfl
  have x3 := H0.out.2.at 3 (v := .slice p.na p.ns.length p.nc) rfl
  have x4 := H0.out.2.at 4 (v := .slice p.va p.vs.length p.vc) rfl
  have x5 := H0.out.2.at 5 (v := .slice p.pa p.ps.length p.pc) rfl
  have hll := (plan_ok hpo hpl).1
  have heq : ((l.length : Int) == p.ws.length) = true := by rw [beq_iff_eq]; omega
  have HR := Lib.hid hr
  have HAL0 := Lib.hid (fun V (hV : newer w V) => refAllowed p l L lp V (hok.next hV) hpo hpl ((hr.below hV).more hV.size))
  have HMS0 := Lib.hid (fun V (hV : newer w V) => refMissing p l L lp V (hok.next hV) hpo hpl ((hr.below hV).more hV.size))
  obtain ⟨alw, halw⟩ : ∃ alw, alw = allowB p.pj l := ⟨_, rfl⟩
  obtain ⟨m, hm⟩ : ∃ m, m = (missP p.pj l).length := ⟨_, rfl⟩
  obtain ⟨g, hg⟩ : ∃ g, g = goodP p.pj l := ⟨_, rfl⟩
  have HG : Hid (g = (alw && decide (m = 0))) := Lib.hid (by rw [hg, halw, hm]; rfl)
  have HAL := HAL0
  have HMS := HMS0
  rw [← halw] at HAL
  rw [← hm] at HMS
  rw [← hg]
  clear hnw hok hpo hpl hr hll halw hm hg HAL0 HMS0
  go_enter Try.func28, Try.ntmps28
  cases alw with
  | false =>
    go_wp2_with (go_at_call 39; refine (HAL.out _ H0.out.1).mono ?_; rintro e w1 ⟨rfl, hb⟩; have H1 := Lib.hid (newer_trans H0.out.1 hb); clear hb)
    refine bodyPost_ret (v := .tuple #[.slice L l.length lp, .bool false]) (by simp [results, Try.results28, go_sem]) rfl ⟨⟨L, lp, ?_, ?_⟩, H1.out⟩
    · rw [HG.out]
      rfl
    · exact (HR.out.below H1.out).more H1.out.size
  | true =>
    by_cases hm0 : m = 0
    · have e1 : ((m : Int) == 0) = true := by rw [beq_iff_eq]; omega
      have HG1 : Hid (g = true) := Lib.hid (by rw [HG.out, decide_eq_true hm0]; rfl)
      clear hm0
      go_wp2_with (first | (go_at_call 39; refine (HAL.out _ H0.out.1).mono ?_; rintro e w1 ⟨rfl, hb⟩; have H1 := Lib.hid (And.intro (newer_trans H0.out.1 hb) (H0.out.2.below hb H0.out.2.lt)); clear hb x0 x1 x2 x3 x4 x5; have x0 := H1.out.2.at 0 (v := vi p.years) rfl; have x1 := H1.out.2.at 1 (v := vi p.slopes) rfl; have x2 := H1.out.2.at 2 (v := .slice p.wa p.ws.length p.wc) rfl; have x3 := H1.out.2.at 3 (v := .slice p.na p.ns.length p.nc) rfl; have x4 := H1.out.2.at 4 (v := .slice p.va p.vs.length p.vc) rfl; have x5 := H1.out.2.at 5 (v := .slice p.pa p.ps.length p.pc) rfl) | (go_at_call 38; refine (HMS.out _ H1.out.1).mono ?_; rintro e w2 ⟨⟨A2, c2, rfl, -⟩, hb⟩; have H2 := Lib.hid (newer_trans H1.out.1 hb); clear hb))
      refine bodyPost_ret (v := .tuple #[.slice L l.length lp, .bool true]) (by simp [results, Try.results28, go_sem]) rfl ⟨⟨L, lp, ?_, ?_⟩, H2.out⟩
      · rw [HG1.out]
      · exact (HR.out.below H2.out).more H2.out.size
    · have e1 : ((m : Int) == 0) = false := by rw [beq_eq_false_iff_ne]; omega
      have HG1 : Hid (g = false) := Lib.hid (by rw [HG.out, decide_eq_false hm0]; rfl)
      clear hm0
      go_wp2_with (first | (go_at_call 39; refine (HAL.out _ H0.out.1).mono ?_; rintro e w1 ⟨rfl, hb⟩; have H1 := Lib.hid (And.intro (newer_trans H0.out.1 hb) (H0.out.2.below hb H0.out.2.lt)); clear hb x0 x1 x2 x3 x4 x5; have x0 := H1.out.2.at 0 (v := vi p.years) rfl; have x1 := H1.out.2.at 1 (v := vi p.slopes) rfl; have x2 := H1.out.2.at 2 (v := .slice p.wa p.ws.length p.wc) rfl; have x3 := H1.out.2.at 3 (v := .slice p.na p.ns.length p.nc) rfl; have x4 := H1.out.2.at 4 (v := .slice p.va p.vs.length p.vc) rfl; have x5 := H1.out.2.at 5 (v := .slice p.pa p.ps.length p.pc) rfl) | (go_at_call 38; refine (HMS.out _ H1.out.1).mono ?_; rintro e w2 ⟨⟨A2, c2, rfl, -⟩, hb⟩; have H2 := Lib.hid (newer_trans H1.out.1 hb); clear hb))
      refine bodyPost_ret (v := .tuple #[.slice L l.length lp, .bool false]) (by simp [results, Try.results28, go_sem]) rfl ⟨⟨L, lp, ?_, ?_⟩, H2.out⟩
      · rw [HG1.out]
      · exact (HR.out.below H2.out).more H2.out.size
set_option maxRecDepth 100000 in
set_option maxHeartbeats 8000000 in
theorem refBest_node (p : Pm) (r : Nat) (l : List Int) (x : Wk) (L : Option Addr) (lp : Nat) (w : World) (hok : PmOk p w) (hpo : PjOk p) (hx : p.ws[l.length]? = some x) (hr : Row intL 1 w w.heap.size L l) (hlr : l.length + (r + 1) = p.ws.length)
    (hrec : ∀ (y : Int) (V : World) (A : Option Addr) (c : Nat), (y = -1 ∨ (x.d.first ≤ y ∧ y ≤ x.d.last)) → newer w V → Row intL 1 V V.heap.size A (l ++ [y]) → Calls Try.prog 28 #[pmV p, .slice A (l.length + 1) c] V (foundC V (refB p.pj r (l ++ [y])))) :
    Calls Try.prog 28 #[pmV p, .slice L l.length lp] w (foundC w ((yearsL x.d).foldl (refStep p.pj (refB p.pj r) l) (refB p.pj r (l ++ [-1])))) := by
  have hnw := newer_allocH w (.cells (pmC p) 27)
  have HB := Lib.hid (And.intro hnw (Whole.made w 27 (pmC p)))
  have x0 := HB.out.2.at 0 (v := vi p.years) rfl
  have x1 := HB.out.2.at 1 (v := vi p.slopes) rfl
  have x2 := HB.out.2.at 2 (v := .slice p.wa p.ws.length p.wc) rfl
  have x3 := HB.out.2.at 3 (v := .slice p.na p.ns.length p.nc) rfl
  have x4 := HB.out.2.at 4 (v := .slice p.va p.vs.length p.vc) rfl
  have x5 := HB.out.2.at 5 (v := .slice p.pa p.ps.length p.pc) rfl
  have hwn := hpo.wn
  have hneq : ((l.length : Int) == p.ws.length) = false := by rw [beq_eq_false_iff_ne]; omega
  have HL8 : Hid (l.length ≤ 8) := Lib.hid (by omega)
  have HL1 : Hid (l.length ≤ 1000) := Lib.hid (by omega)
  have HOK := Lib.hid hok
  have HR := Lib.hid hr
  have HPO := Lib.hid hpo
  have HX := Lib.hid hx
  have HREC := Lib.hid hrec
  have HLR := Lib.hid hlr
  have hkn : (l.length : Int) < p.ws.length := by omega
  have HWB := Lib.hid (wdB_parts (hpo.ws x (List.mem_of_getElem? hx)))
  have HYK : Hid ((-1 : Int) = -1 ∨ (x.d.first ≤ -1 ∧ -1 ≤ x.d.last)) := Lib.hid (.inl rfl)
  obtain ⟨i0, hi0, hz0, hz1, hz2⟩ := info_parts Try.info3w
  have HI := Lib.hid (And.intro hi0 (And.intro hz0 (And.intro hz1 hz2)))
  have HWL : Hid (p.pj.works.length = p.ws.length) := Lib.hid (by simp [Pm.pj])
  have HCO := Lib.hid (fun (l2 : List Int) (h2 : l2.length = p.ws.length) V (hV : newer w V) A c (hr2 : Row intL 1 V V.heap.size A l2) => refCost p l2 A c V (hok.next hV) hpo h2 hr2)
  obtain ⟨f, hf⟩ : ∃ f, f = refB p.pj r := ⟨_, rfl⟩
  have HFE := Lib.hid hf
  have HFL : Hid (∀ y, (f (l ++ [y])).2 = true → (f (l ++ [y])).1.length = p.ws.length) := Lib.hid (fun y h => by
    rw [← HWL.out]
    rw [hf] at h ⊢
    exact refB_len r (l ++ [y]) (by rw [List.length_append, HWL.out]; simp; omega) h)
  have HBL : Hid (∀ j, (((yearsL x.d).take j).foldl (refStep p.pj f l) (f (l ++ [-1]))).2 = true → (((yearsL x.d).take j).foldl (refStep p.pj f l) (f (l ++ [-1]))).1.length = p.ws.length) := Lib.hid (fun j => by
    have key : ∀ (ys : List Int) (b : List Int × Bool), (b.2 = true → b.1.length = p.ws.length) → (ys.foldl (refStep p.pj f l) b).2 = true → (ys.foldl (refStep p.pj f l) b).1.length = p.ws.length := by
      intro ys
      induction ys with
      | nil => intro b hb h2; exact hb h2
      | cons y ys ih =>
        intro b hb
        rw [List.foldl_cons]
        refine ih _ fun h2 => ?_
        unfold refStep at h2 ⊢
        split
        · rename_i hc
          simp only [Bool.and_eq_true] at hc
          exact HFL.out y hc.1
        · rename_i hc
          rw [if_neg hc] at h2
          exact hb h2
    exact key _ _ (HFL.out (-1)))
  clear hnw hok hpo hx hr hlr hrec hi0 hz0 hz1 hz2 hwn hf
  go_enter Try.func28, Try.ntmps28
  go_upto_region 4 with fail
  clear hneq
  obtain ⟨w0, hw0⟩ : ∃ w0, w0 = w.alloc (.cells (pmC p) 27) := ⟨_, rfl⟩
  rw [← hw0] at HB x0 x1 x2 x3 x4 x5 ⊢
  clear hw0
  have HST : Hid (∀ i v W W', pickD [vIs (pmV p), vNilB w0.heap.size, vIs (.slice L l.length lp), vCopyB w0.heap.size l, vOneB w0.heap.size (-1), vTwoB w0.heap.size l (-1), vFoundB (refB p.pj r (l ++ [-1])), vFoundB (refB p.pj r (l ++ [-1])), vSlB (refB p.pj r (l ++ [-1])), vIs (.bool (refB p.pj r (l ++ [-1])).2), vSlB (refB p.pj r (l ++ [-1]))] i v W → newer W W' → pickD [vIs (pmV p), vNilB w0.heap.size, vIs (.slice L l.length lp), vCopyB w0.heap.size l, vOneB w0.heap.size (-1), vTwoB w0.heap.size l (-1), vFoundB (refB p.pj r (l ++ [-1])), vFoundB (refB p.pj r (l ++ [-1])), vSlB (refB p.pj r (l ++ [-1])), vIs (.bool (refB p.pj r (l ++ [-1])).2), vSlB (refB p.pj r (l ++ [-1]))] i v W') := Lib.hid (pickD_stable _ ⟨vIs_st, vNilB_st, vIs_st, vCopyB_st, vOneB_st, vTwoB_st, vFoundB_st, vFoundB_st, vSlB_st, vIs_st, vSlB_st, trivial⟩)
  refine wp_words (by kernel_rfl) (region_live 11 (by kernel_rfl) (by kernel_rfl) (fun W => Below w0.heap.size w0 W) (relTwo w0.heap.size 5 5) [none, some 3, none, some 5, some 5, some 6, none, none, none, none, none] (pickD [vIs (pmV p), vNilB w0.heap.size, vIs (.slice L l.length lp), vCopyB w0.heap.size l, vOneB w0.heap.size (-1), vTwoB w0.heap.size l (-1), vFoundB (refB p.pj r (l ++ [-1])), vFoundB (refB p.pj r (l ++ [-1])), vSlB (refB p.pj r (l ++ [-1])), vIs (.bool (refB p.pj r (l ++ [-1])).2), vSlB (refB p.pj r (l ++ [-1]))]) ?_ (Below.refl _ w0).drew ?_ ?_)
  · intro listed i j v W W' hi hj hui hlj hpi hcl hk hD hR
    by_cases h5 : i = 5
    · subst h5
      obtain rfl | rfl | rfl | rfl | rfl | rfl | rfl | rfl | rfl | rfl | rfl | hj9 : j = 0 ∨ j = 1 ∨ j = 2 ∨ j = 3 ∨ j = 4 ∨ j = 5 ∨ j = 6 ∨ j = 7 ∨ j = 8 ∨ j = 9 ∨ j = 10 ∨ 11 ≤ j := by omega
      · exact hD
      · have h1 := (hk 3 (by kernel_rfl)).2
        rw [hpi 3 (by kernel_rfl)] at h1
        cases h1
      · exact hD
      · exact absurd rfl (hk 5 (by kernel_rfl)).1
      · exact absurd rfl (hk 5 (by kernel_rfl)).1
      · exact absurd rfl hj
      · rw [show listed.getD 5 false = true from (hcl 6 5 (by omega) (by kernel_rfl) hlj)] at hui
        cases hui
      · rw [show listed.getD 5 false = true from (hcl 6 5 (by omega) (by kernel_rfl) (hcl 7 6 (by omega) (by kernel_rfl) hlj))] at hui
        cases hui
      · rw [show listed.getD 5 false = true from (hcl 6 5 (by omega) (by kernel_rfl) (hcl 7 6 (by omega) (by kernel_rfl) (hcl 8 7 (by omega) (by kernel_rfl) hlj)))] at hui
        cases hui
      · exact hD
      · rw [show listed.getD 5 false = true from (hcl 6 5 (by omega) (by kernel_rfl) (hcl 7 6 (by omega) (by kernel_rfl) (hcl 8 7 (by omega) (by kernel_rfl) (hcl 10 8 (by omega) (by kernel_rfl) hlj))))] at hui
        cases hui
      · obtain ⟨m, rfl⟩ : ∃ m, j = m + 11 := ⟨j - 11, by omega⟩
        exact trivial
    · have hrl : relTwo w0.heap.size 5 5 i = newer := by
        unfold relTwo
        rw [show (Nat.beq i 5 || Nat.beq i 5) = false by
          cases h1 : Nat.beq i 5
          · rfl
          · exact absurd (Nat.eq_of_beq_eq_true h1) h5]
      rw [hrl] at hR
      exact HST.out j v W W' hD hR
  · refine ⟨?_, ?_, ?_, ?_, ?_, ?_, ?_, ?_, ?_, ?_, ?_, trivial⟩
    · intro listed a W hun hG hO hp
      have h2 := hO.slot 2 (by kernel_rfl)
      have c0 := keep_cell x0 hG
      have c1 := keep_cell x1 hG
      have c2 := keep_cell x2 hG
      have c3 := keep_cell x3 hG
      have c4 := keep_cell x4 hG
      have c5 := keep_cell x5 hG
      refine wp_yields (v := pmV p) ?_ ⟨_, rfl, rfl, newer_refl _, hG⟩
      simp [slotOf] at h2
      simp [execOp, go_sem, h2, c0, c1, c2, c3, c4, c5]
    · intro listed a W hun hG hO hp
      refine wp_makes (v := .slice (some ⟨W.heap.size, 0, none⟩) 0 0) (W' := W.alloc (.cells #[] 3)) ?_ ⟨_, rfl, ⟨_, rfl, hG.size, Whole.made _ _ _⟩, newer_allocH _ _, hG.alloc hG.size _⟩
      simp [execOp, go_sem]
    · intro listed a W hun hG hO hp
      have h1 := hO.slot 1 (by kernel_rfl)
      refine wp_yields (v := .slice L l.length lp) ?_ ⟨_, rfl, rfl, newer_refl _, hG⟩
      simp [slotOf] at h1
      simp [execOp, go_sem, h1]
    · intro listed a W hun hG hO hp
      have h32 : listed.getD 3 false = false → vNilB w0.heap.size (slotOf a 32) W := hp.1
      have h33 : slotOf a 33 = (.slice L l.length lp) := hp.2.1
      obtain ⟨nb, h32, hnb, hW⟩ := h32 hun
      obtain ⟨hi0, hz0, hz1, hz2⟩ := HI.out
      refine wp_append_owncopy (enc := intL) (size := 1) w0.heap.size (.tmp 32) (.tmp 33) 25 3 i0 (.int .i64 0) 8 Try.underlying25 hi0 hz0 hz1 hz2 rfl (by omega) (by omega) (fun _ => rfl) rfl nb ((eval_slot a 32).trans h32) hnb hW l L lp ((eval_slot a 33).trans h33) HL1.out ((HR.out.below (newer_trans HB.out.1 hG)).more (newer_trans HB.out.1 hG).size) hG.size ?_
      intro B c w1 ho hb _
      exact ⟨_, rfl, ⟨B, c, rfl, ho⟩, hb, below_next hG hb⟩
    · intro listed a W hun hG hO hp
      refine wp_makes (v := .slice (some ⟨W.heap.size, 0, none⟩) 1 1) (W' := W.alloc (.cells #[vi (-1)] 3)) ?_ ⟨_, rfl, ⟨_, rfl, hG.size, Whole.made _ _ _⟩, newer_allocH _ _, hG.alloc hG.size _⟩
      simp [execOp, go_sem]
    · intro listed a W hun hG hO hp
      have h34 : listed.getD 5 false = false → vCopyB w0.heap.size l (slotOf a 34) W := hp.1
      have h35 : listed.getD 5 false = false → vOneB w0.heap.size (-1) (slotOf a 35) W := hp.2.1
      obtain ⟨B, c, h34, ho⟩ := h34 hun
      obtain ⟨nb, h35, hnb, hW⟩ := h35 hun
      obtain ⟨hi0, hz0, hz1, hz2⟩ := HI.out
      have hl8 := HL8.out
      refine wp_append_one (.tmp 34) (.tmp 35) 25 rfl w0.heap.size 3 i0 (.int .i64 0) 8 Try.underlying25 hi0 hz0 hz1 hz2 rfl B l.length c (l.flatMap intL) ((eval_slot a 34).trans h34) ho ⟨nb, 0, none⟩ 1 (vi (-1)) ((eval_slot a 35).trans h35) (hW.at 0 rfl) rfl (by unfold maxLen; omega) (by omega) hG.size ?_
      intro g c' w1 hown hon
      have hB : Below w0.heap.size W w1 := by
        rcases hon with ⟨-, -, hg⟩ | ⟨-, hg⟩
        · exact below_of_grown hg (own_ge_slice hown) hG.size
        · exact below_of_grown (hg.but (some g)) (own_ge_slice hown) hG.size
      exact ⟨_, rfl, ⟨g, c', rfl, by rw [flatB_snoc]; exact hown⟩, hB, hG.trans hB⟩
    · intro listed a W hun hG hO hp
      have h31 : slotOf a 31 = (pmV p) := hp.1
      have h36 : listed.getD 6 false = false → vTwoB w0.heap.size l (-1) (slotOf a 36) W := hp.2.1
      obtain ⟨g, c, h36, ho⟩ := h36 hun
      refine wp_enters (f := 28) (args := #[pmV p, .slice (some ⟨g, 0, none⟩) (l.length + 1) c]) ?_ ((HREC.out (-1) W (some ⟨g, 0, none⟩) c HYK.out (newer_trans HB.out.1 hG) (row_of_own (enc := intL) (size := 1) (by omega) (fun _ => rfl) ho)).mono ?_)
      · simp [slotOf] at h31 h36
        simp [go_sem, h31, h36]
      · rintro e w' ⟨⟨A, c2, rfl, hr2⟩, hb⟩
        exact ⟨_, rfl, _, rfl, ⟨A, c2, rfl, hr2⟩, hb, below_next hG hb⟩
    · intro listed a W hun hG hO hp
      have h37 : vFoundB (refB p.pj r (l ++ [-1])) (slotOf a 37) W := hp.1
      obtain ⟨A, c, h37, hr2⟩ := h37
      refine wp_yields (v := .tuple #[.slice A (refB p.pj r (l ++ [-1])).1.length c, .bool (refB p.pj r (l ++ [-1])).2]) ?_ ⟨_, rfl, ⟨A, c, rfl, hr2⟩, newer_refl _, hG⟩
      simp [slotOf] at h37
      simp [execOp, go_sem, h37]
    · intro listed a W hun hG hO hp
      have h30 : vFoundB (refB p.pj r (l ++ [-1])) (slotOf a 30) W := hp.1
      obtain ⟨A, c, h30, hr2⟩ := h30
      refine wp_yields (v := .slice A (refB p.pj r (l ++ [-1])).1.length c) ?_ ⟨_, rfl, ⟨A, c, rfl, hr2⟩, newer_refl _, hG⟩
      simp [slotOf] at h30
      simp [execOp, go_sem, h30]
    · intro listed a W hun hG hO hp
      have h30 : vFoundB (refB p.pj r (l ++ [-1])) (slotOf a 30) W := hp.1
      obtain ⟨A, c, h30, -⟩ := h30
      refine wp_yields (v := .bool (refB p.pj r (l ++ [-1])).2) ?_ ⟨_, rfl, rfl, newer_refl _, hG⟩
      simp [slotOf] at h30
      simp [execOp, go_sem, h30]
    · intro listed a W hun hG hO hp
      have h38 : vSlB (refB p.pj r (l ++ [-1])) (slotOf a 38) W := hp.1
      obtain ⟨A, c, h38, hr2⟩ := h38
      refine wp_yields (v := .slice A (refB p.pj r (l ++ [-1])).1.length c) ?_ ⟨_, rfl, ⟨A, c, rfl, hr2⟩, newer_refl _, hG⟩
      simp [slotOf] at h38
      simp [execOp, go_sem, h38]
  · intro W hG
    rintro _ rfl _ - _ rfl _ - _ - _ - _ - _ - _ - _ rfl _ ⟨A2, c2, rfl, hrA⟩
    change wpList _ _ _ _ _ _
    simp only [Act.put, List.setIfInBounds_toArray, List.set_cons_zero, List.set_cons_succ, List.drop_succ_cons, List.drop_zero]
    have HS := Lib.hid (And.intro (newer_trans HB.out.1 hG) (And.intro (HB.out.2.below hG HB.out.2.lt) hrA))
    clear hG hrA HB HYK x0 x1 x2 x3 x4 x5
    have x0 := HS.out.2.1.at 0 (v := vi p.years) rfl
    have x1 := HS.out.2.1.at 1 (v := vi p.slopes) rfl
    have x2 := HS.out.2.1.at 2 (v := .slice p.wa p.ws.length p.wc) rfl
    have x3 := HS.out.2.1.at 3 (v := .slice p.na p.ns.length p.nc) rfl
    have x4 := HS.out.2.1.at 4 (v := .slice p.va p.vs.length p.vc) rfl
    have x5 := HS.out.2.1.at 5 (v := .slice p.pa p.ps.length p.pc) rfl
    obtain ⟨b2, o2, e2, _, d0, d1, d2, _⟩ := row6 (HOK.out.next HS.out.1).ws HX.out
    rw [e2] at x2
    go_wp2_with fail
    clear x0 x1 x2 x3 x4 x5 d0 d1 d2 e2
    rw [← HFE.out]
    rw [← HFE.out] at HS
    go_loopw [7, 8, 9] (fun s7 s8 s9 wr => ∃ j : Nat, j ≤ yearsN x.d ∧ ∃ A c, s7 = .slice A (((yearsL x.d).take j).foldl (refStep p.pj f l) (f (l ++ [-1]))).1.length c ∧ s9 = vi (x.d.first + (j : Int)) ∧ s8 = .bool (((yearsL x.d).take j).foldl (refStep p.pj f l) (f (l ++ [-1]))).2 ∧ newer w wr ∧ Whole wr w.heap.size 27 (pmC p) ∧ Row intL 1 wr wr.heap.size A (((yearsL x.d).take j).foldl (refStep p.pj f l) (f (l ++ [-1]))).1) (fun _ _ s9 _ => (x.d.last + 1 - intOf s9).toNat)
    case atStart => exact ⟨0, Nat.zero_le _, A2, c2, rfl, by simp, rfl, HS.out.1, HS.out.2.1, HS.out.2.2⟩
    case round =>
      obtain ⟨j, hj, A1, c1, rfl, rfl, rfl, hbw, hbx, hrow⟩ := hrel
      clear HS
      obtain ⟨bf, hbf⟩ : ∃ bf, bf = ((yearsL x.d).take j).foldl (refStep p.pj f l) (f (l ++ [-1])) := ⟨_, rfl⟩
      rw [← hbf] at hrow ⊢
      obtain ⟨bl, bb⟩ := bf
      dsimp only at hrow ⊢
      have HBF := Lib.hid hbf
      clear hbf
      obtain ⟨y, hy⟩ : ∃ y, y = x.d.first + (j : Int) := ⟨_, rfl⟩
      rw [← hy]
      have hwf := HWB.out.2.1
      have hpy := HPO.out.years
      have hyn : yearsN x.d = (x.d.last + 1 - x.d.first).toNat := rfl
      have x0 := hbx.at 0 (v := vi p.years) rfl
      have x1 := hbx.at 1 (v := vi p.slopes) rfl
      have x2 := hbx.at 2 (v := .slice p.wa p.ws.length p.wc) rfl
      have x3 := hbx.at 3 (v := .slice p.na p.ns.length p.nc) rfl
      have x4 := hbx.at 4 (v := .slice p.va p.vs.length p.vc) rfl
      have x5 := hbx.at 5 (v := .slice p.pa p.ps.length p.pc) rfl
      obtain ⟨b2, o2, e2, _, _, _, d2, _⟩ := row6 (HOK.out.next hbw).ws HX.out
      rw [e2] at x2
      by_cases hlt : j < yearsN x.d
      · have hyl : y ≤ x.d.last := by omega
        have HYK : Hid (y = -1 ∨ (x.d.first ≤ y ∧ y ≤ x.d.last)) := Lib.hid (.inr (by omega))
        have ey1 : IntKind.i64.wrap (y + 1) = x.d.first + ((j + 1 : Nat) : Int) := by
          rw [show x.d.first + ((j + 1 : Nat) : Int) = y + 1 by omega]
          exact IntWalk.i64_in _ (by omega)
        have HY := Lib.hid (show yearsN x.d = (x.d.last + 1 - x.d.first).toNat ∧ j < yearsN x.d ∧ y = x.d.first + (j : Int) from ⟨hyn, hlt, hy⟩)
        have HNX : Hid (((yearsL x.d).take (j + 1)).foldl (refStep p.pj f l) (f (l ++ [-1])) = refStep p.pj f l (bl, bb) y) := Lib.hid (by
          rw [foldl_take _ _ (yearsL_at hlt), ← HBF.out, ← hy])
        have HB := Lib.hid (And.intro hbw hbx)
        have HRW := Lib.hid hrow
        clear hbw hbx hrow hwf hpy hyn hy
        go_upto_region 8 with fail
        clear x0 x1 x2 x3 x4 x5 d2 e2 hyl
        have x0 := HB.out.2.at 0 (v := vi p.years) rfl
        have x1 := HB.out.2.at 1 (v := vi p.slopes) rfl
        have x2 := HB.out.2.at 2 (v := .slice p.wa p.ws.length p.wc) rfl
        have x3 := HB.out.2.at 3 (v := .slice p.na p.ns.length p.nc) rfl
        have x4 := HB.out.2.at 4 (v := .slice p.va p.vs.length p.vc) rfl
        have x5 := HB.out.2.at 5 (v := .slice p.pa p.ps.length p.pc) rfl
        have HST : Hid (∀ i v W W', pickD [vIs (pmV p), vNilB wr.heap.size, vIs (.slice L l.length lp), vCopyB wr.heap.size l, vIs (vi y), vOneB wr.heap.size (y), vTwoB wr.heap.size l (y), vFoundB (refB p.pj r (l ++ [y])), vFoundB (refB p.pj r (l ++ [y])), vSlB (refB p.pj r (l ++ [y])), vIs (.bool (refB p.pj r (l ++ [y])).2), vSlB (refB p.pj r (l ++ [y]))] i v W → newer W W' → pickD [vIs (pmV p), vNilB wr.heap.size, vIs (.slice L l.length lp), vCopyB wr.heap.size l, vIs (vi y), vOneB wr.heap.size (y), vTwoB wr.heap.size l (y), vFoundB (refB p.pj r (l ++ [y])), vFoundB (refB p.pj r (l ++ [y])), vSlB (refB p.pj r (l ++ [y])), vIs (.bool (refB p.pj r (l ++ [y])).2), vSlB (refB p.pj r (l ++ [y]))] i v W') := Lib.hid (pickD_stable _ ⟨vIs_st, vNilB_st, vIs_st, vCopyB_st, vIs_st, vOneB_st, vTwoB_st, vFoundB_st, vFoundB_st, vSlB_st, vIs_st, vSlB_st, trivial⟩)
        refine wp_words (by kernel_rfl) (region_live 12 (by kernel_rfl) (by kernel_rfl) (fun W => Below wr.heap.size wr W) (relTwo wr.heap.size 6 6) [none, some 3, none, some 6, none, some 6, some 7, none, none, none, none, none] (pickD [vIs (pmV p), vNilB wr.heap.size, vIs (.slice L l.length lp), vCopyB wr.heap.size l, vIs (vi y), vOneB wr.heap.size (y), vTwoB wr.heap.size l (y), vFoundB (refB p.pj r (l ++ [y])), vFoundB (refB p.pj r (l ++ [y])), vSlB (refB p.pj r (l ++ [y])), vIs (.bool (refB p.pj r (l ++ [y])).2), vSlB (refB p.pj r (l ++ [y]))]) ?_ (Below.refl _ wr).drew ?_ ?_)
        · intro listed i j v W W' hi hj hui hlj hpi hcl hk hD hR
          by_cases h5 : i = 6
          · subst h5
            obtain rfl | rfl | rfl | rfl | rfl | rfl | rfl | rfl | rfl | rfl | rfl | rfl | hj9 : j = 0 ∨ j = 1 ∨ j = 2 ∨ j = 3 ∨ j = 4 ∨ j = 5 ∨ j = 6 ∨ j = 7 ∨ j = 8 ∨ j = 9 ∨ j = 10 ∨ j = 11 ∨ 12 ≤ j := by omega
            · exact hD
            · have h1 := (hk 3 (by kernel_rfl)).2
              rw [hpi 3 (by kernel_rfl)] at h1
              cases h1
            · exact hD
            · exact absurd rfl (hk 6 (by kernel_rfl)).1
            · exact hD
            · exact absurd rfl (hk 6 (by kernel_rfl)).1
            · exact absurd rfl hj
            · rw [show listed.getD 6 false = true from (hcl 7 6 (by omega) (by kernel_rfl) hlj)] at hui
              cases hui
            · rw [show listed.getD 6 false = true from (hcl 7 6 (by omega) (by kernel_rfl) (hcl 8 7 (by omega) (by kernel_rfl) hlj))] at hui
              cases hui
            · rw [show listed.getD 6 false = true from (hcl 7 6 (by omega) (by kernel_rfl) (hcl 8 7 (by omega) (by kernel_rfl) (hcl 9 8 (by omega) (by kernel_rfl) hlj)))] at hui
              cases hui
            · exact hD
            · rw [show listed.getD 6 false = true from (hcl 7 6 (by omega) (by kernel_rfl) (hcl 8 7 (by omega) (by kernel_rfl) (hcl 9 8 (by omega) (by kernel_rfl) (hcl 11 9 (by omega) (by kernel_rfl) hlj))))] at hui
              cases hui
            · obtain ⟨m, rfl⟩ : ∃ m, j = m + 12 := ⟨j - 12, by omega⟩
              exact trivial
          · have hrl : relTwo wr.heap.size 6 6 i = newer := by
              unfold relTwo
              rw [show (Nat.beq i 6 || Nat.beq i 6) = false by
                cases h1 : Nat.beq i 6
                · rfl
                · exact absurd (Nat.eq_of_beq_eq_true h1) h5]
            rw [hrl] at hR
            exact HST.out j v W W' hD hR
        · refine ⟨?_, ?_, ?_, ?_, ?_, ?_, ?_, ?_, ?_, ?_, ?_, ?_, trivial⟩
          · intro listed a W hun hG hO hp
            have h2 := hO.slot 2 (by kernel_rfl)
            have c0 := keep_cell x0 hG
            have c1 := keep_cell x1 hG
            have c2 := keep_cell x2 hG
            have c3 := keep_cell x3 hG
            have c4 := keep_cell x4 hG
            have c5 := keep_cell x5 hG
            refine wp_yields (v := pmV p) ?_ ⟨_, rfl, rfl, newer_refl _, hG⟩
            simp [slotOf] at h2
            simp [execOp, go_sem, h2, c0, c1, c2, c3, c4, c5]
          · intro listed a W hun hG hO hp
            refine wp_makes (v := .slice (some ⟨W.heap.size, 0, none⟩) 0 0) (W' := W.alloc (.cells #[] 3)) ?_ ⟨_, rfl, ⟨_, rfl, hG.size, Whole.made _ _ _⟩, newer_allocH _ _, hG.alloc hG.size _⟩
            simp [execOp, go_sem]
          · intro listed a W hun hG hO hp
            have h1 := hO.slot 1 (by kernel_rfl)
            refine wp_yields (v := .slice L l.length lp) ?_ ⟨_, rfl, rfl, newer_refl _, hG⟩
            simp [slotOf] at h1
            simp [execOp, go_sem, h1]
          · intro listed a W hun hG hO hp
            have h58 : listed.getD 3 false = false → vNilB wr.heap.size (slotOf a 58) W := hp.1
            have h59 : slotOf a 59 = (.slice L l.length lp) := hp.2.1
            obtain ⟨nb, h58, hnb, hW⟩ := h58 hun
            obtain ⟨hi0, hz0, hz1, hz2⟩ := HI.out
            refine wp_append_owncopy (enc := intL) (size := 1) wr.heap.size (.tmp 58) (.tmp 59) 25 3 i0 (.int .i64 0) 8 Try.underlying25 hi0 hz0 hz1 hz2 rfl (by omega) (by omega) (fun _ => rfl) rfl nb ((eval_slot a 58).trans h58) hnb hW l L lp ((eval_slot a 59).trans h59) HL1.out ((HR.out.below (newer_trans HB.out.1 hG)).more (newer_trans HB.out.1 hG).size) hG.size ?_
            intro B c w1 ho hb _
            exact ⟨_, rfl, ⟨B, c, rfl, ho⟩, hb, below_next hG hb⟩
          · intro listed a W hun hG hO hp
            have h9 := hO.slot 9 (by kernel_rfl)
            refine wp_yields (v := vi y) ?_ ⟨_, rfl, rfl, newer_refl _, hG⟩
            simp [slotOf] at h9
            simp [execOp, go_sem, h9]
          · intro listed a W hun hG hO hp
            have h61 : slotOf a 61 = (vi y) := hp.1
            refine wp_makes (v := .slice (some ⟨W.heap.size, 0, none⟩) 1 1) (W' := W.alloc (.cells #[vi (y)] 3)) ?_ ⟨_, rfl, ⟨_, rfl, hG.size, Whole.made _ _ _⟩, newer_allocH _ _, hG.alloc hG.size _⟩
            simp [slotOf] at h61
            simp [execOp, go_sem, h61]
          · intro listed a W hun hG hO hp
            have h60 : listed.getD 6 false = false → vCopyB wr.heap.size l (slotOf a 60) W := hp.1
            have h62 : listed.getD 6 false = false → vOneB wr.heap.size (y) (slotOf a 62) W := hp.2.1
            obtain ⟨B, c, h60, ho⟩ := h60 hun
            obtain ⟨nb, h62, hnb, hW⟩ := h62 hun
            obtain ⟨hi0, hz0, hz1, hz2⟩ := HI.out
            have hl8 := HL8.out
            refine wp_append_one (.tmp 60) (.tmp 62) 25 rfl wr.heap.size 3 i0 (.int .i64 0) 8 Try.underlying25 hi0 hz0 hz1 hz2 rfl B l.length c (l.flatMap intL) ((eval_slot a 60).trans h60) ho ⟨nb, 0, none⟩ 1 (vi (y)) ((eval_slot a 62).trans h62) (hW.at 0 rfl) rfl (by unfold maxLen; omega) (by omega) hG.size ?_
            intro g c' w1 hown hon
            have hB : Below wr.heap.size W w1 := by
              rcases hon with ⟨-, -, hg⟩ | ⟨-, hg⟩
              · exact below_of_grown hg (own_ge_slice hown) hG.size
              · exact below_of_grown (hg.but (some g)) (own_ge_slice hown) hG.size
            exact ⟨_, rfl, ⟨g, c', rfl, by rw [flatB_snoc]; exact hown⟩, hB, hG.trans hB⟩
          · intro listed a W hun hG hO hp
            have h57 : slotOf a 57 = (pmV p) := hp.1
            have h63 : listed.getD 7 false = false → vTwoB wr.heap.size l (y) (slotOf a 63) W := hp.2.1
            obtain ⟨g, c, h63, ho⟩ := h63 hun
            refine wp_enters (f := 28) (args := #[pmV p, .slice (some ⟨g, 0, none⟩) (l.length + 1) c]) ?_ ((HREC.out (y) W (some ⟨g, 0, none⟩) c HYK.out (newer_trans HB.out.1 hG) (row_of_own (enc := intL) (size := 1) (by omega) (fun _ => rfl) ho)).mono ?_)
            · simp [slotOf] at h57 h63
              simp [go_sem, h57, h63]
            · rintro e w' ⟨⟨A, c2, rfl, hr2⟩, hb⟩
              exact ⟨_, rfl, _, rfl, ⟨A, c2, rfl, hr2⟩, hb, below_next hG hb⟩
          · intro listed a W hun hG hO hp
            have h64 : vFoundB (refB p.pj r (l ++ [y])) (slotOf a 64) W := hp.1
            obtain ⟨A, c, h64, hr2⟩ := h64
            refine wp_yields (v := .tuple #[.slice A (refB p.pj r (l ++ [y])).1.length c, .bool (refB p.pj r (l ++ [y])).2]) ?_ ⟨_, rfl, ⟨A, c, rfl, hr2⟩, newer_refl _, hG⟩
            simp [slotOf] at h64
            simp [execOp, go_sem, h64]
          · intro listed a W hun hG hO hp
            have h56 : vFoundB (refB p.pj r (l ++ [y])) (slotOf a 56) W := hp.1
            obtain ⟨A, c, h56, hr2⟩ := h56
            refine wp_yields (v := .slice A (refB p.pj r (l ++ [y])).1.length c) ?_ ⟨_, rfl, ⟨A, c, rfl, hr2⟩, newer_refl _, hG⟩
            simp [slotOf] at h56
            simp [execOp, go_sem, h56]
          · intro listed a W hun hG hO hp
            have h56 : vFoundB (refB p.pj r (l ++ [y])) (slotOf a 56) W := hp.1
            obtain ⟨A, c, h56, -⟩ := h56
            refine wp_yields (v := .bool (refB p.pj r (l ++ [y])).2) ?_ ⟨_, rfl, rfl, newer_refl _, hG⟩
            simp [slotOf] at h56
            simp [execOp, go_sem, h56]
          · intro listed a W hun hG hO hp
            have h65 : vSlB (refB p.pj r (l ++ [y])) (slotOf a 65) W := hp.1
            obtain ⟨A, c, h65, hr2⟩ := h65
            refine wp_yields (v := .slice A (refB p.pj r (l ++ [y])).1.length c) ?_ ⟨_, rfl, ⟨A, c, rfl, hr2⟩, newer_refl _, hG⟩
            simp [slotOf] at h65
            simp [execOp, go_sem, h65]
        · intro W hG
          rintro _ rfl _ - _ rfl _ - _ rfl _ - _ - _ - _ - _ - _ rfl _ ⟨A2, c2, rfl, hrA⟩
          change wpList _ _ _ _ _ _
          simp only [Act.put, List.setIfInBounds_toArray, List.set_cons_zero, List.set_cons_succ, List.drop_succ_cons, List.drop_zero]
          have HF0 := Lib.hid (And.intro (newer_trans HB.out.1 hG) (And.intro (HB.out.2.below hG HB.out.2.lt) (And.intro hrA ((HRW.out.below hG).more hG.size))))
          clear hG hrA HB HRW HYK x0 x1 x2 x3 x4 x5
          obtain ⟨w8, hw8⟩ : ∃ w8, w8 = W := ⟨_, rfl⟩
          rw [← hw8] at HF0 ⊢
          clear hw8 W
          rw [← HFE.out] at HF0 ⊢
          obtain ⟨ff, hff⟩ : ∃ ff, ff = f (l ++ [y]) := ⟨_, rfl⟩
          have hfl := HFL.out y
          have hst : refStep p.pj f l (bl, bb) y = if (f (l ++ [y])).2 && (!bb || decide (costN p.pj.works (f (l ++ [y])).1 < costN p.pj.works bl)) then ((f (l ++ [y])).1, true) else (bl, bb) := rfl
          rw [← hff] at HF0 hfl hst ⊢
          rw [hst] at HNX
          obtain ⟨fl, fb⟩ := ff
          dsimp only at HF0 hfl HNX ⊢
          have HFLL := Lib.hid hfl
          clear hff hfl hst
          have HB := HF0
          clear HF0
          have x0 := HB.out.2.1.at 0 (v := vi p.years) rfl
          have x1 := HB.out.2.1.at 1 (v := vi p.slopes) rfl
          have x2 := HB.out.2.1.at 2 (v := .slice p.wa p.ws.length p.wc) rfl
          have x3 := HB.out.2.1.at 3 (v := .slice p.na p.ns.length p.nc) rfl
          have x4 := HB.out.2.1.at 4 (v := .slice p.va p.vs.length p.vc) rfl
          have x5 := HB.out.2.1.at 5 (v := .slice p.pa p.ps.length p.pc) rfl
          obtain ⟨cf, hcf⟩ : ∃ cf, cf = costN p.pj.works fl := ⟨_, rfl⟩
          obtain ⟨cb, hcb⟩ : ∃ cb, cb = costN p.pj.works bl := ⟨_, rfl⟩
          have HBLL : Hid (bb = true → bl.length = p.ws.length) := Lib.hid (fun hb => by
            have h := HBL.out j
            rw [← HBF.out] at h
            exact h hb)
          have HCF : Hid ((!fb || !bb) = false → ∀ V, newer w V → ∀ A c, Row intL 1 V V.heap.size A fl → Calls Try.prog 30 #[pmV p, .slice A fl.length c] V fun e w' => e = .returned (vi cf) ∧ newer V w') := Lib.hid (fun hs V hV A c h => by rw [hcf]; exact HCO.out fl (HFLL.out (by cases fb; simp at hs; rfl)) V hV A c h)
          have HCB : Hid ((!fb || !bb) = false → ∀ V, newer w V → ∀ A c, Row intL 1 V V.heap.size A bl → Calls Try.prog 30 #[pmV p, .slice A bl.length c] V fun e w' => e = .returned (vi cb) ∧ newer V w') := Lib.hid (fun hs V hV A c h => by rw [hcb]; exact HCO.out bl (HBLL.out (by cases bb; simp at hs; rfl)) V hV A c h)
          rw [← hcf, ← hcb] at HNX
          clear hcf hcb
          go_upto_region 9 with fail
          refine wp_words (by kernel_rfl) (region_told_u 13 (by kernel_rfl) (by kernel_rfl) [false, false, (!fb), (!fb), (!fb), (!fb || !bb), (!fb || !bb), (!fb || !bb), (!fb || !bb), (!fb || !bb), (!fb || !bb), (!fb || !bb), (!fb)] (fun W => Below w8.heap.size w8 W) newer [vIs (.bool fb), vIs (.bool fb), vIs ((bif (!fb) then undef else .bool bb)), vIs ((bif (!fb) then undef else .bool (!bb))), vIs ((bif (!fb) then undef else .bool (!bb))), vIs ((bif (!fb || !bb) then undef else pmV p)), vIs ((bif (!fb || !bb) then undef else .slice A2 fl.length c2)), vIs ((bif (!fb || !bb) then undef else vi cf)), vIs ((bif (!fb || !bb) then undef else pmV p)), vIs ((bif (!fb || !bb) then undef else .slice A1 bl.length c1)), vIs ((bif (!fb || !bb) then undef else vi cb)), vIs ((bif (!fb || !bb) then undef else .bool (decide (cf < cb)))), vIs ((bif (!fb) then undef else .bool (!bb || decide (cf < cb))))] ⟨rfl, rfl, (fun v W h => by obtain rfl : v = _ := h; exact gdT fb), (fun v W h => by obtain rfl : v = _ := h; exact gdT fb), (fun v W h => by obtain rfl : v = _ := h; exact gdT fb), (fun v W h => by obtain rfl : v = _ := h; exact gdM (!fb) (!bb)), (fun v W h => by obtain rfl : v = _ := h; exact gdM (!fb) (!bb)), (fun v W h => by obtain rfl : v = _ := h; exact gdM (!fb) (!bb)), (fun v W h => by obtain rfl : v = _ := h; exact gdM (!fb) (!bb)), (fun v W h => by obtain rfl : v = _ := h; exact gdM (!fb) (!bb)), (fun v W h => by obtain rfl : v = _ := h; exact gdM (!fb) (!bb)), (fun v W h => by obtain rfl : v = _ := h; exact gdM (!fb) (!bb)), (fun v W h => by obtain rfl : v = _ := h; exact gdT fb), trivial⟩ ⟨(fun h => Bool.noConfusion (show false = true from h)), (fun h => Bool.noConfusion (show false = true from h)), (fun h W => skw h W), (fun h W => skw h W), (fun h W => skw h W), (fun h W => skw h W), (fun h W => skw h W), (fun h W => skw h W), (fun h W => skw h W), (fun h W => skw h W), (fun h W => skw h W), (fun h W => skw h W), (fun h W => skw h W), trivial⟩ (fun h k => newer_trans h k) (pickD_stable _ ⟨vIs_st, vIs_st, vIs_st, vIs_st, vIs_st, vIs_st, vIs_st, vIs_st, vIs_st, vIs_st, vIs_st, vIs_st, vIs_st, trivial⟩) (Below.refl _ w8).drew (Below.refl _ _) ?_ ?_)
          · refine ⟨?_, ?_, ?_, ?_, ?_, ?_, ?_, ?_, ?_, ?_, ?_, ?_, ?_, trivial⟩
            · refine .inr ?_
              intro a W hG hR hO hp
              have h11 := hO.slot 11 (by kernel_rfl)
              refine wp_yields (v := .bool fb) ?_ ⟨_, rfl, rfl, Below.refl _ _, hG⟩
              simp [slotOf] at h11
              simp [execOp, go_sem, h11]
            · refine .inr ?_
              intro a W hG hR hO hp
              have h67 : slotOf a 67 = .bool fb := hp.1
              refine wp_yields (v := .bool fb) ?_ ⟨_, rfl, rfl, Below.refl _ _, hG⟩
              simp [slotOf] at h67
              simp [execOp, go_sem, h67]
            · rcases Bool.eq_false_or_eq_true ((!fb)) with hs | hs
              · exact .inl hs
              refine .inr ?_
              intro a W hG hR hO hp
              have h8 := hO.slot 8 (by kernel_rfl)
              refine wp_yields (v := .bool bb) ?_ ⟨_, rfl, (by rw [hs]; rfl), Below.refl _ _, hG⟩
              simp [slotOf] at h8
              simp [execOp, go_sem, h8]
            · rcases Bool.eq_false_or_eq_true ((!fb)) with hs | hs
              · exact .inl hs
              refine .inr ?_
              intro a W hG hR hO hp
              have h69 : slotOf a 69 = (bif (!fb) then undef else .bool bb) := hp.1
              rw [hs, cond_false] at h69
              refine wp_yields (v := .bool (!bb)) ?_ ⟨_, rfl, (by rw [hs]; rfl), Below.refl _ _, hG⟩
              simp [slotOf] at h69
              simp [execOp, go_sem, h69]
            · rcases Bool.eq_false_or_eq_true ((!fb)) with hs | hs
              · exact .inl hs
              refine .inr ?_
              intro a W hG hR hO hp
              have h70 : slotOf a 70 = (bif (!fb) then undef else .bool (!bb)) := hp.1
              rw [hs, cond_false] at h70
              refine wp_yields (v := .bool (!bb)) ?_ ⟨_, rfl, (by rw [hs]; rfl), Below.refl _ _, hG⟩
              simp [slotOf] at h70
              simp [execOp, go_sem, h70]
            · rcases Bool.eq_false_or_eq_true ((!fb || !bb)) with hs | hs
              · exact .inl hs
              refine .inr ?_
              intro a W hG hR hO hp
              have h2 := hO.slot 2 (by kernel_rfl)
              have c0 := keep_cell x0 hG
              have c1 := keep_cell x1 hG
              have c2 := keep_cell x2 hG
              have c3 := keep_cell x3 hG
              have c4 := keep_cell x4 hG
              have c5 := keep_cell x5 hG
              refine wp_yields (v := pmV p) ?_ ⟨_, rfl, (by rw [hs]; rfl), Below.refl _ _, hG⟩
              simp [slotOf] at h2
              simp [execOp, go_sem, h2, c0, c1, c2, c3, c4, c5]
            · rcases Bool.eq_false_or_eq_true ((!fb || !bb)) with hs | hs
              · exact .inl hs
              refine .inr ?_
              intro a W hG hR hO hp
              have h10 := hO.slot 10 (by kernel_rfl)
              refine wp_yields (v := .slice A2 fl.length c2) ?_ ⟨_, rfl, (by rw [hs]; rfl), Below.refl _ _, hG⟩
              simp [slotOf] at h10
              simp [execOp, go_sem, h10]
            · rcases Bool.eq_false_or_eq_true ((!fb || !bb)) with hs | hs
              · exact .inl hs
              refine .inr ?_
              intro a W hG hR hO hp
              have h72 : slotOf a 72 = (bif (!fb || !bb) then undef else pmV p) := hp.1
              rw [hs, cond_false] at h72
              have h73 : slotOf a 73 = (bif (!fb || !bb) then undef else .slice A2 fl.length c2) := hp.2.1
              rw [hs, cond_false] at h73
              refine wp_enters (f := 30) (args := #[pmV p, .slice A2 fl.length c2]) ?_ ((HCF.out hs W (newer_trans HB.out.1 hG) A2 c2 ((HB.out.2.2.1.below hG).more hG.size)).mono ?_)
              · simp [slotOf] at h72 h73
                simp [go_sem, h72, h73]
              · rintro e w' ⟨rfl, hb⟩
                exact ⟨_, rfl, _, rfl, (by rw [hs]; rfl), hb, below_next hG hb⟩
            · rcases Bool.eq_false_or_eq_true ((!fb || !bb)) with hs | hs
              · exact .inl hs
              refine .inr ?_
              intro a W hG hR hO hp
              have h2 := hO.slot 2 (by kernel_rfl)
              have c0 := keep_cell x0 hG
              have c1 := keep_cell x1 hG
              have c2 := keep_cell x2 hG
              have c3 := keep_cell x3 hG
              have c4 := keep_cell x4 hG
              have c5 := keep_cell x5 hG
              refine wp_yields (v := pmV p) ?_ ⟨_, rfl, (by rw [hs]; rfl), Below.refl _ _, hG⟩
              simp [slotOf] at h2
              simp [execOp, go_sem, h2, c0, c1, c2, c3, c4, c5]
            · rcases Bool.eq_false_or_eq_true ((!fb || !bb)) with hs | hs
              · exact .inl hs
              refine .inr ?_
              intro a W hG hR hO hp
              have h7 := hO.slot 7 (by kernel_rfl)
              refine wp_yields (v := .slice A1 bl.length c1) ?_ ⟨_, rfl, (by rw [hs]; rfl), Below.refl _ _, hG⟩
              simp [slotOf] at h7
              simp [execOp, go_sem, h7]
            · rcases Bool.eq_false_or_eq_true ((!fb || !bb)) with hs | hs
              · exact .inl hs
              refine .inr ?_
              intro a W hG hR hO hp
              have h75 : slotOf a 75 = (bif (!fb || !bb) then undef else pmV p) := hp.1
              rw [hs, cond_false] at h75
              have h76 : slotOf a 76 = (bif (!fb || !bb) then undef else .slice A1 bl.length c1) := hp.2.1
              rw [hs, cond_false] at h76
              refine wp_enters (f := 30) (args := #[pmV p, .slice A1 bl.length c1]) ?_ ((HCB.out hs W (newer_trans HB.out.1 hG) A1 c1 ((HB.out.2.2.2.below hG).more hG.size)).mono ?_)
              · simp [slotOf] at h75 h76
                simp [go_sem, h75, h76]
              · rintro e w' ⟨rfl, hb⟩
                exact ⟨_, rfl, _, rfl, (by rw [hs]; rfl), hb, below_next hG hb⟩
            · rcases Bool.eq_false_or_eq_true ((!fb || !bb)) with hs | hs
              · exact .inl hs
              refine .inr ?_
              intro a W hG hR hO hp
              have h74 : slotOf a 74 = (bif (!fb || !bb) then undef else vi cf) := hp.1
              rw [hs, cond_false] at h74
              have h77 : slotOf a 77 = (bif (!fb || !bb) then undef else vi cb) := hp.2.1
              rw [hs, cond_false] at h77
              refine wp_yields (v := .bool (decide (cf < cb))) ?_ ⟨_, rfl, (by rw [hs]; rfl), Below.refl _ _, hG⟩
              simp [slotOf] at h74 h77
              simp [execOp, go_sem, h74, h77]
            · rcases Bool.eq_false_or_eq_true ((!fb)) with hs | hs
              · exact .inl hs
              refine .inr ?_
              intro a W hG hR hO hp
              have h71 : slotOf a 71 = (bif (!fb) then undef else .bool (!bb)) := hp.1
              rw [hs, cond_false] at h71
              have h78 : slotOf a 78 = (bif (!fb || !bb) then undef else .bool (decide (cf < cb))) := hp.2.1
              refine wp_yields (v := .bool (!bb || decide (cf < cb))) ?_ ⟨_, rfl, (by rw [hs]; rfl), Below.refl _ _, hG⟩
              cases fb <;> cases bb <;> first | (exfalso; revert hs; decide) | (simp [slotOf] at h71 h78 <;> simp [execOp, go_sem, h71, h78])
          · intro W hG hR
            rintro _ rfl _ rfl _ rfl _ rfl _ rfl _ rfl _ rfl _ rfl _ rfl _ rfl _ rfl _ rfl _ rfl
            change wpList _ _ _ _ _ _
            simp only [Act.put, List.setIfInBounds_toArray, List.set_cons_zero, List.set_cons_succ, List.drop_succ_cons, List.drop_zero]
            have HF := Lib.hid (And.intro (newer_trans HB.out.1 hG) (And.intro (HB.out.2.1.below hG HB.out.2.1.lt) (And.intro ((HB.out.2.2.1.below hG).more hG.size) ((HB.out.2.2.2.below hG).more hG.size))))
            clear hG hR HB x0 x1 x2 x3 x4 x5 HCF HCB HBLL HFLL
            cases fb with
            | false =>
              have HST2 : Hid (((yearsL x.d).take (j + 1)).foldl (refStep p.pj f l) (f (l ++ [-1])) = (bl, bb)) := Lib.hid (by rw [HNX.out]; rfl)
              go_wp2_with fail
              go_roundw
              case rel => exact ⟨j + 1, by omega, A1, c1, by rw [HST2.out], rfl, by rw [HST2.out], HF.out.1, HF.out.2.1, by rw [HST2.out]; exact HF.out.2.2.2⟩
              case measure =>
                have h1 := HY.out
                simp [intOf]
                omega
            | true =>
              cases bb with
              | false =>
                have HST2 : Hid (((yearsL x.d).take (j + 1)).foldl (refStep p.pj f l) (f (l ++ [-1])) = (fl, true)) := Lib.hid (by rw [HNX.out]; rfl)
                go_wp2_with fail
                go_roundw
                case rel => exact ⟨j + 1, by omega, A2, c2, by rw [HST2.out], rfl, by rw [HST2.out], HF.out.1, HF.out.2.1, by rw [HST2.out]; exact HF.out.2.2.1⟩
                case measure =>
                  have h1 := HY.out
                  simp [intOf]
                  omega
              | true =>
                by_cases hlo : cf < cb
                · have HST2 : Hid (((yearsL x.d).take (j + 1)).foldl (refStep p.pj f l) (f (l ++ [-1])) = (fl, true)) := Lib.hid (by rw [HNX.out, decide_eq_true hlo]; rfl)
                  go_wp2_with fail
                  go_roundw
                  case rel => exact ⟨j + 1, by omega, A2, c2, by rw [HST2.out], rfl, by rw [HST2.out], HF.out.1, HF.out.2.1, by rw [HST2.out]; exact HF.out.2.2.1⟩
                  case measure =>
                    have h1 := HY.out
                    simp [intOf]
                    omega
                · have HST2 : Hid (((yearsL x.d).take (j + 1)).foldl (refStep p.pj f l) (f (l ++ [-1])) = (bl, true)) := Lib.hid (by rw [HNX.out, decide_eq_false hlo]; rfl)
                  go_wp2_with fail
                  go_roundw
                  case rel => exact ⟨j + 1, by omega, A1, c1, by rw [HST2.out], rfl, by rw [HST2.out], HF.out.1, HF.out.2.1, by rw [HST2.out]; exact HF.out.2.2.2⟩
                  case measure =>
                    have h1 := HY.out
                    simp [intOf]
                    omega
      · have hyl : ¬ (y ≤ x.d.last) := by omega
        have HEND : Hid ((yearsL x.d).foldl (refStep p.pj f l) (f (l ++ [-1])) = (bl, bb)) := Lib.hid (by
          rw [HBF.out, List.take_of_length_le]
          unfold yearsL
          rw [List.length_map, List.length_range]
          omega)
        have HN := Lib.hid (And.intro hbw hrow)
        clear hbw hbx hrow hwf hpy hyn hy
        go_wp2_with fail
        refine bodyPost_ret (v := .tuple #[.slice A1 bl.length c1, .bool bb]) (by simp [results, Try.results28, go_sem]) rfl ⟨⟨A1, c1, ?_, ?_⟩, HN.out.1⟩
        · rw [← HFE.out, HEND.out]
        · rw [← HFE.out, HEND.out]
          exact HN.out.2
/-- The reference's Best is its recursion. -/
theorem refBest (p : Pm) (hpo : PjOk p) : ∀ (r : Nat) (l : List Int) (L : Option Addr) (lp : Nat) (w : World), PmOk p w → Row intL 1 w w.heap.size L l → l.length + r = p.ws.length → (l.zip p.pj.works).all okY = true →
    Calls Try.prog 28 #[pmV p, .slice L l.length lp] w (foundC w (refB p.pj r l))
  | 0, l, L, lp, w, hok, hr, hl, hy => refBest_leaf p l L lp w hok hpo (by
      unfold planB
      rw [hy, show p.pj.works.length = p.ws.length by simp [Pm.pj], decide_eq_true (by omega : l.length = p.ws.length)]
      rfl) hr
  | r + 1, l, L, lp, w, hok, hr, hl, hy => by
      obtain ⟨x, hx⟩ := get_of_lt (l := p.ws) (k := l.length) (by omega)
      have hxd : p.pj.works[l.length]? = some x.d := by simp [Pm.pj, hx]
      have h := refBest_node p r l x L lp w hok hpo hx hr hl fun y V A c hyb hV hrV => by
        have h2 := refBest p hpo r (l ++ [y]) A c V (hok.next hV) hrV (by rw [List.length_append]; simp; omega) (by
          rw [zip_snoc y l _ x.d hxd, List.all_append, hy, List.all_cons]
          unfold okY
          rcases hyb with rfl | hyb
          · rfl
          · simp [inB, hyb.1, hyb.2])
        rw [List.length_append] at h2
        exact h2
      unfold refB
      rw [hxd]
      exact h

end Go.Proofs.Ytpnpnfjhjjdmgaa
