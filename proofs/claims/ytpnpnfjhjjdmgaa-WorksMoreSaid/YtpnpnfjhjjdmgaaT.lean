/- Plans are tried; the best plan. -/
import Derived.Test.YtpnpnfjhjjdmgaaR
namespace Go.Proofs.Ytpnpnfjhjjdmgaa
open Go.RowKit Go.Deep
open Go.ChangeMaps (setBlock)

/-- What the search finds, as data. -/
def bestD (first : Bool) (q : Pj) (wo : Int) : Option (List Int × Int) := (tryP (srch q wo) first (q.works.length - sx0.n) sx0 [] ([], none)).2
theorem sx0_cells : stC sx0 = #[vi 0, vi 0, vi 0, vi 0, vi 0, vi 0, vi 0, vi 0, vi 0, vi 0, vi 0, vi 0, vi 0, vi 0, vi 0, vi 0, vi 0, vi 0, vi 0, vi 0, vi 0, vi 0, vi 0, vi 0, vi 0, vi 0] := rfl
set_option maxRecDepth 100000 in
set_option maxHeartbeats 2000000 in
theorem plans_any (p : Pm) (wo : Int) (w : World) :
    Calls Try.prog 59 #[pmV p, vi wo] w fun e w' => ∃ qb mb, e = .returned (.pointer (some ⟨qb, 0, none⟩)) ∧ newer w w' ∧ Whole w' qb 119 (plC p wo mb) ∧ RMap ekS evB mb [] w' ∧ w.heap.size ≤ mb ∧ w.heap.size ≤ qb ∧ qb ≠ mb := by
  have h0 := Whole.made w 35 (pmC p)
  have q0 := h0.at 0 (v := vi p.years) rfl
  have q1 := h0.at 1 (v := vi p.slopes) rfl
  have q2 := h0.at 2 (v := .slice p.wa p.ws.length p.wc) rfl
  have q3 := h0.at 3 (v := .slice p.na p.ns.length p.nc) rfl
  have q4 := h0.at 4 (v := .slice p.va p.vs.length p.vc) rfl
  have q5 := h0.at 5 (v := .slice p.pa p.ps.length p.pc) rfl
  clear h0
  go_enter Try.func59, Try.ntmps59
  go_wp2_with fail
  rw [run_makeMap]
  obtain ⟨w1, hw1⟩ : ∃ w1, w1 = (w.alloc (.cells (pmC p) 35)).alloc (.map #[] 0) := ⟨_, rfl⟩
  have hs : (w.alloc (.cells (pmC p) 35)).heap.size = w.heap.size + 1 := by simp
  rw [← hw1, hs]
  go_wp2_with fail
  go_ret
  have h1 : newer w ((w.alloc (.cells (pmC p) 35)).alloc (.map #[] 0)) := newer_trans (newer_allocH w _) (newer_allocH _ _)
  have h2 := RMap.made ekS evB (w.alloc (.cells (pmC p) 35))
  have h3 := Whole.made ((w.alloc (.cells (pmC p) 35)).alloc (.map #[] 0)) 119 (plC p wo (w.heap.size + 1))
  simp only [World.size_alloc] at h2 h3
  exact ⟨w.heap.size + 1 + 1, w.heap.size + 1, rfl, newer_trans h1 (newer_allocH _ _), h3, h2.next (newer_allocH _ _), by omega, by omega, by omega⟩
/-- The search's places. -/
abbrev tpOf (p : Pm) (wo : Int) (fst : Bool) (B qb mb s : Nat) : TP := ⟨p, wo, fst, B, qb, mb, s, s + 1, s + 1 + 1, s + 1 + 1 + 1, s + 1 + 1 + 1 + 1, s + 1 + 1 + 1 + 1 + 1, s + 1 + 1 + 1 + 1 + 1 + 1, s + 1 + 1 + 1 + 1 + 1 + 1 + 1⟩
set_option maxRecDepth 100000 in
set_option maxHeartbeats 2000000 in
theorem best_any (p : Pm) (wo : Int) (fst : Bool) (B qb mb : Nat) (w : World) (hp : PjOk p) (hpc : p.ps.length ≤ p.pc) (hB : B ≤ qb ∧ B ≤ mb ∧ qb ≠ mb) (hpm : PmAt p w B) (hq : Whole w qb 119 (plC p wo mb)) (hm : RMap ekS evB mb [] w) :
    Calls Try.prog 60 #[.pointer (some ⟨qb, 0, none⟩), .bool fst] w fun e w' => (∃ v, e = .returned (.tuple #[v, vi (costOf (bestD fst p.pj wo)), .bool (bestD fst p.pj wo).isSome]) ∧ planIn w.heap.size (bestD fst p.pj wo) v w') ∧ w.grownBy w' (some mb) := by
  have hql := hq.lt
  have hml := hm.lt
  have hT : TpOk (tpOf p wo fst B qb mb w.heap.size) := ⟨hp, hpc, hB.1, hB.2.1, hB.2.2, hql, hml, by simp, by simp, by simp, by simp, by simp, by simp, by simp⟩
  have HT := Lib.hid hT
  have HI := Lib.hid (And.intro hpm (And.intro hq hm))
  have HTR := Lib.hid (try_any _ hT (p.ws.length - sx0.n))
  have HG0 := Lib.hid (sx0_go p)
  obtain ⟨s, hs⟩ : ∃ s, s = w.heap.size := ⟨_, rfl⟩
  rw [← hs] at HT HTR hql hml
  have HW : Hid (newer w ((((((w).alloc (.cells #[.pointer (some ⟨qb, 0, none⟩)] 102)).alloc (.cells #[.bool fst] 4)).alloc (.cells #[.slice none 0 0] 25)).alloc (.cells #[vi 0] 3)).alloc (.cells #[.bool false] 4)) ∧ ((((((w).alloc (.cells #[.pointer (some ⟨qb, 0, none⟩)] 102)).alloc (.cells #[.bool fst] 4)).alloc (.cells #[.slice none 0 0] 25)).alloc (.cells #[vi 0] 3)).alloc (.cells #[.bool false] 4)).heap.size = s + 1 + 1 + 1 + 1 + 1 ∧ Whole ((((((w).alloc (.cells #[.pointer (some ⟨qb, 0, none⟩)] 102)).alloc (.cells #[.bool fst] 4)).alloc (.cells #[.slice none 0 0] 25)).alloc (.cells #[vi 0] 3)).alloc (.cells #[.bool false] 4)) (s) 102 #[.pointer (some ⟨qb, 0, none⟩)] ∧ Whole ((((((w).alloc (.cells #[.pointer (some ⟨qb, 0, none⟩)] 102)).alloc (.cells #[.bool fst] 4)).alloc (.cells #[.slice none 0 0] 25)).alloc (.cells #[vi 0] 3)).alloc (.cells #[.bool false] 4)) (s + 1) 4 #[.bool fst] ∧ Whole ((((((w).alloc (.cells #[.pointer (some ⟨qb, 0, none⟩)] 102)).alloc (.cells #[.bool fst] 4)).alloc (.cells #[.slice none 0 0] 25)).alloc (.cells #[vi 0] 3)).alloc (.cells #[.bool false] 4)) (s + 1 + 1) 25 #[.slice none 0 0] ∧ Whole ((((((w).alloc (.cells #[.pointer (some ⟨qb, 0, none⟩)] 102)).alloc (.cells #[.bool fst] 4)).alloc (.cells #[.slice none 0 0] 25)).alloc (.cells #[vi 0] 3)).alloc (.cells #[.bool false] 4)) (s + 1 + 1 + 1) 3 #[vi 0] ∧ Whole ((((((w).alloc (.cells #[.pointer (some ⟨qb, 0, none⟩)] 102)).alloc (.cells #[.bool fst] 4)).alloc (.cells #[.slice none 0 0] 25)).alloc (.cells #[vi 0] 3)).alloc (.cells #[.bool false] 4)) (s + 1 + 1 + 1 + 1) 4 #[.bool false]) := Lib.hid (by
    refine ⟨newer_trans (newer_trans (newer_trans (newer_trans (newer_allocH w _) (newer_allocH _ _)) (newer_allocH _ _)) (newer_allocH _ _)) (newer_allocH _ _), by simp [hs], ?_⟩
    have m0 := ((((Whole.made (w) 102 #[.pointer (some ⟨qb, 0, none⟩)]).alloc (.cells #[.bool fst] 4)).alloc (.cells #[.slice none 0 0] 25)).alloc (.cells #[vi 0] 3)).alloc (.cells #[.bool false] 4)
    have m1 := (((Whole.made ((w).alloc (.cells #[.pointer (some ⟨qb, 0, none⟩)] 102)) 4 #[.bool fst]).alloc (.cells #[.slice none 0 0] 25)).alloc (.cells #[vi 0] 3)).alloc (.cells #[.bool false] 4)
    have m2 := ((Whole.made (((w).alloc (.cells #[.pointer (some ⟨qb, 0, none⟩)] 102)).alloc (.cells #[.bool fst] 4)) 25 #[.slice none 0 0]).alloc (.cells #[vi 0] 3)).alloc (.cells #[.bool false] 4)
    have m3 := (Whole.made ((((w).alloc (.cells #[.pointer (some ⟨qb, 0, none⟩)] 102)).alloc (.cells #[.bool fst] 4)).alloc (.cells #[.slice none 0 0] 25)) 3 #[vi 0]).alloc (.cells #[.bool false] 4)
    have m4 := Whole.made (((((w).alloc (.cells #[.pointer (some ⟨qb, 0, none⟩)] 102)).alloc (.cells #[.bool fst] 4)).alloc (.cells #[.slice none 0 0] 25)).alloc (.cells #[vi 0] 3)) 4 #[.bool false]
    simp only [World.size_alloc, ← hs] at m0 m1 m2 m3 m4
    exact ⟨m0, m1, m2, m3, m4⟩)
  clear hT hp hpc hB hpm hm hq
  go_enter Try.func60, Try.ntmps60
  go_upto_region 1 with fail
  rw [← hs]
  have HSE := Lib.hid hs
  clear hs
  refine genQ (fun X => newer w X ∧ X.heap.size = s + 1 + 1 + 1 + 1 + 1 ∧ Whole X (s) 102 #[.pointer (some ⟨qb, 0, none⟩)] ∧ Whole X (s + 1) 4 #[.bool fst] ∧ Whole X (s + 1 + 1) 25 #[.slice none 0 0] ∧ Whole X (s + 1 + 1 + 1) 3 #[vi 0] ∧ Whole X (s + 1 + 1 + 1 + 1) 4 #[.bool false]) HW.out ?_
  clear HW
  rintro w1 ⟨hn, hsz, m0, m1, m2, m3, m4⟩
  have HQ := Lib.hid (HI.out.2.1.below hn (by have := HSE.out; omega))
  have HM := Lib.hid (And.intro hn (And.intro m0 (And.intro m1 (And.intro m2 (And.intro m3 m4)))))
  have c0 := m0.at 0 (v := .pointer (some ⟨qb, 0, none⟩)) rfl
  have q0 := HQ.out.at 0 (v := vi p.years) rfl
  have q1 := HQ.out.at 1 (v := vi p.slopes) rfl
  have q2 := HQ.out.at 2 (v := .slice p.wa p.ws.length p.wc) rfl
  have q3 := HQ.out.at 3 (v := .slice p.na p.ns.length p.nc) rfl
  have q4 := HQ.out.at 4 (v := .slice p.va p.vs.length p.vc) rfl
  have q5 := HQ.out.at 5 (v := .slice p.pa p.ps.length p.pc) rfl
  clear m0 m1 m2 m3 m4 hn
  go_upto_region 4 with fail
  have HTM : Hid (TryM (tpOf p wo fst B qb mb s) [] none (.slice none 0 0) ((w1.alloc (.cells #[.func (.func 62) #[pmV p] #[]] 93)).alloc (.cells #[.func (.func 80) #[] (tpC (tpOf p wo fst B qb mb s))] 120)) ∧ newer w ((w1.alloc (.cells #[.func (.func 62) #[pmV p] #[]] 93)).alloc (.cells #[.func (.func 80) #[] (tpC (tpOf p wo fst B qb mb s))] 120))) := Lib.hid (by
    have n2 : newer w1 ((w1.alloc (.cells #[.func (.func 62) #[pmV p] #[]] 93)).alloc (.cells #[.func (.func 80) #[] (tpC (tpOf p wo fst B qb mb s))] 120)) := newer_trans (newer_allocH w1 _) (newer_allocH _ _)
    obtain ⟨hn, m0, m1, m2, m3, m4⟩ := HM.out
    have y1 := (Whole.made w1 93 #[.func (.func 62) #[pmV p] #[]]).alloc (.cells #[.func (.func 80) #[] (tpC (tpOf p wo fst B qb mb s))] 120)
    have y2 := Whole.made (w1.alloc (.cells #[.func (.func 62) #[pmV p] #[]] 93)) 120 #[.func (.func 80) #[] (tpC (tpOf p wo fst B qb mb s))]
    simp only [World.size_alloc] at y2
    rw [hsz] at y1 y2
    have hw := newer_trans hn n2
    have hb := HT.out.hq
    refine ⟨⟨HQ.out.below n2 HQ.out.lt, HI.out.1.keep (fun q hq => hw.cell (by have := HI.out.2.1.lt; dsimp only at hb; omega)), HI.out.2.2.next hw, m0.below n2 m0.lt, m1.below n2 m1.lt, m2.below n2 m2.lt, m3.below n2 m3.lt, m4.below n2 m4.lt, y1, y2, rfl, ?_⟩, hw⟩
    simp only [World.size_alloc]
    omega)
  refine genQ (fun X => TryM (tpOf p wo fst B qb mb s) [] none (.slice none 0 0) X ∧ newer w X) HTM.out ?_
  clear HTM c0 q0 q1 q2 q3 q4 q5 HM HQ hsz w1
  rintro w1 ⟨htm, hnw⟩
  have c0 := htm.tb.at 0 (v := .func (.func 80) #[] (tpC (tpOf p wo fst B qb mb s))) rfl
  have HTM := Lib.hid (And.intro htm hnw)
  have HC := Lib.hid (HTR.out sx0 [] 0 none 0 [] [] none (.slice none 0 0) w1 rfl HG0.out rfl rfl .nil htm (World.ownsRow_nil w1 _ 3 1) (fun _ => rfl) (fun k h => by simp [Value.ownBlock] at h))
  clear htm hnw HTR
  go_wp2_with fail
  refine (HC.out).mono ?_
  rintro e w2 ⟨⟨vr, rfl⟩, lp', pv, -, htm, -, -, hmv⟩
  obtain ⟨b, hb⟩ : ∃ b, b = (tryP (srch (tpOf p wo fst B qb mb s).p.pj (tpOf p wo fst B qb mb s).wo) (tpOf p wo fst B qb mb s).fst (p.ws.length - sx0.n) sx0 [] ([], none)).2 := ⟨_, rfl⟩
  have hbd : bestD fst p.pj wo = b := by
    rw [hb]
    unfold bestD
    simp only [Pm.pj, List.length_map]
  rw [← hb] at htm
  obtain ⟨mp, xs, hpo⟩ := htm.plan.own
  obtain ⟨Ap, cp, rfl⟩ := own_form hpo
  clear hpo
  have HBD := Lib.hid hbd
  have HT2 := Lib.hid (And.intro htm hmv)
  have cP := htm.pb.at 0 (v := .slice Ap mp cp) rfl
  have cC := htm.cb.at 0 (v := vi (costOf b)) rfl
  have cO := htm.ob.at 0 (v := .bool b.isSome) rfl
  have fP := htm.pb.free 0
  have fC := htm.cb.free 0
  clear HC hb hbd htm hmv c0
  go_upto_region 5 with fail
  refine wp_words (by kernel_rfl) (region_told 5 (by kernel_rfl) (by kernel_rfl) (fun W => Below w2.heap.size w2 W) newer (pickD [vIs (.slice Ap mp cp), vIs (vi (costOf b)), vIs (.bool b.isSome), fun _ _ => True, fun _ _ => True]) (fun h k => newer_trans h k) (pickD_stable _ ⟨vIs_st, vIs_st, vIs_st, fun _ _ _ h _ => h, fun _ _ _ h _ => h, trivial⟩) (Below.refl _ w2).drew (Below.refl _ _) ?_ ?_)
  · refine ⟨?_, ?_, ?_, ?_, ?_, trivial⟩
    · intro a W hG hR hO hp
      have h4 := hO.slot 4 (by kernel_rfl)
      have c0 := keep_cell cP hG
      refine wp_yields (v := .slice Ap mp cp) ?_ ⟨_, rfl, rfl, Below.refl _ _, hG⟩
      simp [slotOf] at h4
      simp [execOp, go_sem, h4, c0]
    · intro a W hG hR hO hp
      have h5 := hO.slot 5 (by kernel_rfl)
      have c0 := keep_cell cC hG
      refine wp_yields (v := vi (costOf b)) ?_ ⟨_, rfl, rfl, Below.refl _ _, hG⟩
      simp [slotOf] at h5
      simp [execOp, go_sem, h5, c0]
    · intro a W hG hR hO hp
      have h6 := hO.slot 6 (by kernel_rfl)
      have c0 := keep_cell cO hG
      refine wp_yields (v := .bool b.isSome) ?_ ⟨_, rfl, rfl, Below.refl _ _, hG⟩
      simp [slotOf] at h6
      simp [execOp, go_sem, h6, c0]
    · intro a W hG hR hO hp
      have h4 := hO.slot 4 (by kernel_rfl)
      have h18 : slotOf a 18 = .slice Ap mp cp := hp.1
      have m0 := keep_cell cP hG
      have m1 := keep_frozen fP cP hG
      refine wp_skips (W' := W) ?_ ⟨undef, rfl, trivial, Below.refl _ _, hG⟩
      simp [slotOf] at h4 h18
      simp [execOp, go_sem, h4, h18, m0, m1]
      exact setCell_same m0
    · intro a W hG hR hO hp
      have h5 := hO.slot 5 (by kernel_rfl)
      have h19 : slotOf a 19 = vi (costOf b) := hp.1
      have m0 := keep_cell cC hG
      have m1 := keep_frozen fC cC hG
      refine wp_skips (W' := W) ?_ ⟨undef, rfl, trivial, Below.refl _ _, hG⟩
      simp [slotOf] at h5 h19
      simp [execOp, go_sem, h5, h19, m0, m1]
      exact setCell_same m0
  · intro W hG hR
    rintro _ rfl _ rfl _ rfl
    change wpList _ _ _ _ _ _
    simp only [Act.put, List.setIfInBounds_toArray, List.set_cons_zero, List.set_cons_succ, List.drop_succ_cons, List.drop_zero]
    have h3 := HT2.out.1.next HT.out hG
    have p0 := h3.pb.at 0 (v := .slice Ap mp cp) rfl
    have p2 := h3.cb.at 0 (v := vi (costOf b)) rfl
    have p4 := h3.ob.at 0 (v := .bool b.isSome) rfl
    have p5 := h3.ob.free 0
    refine wpList_plain rfl fun K3 hK3 => wp_skips (W' := W) ?_ (hK3 _ _ ?_)
    · simp [execOp, go_sem, p4, p5]
      exact setCell_same p4
    simp only [Act.put]
    have HR : Hid (planIn w.heap.size b (.slice Ap mp cp) W ∧ w.grownBy W (some mb)) := Lib.hid (by
      have hse := HSE.out
      refine ⟨?_, ?_⟩
      · have hpl := h3.plan
        cases b with
        | none => exact hpl
        | some q => exact ⟨hpl.1, own_more hpl.2 (by dsimp only [tpOf]; omega)⟩
      · have m := HT2.out.2
        have n1 := HTM.out.2
        refine ⟨hG.os.trans (m.os.trans n1.os), hG.tape.trans (m.tape.trans n1.tape), hG.output.trans (m.output.trans n1.output), Nat.le_trans n1.size (Nat.le_trans m.size hG.size), fun k hk hne => ?_⟩
        have s1 := n1.size
        have s2 := m.size
        refine (hG.block k (by omega)).trans ((m.block k (by omega) (fun e => hne (by rw [e])) ?_ ?_ ?_ (by simp [Value.ownBlock])).trans (n1.block k hk))
        · dsimp only [tpOf]
          omega
        · dsimp only [tpOf]
          omega
        · dsimp only [tpOf]
          omega)
    clear hG hR HT2 HTM cP cC cO fP fC p5 h3
    go_wp2_with fail
    refine bodyPost_ret (v := .tuple #[.slice Ap mp cp, vi (costOf b), .bool b.isSome]) (by simp [results, Try.results60, go_sem, p0, p2, p4]) rfl ⟨⟨.slice Ap mp cp, ?_, ?_⟩, HR.out.2⟩
    · rw [HBD.out]
    · rw [HBD.out]
      exact HR.out.1
/-- A plan is tried for a project, one work left out. -/
theorem tried_any (p : Pm) (wo : Int) (fst : Bool) (w : World) (hok : PmOk p w) (hp : PjOk p) (hpc : p.ps.length ≤ p.pc) (qb mb : Nat) (W : World) (hn : newer w W) (hq : Whole W qb 119 (plC p wo mb)) (hm : RMap ekS evB mb [] W) (h1 : w.heap.size ≤ mb) (h2 : w.heap.size ≤ qb) (h3 : qb ≠ mb) :
    Calls Try.prog 60 #[.pointer (some ⟨qb, 0, none⟩), .bool fst] W fun e w' => (∃ v, e = .returned (.tuple #[v, vi (costOf (bestD fst p.pj wo)), .bool (bestD fst p.pj wo).isSome]) ∧ planIn w.heap.size (bestD fst p.pj wo) v w') ∧ newer w w' := by
  refine (best_any p wo fst w.heap.size qb mb W hp hpc ⟨h2, h1, h3⟩ (hok.at.keep fun q hq => hn.cell hq) hq hm).mono ?_
  rintro e w' ⟨⟨v, rfl, hv⟩, hg⟩
  refine ⟨⟨v, rfl, ?_⟩, hg.os.trans hn.os, hg.tape.trans hn.tape, hg.output.trans hn.output, Nat.le_trans hn.size hg.size, fun k hk => (hg.block k (Nat.lt_of_lt_of_le hk hn.size) (by rw [Ne, Option.some.injEq]; omega)).trans (hn.block k hk)⟩
  cases hb : bestD fst p.pj wo with
  | none => rw [hb] at hv; exact hv
  | some q => rw [hb] at hv; exact ⟨hv.1, own_more hv.2 hn.size⟩
def bestR (q : Pj) : Option (List Int × Int) := if faultN q = 0 then bestD false q (-1) else none
def bestE (q : Pj) : Int := if faultN q = 0 then (if (bestD false q (-1)).isSome = true then 0 else 9) else faultN q
set_option maxRecDepth 100000 in
set_option maxHeartbeats 2000000 in
theorem worksBest_any (p : Pm) (w : World) (hok : PmOk p w) (few : PmFew p) (hpc : p.ps.length ≤ p.pc) :
    Calls Try.prog 27 #[pmV p] w fun e w' => (∃ v, e = .returned (.tuple #[v, vi (costOf (bestR p.pj)), vi (bestE p.pj)]) ∧ planIn w.heap.size (bestR p.pj) v w') ∧ newer w w' := by
  have hnw := newer_allocH w (.cells (pmC p) 35)
  have HCK := Lib.hid (checkProject_any p _ (hok.next hnw) few)
  have HB := Lib.hid (And.intro hnw (Whole.made w 35 (pmC p)))
  obtain ⟨w0, hw0⟩ : ∃ w0, w0 = w.alloc (.cells (pmC p) 35) := ⟨_, rfl⟩
  have q0 := HB.out.2.at 0 (v := vi p.years) rfl
  have q1 := HB.out.2.at 1 (v := vi p.slopes) rfl
  have q2 := HB.out.2.at 2 (v := .slice p.wa p.ws.length p.wc) rfl
  have q3 := HB.out.2.at 3 (v := .slice p.na p.ns.length p.nc) rfl
  have q4 := HB.out.2.at 4 (v := .slice p.va p.vs.length p.vc) rfl
  have q5 := HB.out.2.at 5 (v := .slice p.pa p.ps.length p.pc) rfl
  have HOK := Lib.hid hok
  clear hnw hok
  unfold bestR bestE
  by_cases hf : faultN p.pj = 0
  · rw [if_pos hf, if_pos hf]
    rw [hf] at HCK
    have HP := Lib.hid (fault_ok hf)
    obtain ⟨b, hb⟩ : ∃ b, b = bestD false p.pj (-1) := ⟨_, rfl⟩
    rw [← hb]
    have HBQ := Lib.hid hb
    clear hf hb
    go_enter Try.func27, Try.ntmps27
    go_wp2_with fail
    refine (HCK.out).mono ?_
    rintro e w1 ⟨rfl, hb⟩
    rw [← hw0] at HB hb
    have HB1 := Lib.hid (And.intro (newer_trans HB.out.1 hb) (HB.out.2.below hb HB.out.2.lt))
    clear hb HB HCK q0 q1 q2 q3 q4 q5 hw0 w0
    have q0 := HB1.out.2.at 0 (v := vi p.years) rfl
    have q1 := HB1.out.2.at 1 (v := vi p.slopes) rfl
    have q2 := HB1.out.2.at 2 (v := .slice p.wa p.ws.length p.wc) rfl
    have q3 := HB1.out.2.at 3 (v := .slice p.na p.ns.length p.nc) rfl
    have q4 := HB1.out.2.at 4 (v := .slice p.va p.vs.length p.vc) rfl
    have q5 := HB1.out.2.at 5 (v := .slice p.pa p.ps.length p.pc) rfl
    go_wp2_with fail
    refine (plans_any p (-1) w1).mono ?_
    rintro e w2 ⟨qb, mb, rfl, hn, hq, hm, h1, h2, h3⟩
    have HT := Lib.hid (tried_any p (-1) false w1 (HOK.out.next HB1.out.1) HP.out hpc qb mb w2 hn hq hm h1 h2 h3)
    clear hn hq hm h1 h2 h3 q0 q1 q2 q3 q4 q5
    rw [← HBQ.out] at HT
    go_wp2_with fail
    refine (HT.out).mono ?_
    rintro e w3 ⟨⟨v, rfl, hv⟩, hn⟩
    have HV := Lib.hid (And.intro hv (newer_trans HB1.out.1 hn))
    have HSZ := Lib.hid HB1.out.1.size
    clear hv hn HT HB1
    cases b with
    | none =>
      go_wp2_with fail
      exact bodyPost_ret (v := .tuple #[.slice none 0 0, vi 0, vi 9]) (by simp [results, Try.results27, go_sem]) rfl ⟨⟨_, rfl, rfl⟩, HV.out.2⟩
    | some q =>
      go_wp2_with fail
      exact bodyPost_ret (v := .tuple #[v, vi q.2, vi 0]) (by simp [results, Try.results27, go_sem, costOf]) rfl ⟨⟨_, rfl, HV.out.1.1, own_more HV.out.1.2 HSZ.out⟩, HV.out.2⟩
  · rw [if_neg hf, if_neg hf]
    obtain ⟨er, her⟩ : ∃ er, er = faultN p.pj := ⟨_, rfl⟩
    rw [← her] at hf HCK ⊢
    have hfb : (er == 0) = false := by simpa using hf
    have hfn : (er != 0) = true := by simpa using hf
    clear her hf
    go_enter Try.func27, Try.ntmps27
    go_wp2_with fail
    refine (HCK.out).mono ?_
    rintro e w1 ⟨rfl, hb⟩
    have HN := Lib.hid (newer_trans HB.out.1 hb)
    clear hb
    go_wp2_with fail
    exact bodyPost_ret (v := .tuple #[.slice none 0 0, vi 0, vi er]) (by simp [results, Try.results27, go_sem]) rfl ⟨⟨_, rfl, rfl⟩, HN.out⟩
end Go.Proofs.Ytpnpnfjhjjdmgaa
