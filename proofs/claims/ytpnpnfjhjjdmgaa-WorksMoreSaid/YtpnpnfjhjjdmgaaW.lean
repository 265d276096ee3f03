/- Whether shares prove a bound. -/
import Derived.Test.YtpnpnfjhjjdmgaaV
namespace Go.Proofs.Ytpnpnfjhjjdmgaa
open Go.RowKit Go.Shelf Go.Deep

def markD (D : Nat) : Deferred := { target := .collected D, args := #[] }
/-- The marks of ranges over functions that are over. -/
structure MarksOk (Ds : List Nat) (W : World) : Prop where
  nd : Ds.Nodup
  at_ : ∀ D ∈ Ds, W.heap[D]? = some (.deferred (some []))
theorem MarksOk.lt {Ds : List Nat} {W : World} (h : MarksOk Ds W) : ∀ D ∈ Ds, D < W.heap.size := fun D hD => (Array.getElem?_eq_some_iff.1 (h.at_ D hD)).1
theorem MarksOk.next {Ds : List Nat} {W W' : World} (h : MarksOk Ds W) (hb : newer W W') : MarksOk Ds W' := ⟨h.nd, fun D hD => (hb.block D (h.lt D hD)).trans (h.at_ D hD)⟩
theorem MarksOk.grown {Ds : List Nat} {W W' : World} {d : Nat} (h : MarksOk Ds W) (hg : W.grownBy W' (some d)) (hd : d ∉ Ds) : MarksOk Ds W' := ⟨h.nd, fun D hD => (hg.block D (h.lt D hD) (by intro e; injection e with e; rw [e] at hD; exact hd hD)).trans (h.at_ D hD)⟩
theorem MarksOk.far {Ds : List Nat} {W : World} (h : MarksOk Ds W) {k : Nat} {t : TypeId} {cs : Array Value} (hw : Whole W k t cs) : k ∉ Ds := fun hm => by
  have := h.at_ k hm
  unfold Whole at hw
  rw [hw] at this
  cases this
theorem newer_shut {Ds : List Nat} {w W W2 : World} (hn : newer w W) (hge : ∀ D ∈ Ds, w.heap.size ≤ D) (h1 : W2.os = W.os) (h2 : W2.tape = W.tape) (h3 : W2.output = W.output) (h4 : W2.heap.size = W.heap.size) (h5 : ∀ k, k ∉ Ds → W2.heap[k]? = W.heap[k]?) : newer w W2 :=
  ⟨h1.trans hn.os, h2.trans hn.tape, h3.trans hn.output, by rw [h4]; exact hn.size, fun k hk => (h5 k (fun hm => by have := hge k hm; omega)).trans (hn.block k hk)⟩
theorem leaves_marks {F : Fence} {n : Nat} {P : Program} {fn : Func} {tmps : Array Value} {R : Ending → World → Prop} : ∀ (Ds : List Nat) (W : World), MarksOk Ds W →
    (∀ W', W'.os = W.os → W'.tape = W.tape → W'.output = W.output → W'.heap.size = W.heap.size → (∀ k, k ∉ Ds → W'.heap[k]? = W.heap[k]?) → ∃ v, (results fn tmps).run P W' = .ok v W' ∧ R (.returned v) W') → LeavesInM F n P fn tmps R (Ds.map markD) .returning W
  | [], W, _, h => h W rfl rfl rfl rfl fun _ _ => rfl
  | D :: Ds, W, hm, h => by
    have hnd := List.nodup_cons.1 hm.nd
    refine ⟨by simp, .inl ⟨D, _, rfl, run_takeDeferred (hm.at_ D (by simp)), leaves_marks Ds _ ⟨hnd.2, fun E hE => ?_⟩ fun W' h1 h2 h3 h4 h5 => h W' h1 h2 h3 (h4.trans (by simp)) fun k hk => ?_⟩⟩
    · exact (World.putObj_heap_other (fun e => hnd.1 (by rw [← e]; exact hE))).trans (hm.at_ E (List.mem_cons_of_mem _ hE))
    · rw [List.mem_cons, not_or] at hk
      exact (h5 k hk.2).trans (World.putObj_heap_other hk.1)
/-- What is due, by the shares of the first needs. -/
def dueK (ns : List Nd) (sh : List Int) : Nat → Int
  | 0 => 0
  | k + 1 => dueK ns sh k + (match ns[k]? with
    | some n => iAt sh k * n.due
    | none => 0)
theorem dueK_at {ns : List Nd} {sh : List Int} {k : Nat} {n : Nd} (h : ns[k]? = some n) : dueK ns sh (k + 1) = dueK ns sh k + iAt sh k * n.due := by simp only [dueK, h]
theorem due_bd {ns : List Nd} {sh : List Int} (hn : ∀ n ∈ ns, 1 ≤ n.due ∧ n.due ≤ 10000) (hs : ∀ s ∈ sh, 0 ≤ s ∧ s ≤ 1000000000) : ∀ k, 0 ≤ dueK ns sh k ∧ dueK ns sh k ≤ (k : Int) * 10000000000000
  | 0 => ⟨Int.le_refl _, by simp [dueK]⟩
  | k + 1 => by
    have ih := due_bd hn hs k
    simp only [dueK]
    split
    · rename_i n hk
      have h1 := hn n (List.mem_of_getElem? hk)
      have h2 := iAt_bd (by omega) hs k
      have h5 := mulB h2.1 h2.2 (show 0 ≤ n.due by omega) h1.2
      have h6 := h5.2
      have h7 := h5.1
      omega
    · omega
def yearOk (q : Pj) (sh : List Int) (x : Wd) (j : Nat) : Bool := decide (worthK x (x.first + (j : Int)) q.needs sh q.needs.length ≤ 1000 * x.price)
def workOk (q : Pj) (sh : List Int) (x : Wd) : Bool := !agreeB q.villages x || (List.range (yearsN x)).all (yearOk q sh x)
def boundB (q : Pj) (sh : List Int) (bound : Int) : Bool :=
  decide (faultN q = 0) && decide (sh.length = q.needs.length) && sh.all (fun s => inB s 0 1000000000) && q.works.all (workOk q sh) && decide (bound = (dueK q.needs sh q.needs.length + 999) / 1000)
/-- What ProveBound holds in memory. -/
structure PbM (p : Pm) (A : Option Addr) (n sc : Nat) (w W : World) : Prop where
  nw : newer w W
  b0 : Whole W w.heap.size 35 (pmC p)
  b1 : Whole W (w.heap.size + 1) 25 #[.slice A n sc]
  b2 : Whole W (w.heap.size + 1 + 1) 4 #[.bool false]
section
variable {p : Pm} {A : Option Addr} {n sc : Nat} {w W W' : World}
theorem PbM.next (h : PbM p A n sc w W) (hb : newer W W') : PbM p A n sc w W' := ⟨newer_trans h.nw hb, h.b0.below hb h.b0.lt, h.b1.below hb h.b1.lt, h.b2.below hb h.b2.lt⟩
theorem PbM.grown (h : PbM p A n sc w W) {d : Nat} (hg : W.grownBy W' (some d)) (hd : w.heap.size + 1 + 1 < d) : PbM p A n sc w W' :=
  ⟨h.nw.trans (below_grown hg (fun q hq => by injection hq with hq; omega) h.nw.size), h.b0.grown hg (by intro e; injection e with e; omega), h.b1.grown hg (by intro e; injection e with e; omega), h.b2.grown hg (by intro e; injection e with e; omega)⟩
/-- .. while a work's years are tried. -/
structure PvJ (p : Pm) (A : Option Addr) (n sc : Nat) (x : Wk) (xb yb D : Nat) (Ds : List Nat) (r0 : Loop) (w W : World) : Prop where
  pb : PbM p A n sc w W
  xw : Whole W xb 87 (wkC x)
  yw : Whole W yb 87 (wkC x)
  df : W.heap[D]? = some (.deferred (some []))
  lo : W.heap[D + 1]? = some (.loop r0)
  ms : MarksOk Ds W
variable {x : Wk} {xb yb D : Nat} {Ds : List Nat} {r0 : Loop}
theorem PvJ.next (h : PvJ p A n sc x xb yb D Ds r0 w W) (hb : newer W W') : PvJ p A n sc x xb yb D Ds r0 w W' :=
  ⟨h.pb.next hb, h.xw.below hb h.xw.lt, h.yw.below hb h.yw.lt, (hb.block D (Array.getElem?_eq_some_iff.1 h.df).1).trans h.df, (hb.block (D + 1) (Array.getElem?_eq_some_iff.1 h.lo).1).trans h.lo, h.ms.next hb⟩
theorem PvJ.put (h : PvJ p A n sc x xb yb D Ds r0 w W) (hD : w.heap.size + 1 + 1 < D) (hx : xb < D) (hy : yb < D) (hd : ∀ E ∈ Ds, E < D) (r' : Loop) : PvJ p A n sc x xb yb D Ds r' w (W.putObj (D + 1) (.loop r')) :=
  ⟨h.pb.grown (grown_putL _ _ _) (by omega), h.xw.put (by omega) _, h.yw.put (by omega) _, (World.putObj_heap_other (by omega)).trans h.df, World.putObj_heap_same (Array.getElem?_eq_some_iff.1 h.lo).1, h.ms.grown (grown_putL _ _ _) (fun hm => by have := hd _ hm; omega)⟩
end
attribute [local go_sem] Oper.semAt_some
set_option maxRecDepth 100000 in
set_option maxHeartbeats 4000000 in
theorem prove_any (p : Pm) (sh : List Int) (A : Option Addr) (sc : Nat) (bound : Int) (w : World) (hok : PmOk p w) (few : PmFew p) (hr : Row intL 1 w w.heap.size A sh) (hl : sh.length ≤ 1000) :
    Calls Try.prog 31 #[pmV p, .slice A sh.length sc, vi bound] w fun e w' => e = .returned (.bool (boundB p.pj sh bound)) ∧ newer w w' := by
  have H0 := Lib.hid (show PbM p A sh.length sc w (((w.alloc (.cells (pmC p) 35)).alloc (.cells #[.slice A sh.length sc] 25)).alloc (.cells #[.bool false] 4)) from by
    have m0 := ((Whole.made w 35 (pmC p)).alloc (.cells #[.slice A sh.length sc] 25)).alloc (.cells #[.bool false] 4)
    have m1 := (Whole.made (w.alloc (.cells (pmC p) 35)) 25 #[.slice A sh.length sc]).alloc (.cells #[.bool false] 4)
    have m2 := Whole.made ((w.alloc (.cells (pmC p) 35)).alloc (.cells #[.slice A sh.length sc] 25)) 4 #[.bool false]
    simp only [World.size_alloc] at m1 m2
    exact ⟨newer_trans (newer_trans (newer_allocH w _) (newer_allocH _ _)) (newer_allocH _ _), m0, m1, m2⟩)
  have HOK := Lib.hid hok
  have HR := Lib.hid hr
  have HFW := Lib.hid few
  clear hok hr few
  obtain ⟨res, hres⟩ : ∃ res, res = boundB p.pj sh bound := ⟨_, rfl⟩
  have HRS := Lib.hid hres
  rw [← hres]
  clear hres
  refine callsIn_wide.1 (callsIn_of_wp_marks (n := 9) Try.func31 rfl trivial ?_ rfl)
  simp only [Try.ntmps31, List.size_toArray, List.length_cons, List.length_nil, Nat.reduceAdd, Nat.reduceSub, Array.replicate_succ, Array.replicate_zero, List.push_toArray, List.append_toArray, List.nil_append, List.cons_append]
  refine wpIn_wide.2 ?_
  go_upto_region 2 with fail
  refine genQ (PbM p A sh.length sc w) H0.out ?_
  clear H0
  intro w0 hb0
  have x0 := hb0.b0.at 0 (v := vi p.years) rfl
  have x1 := hb0.b0.at 1 (v := vi p.slopes) rfl
  have x2 := hb0.b0.at 2 (v := .slice p.wa p.ws.length p.wc) rfl
  have x3 := hb0.b0.at 3 (v := .slice p.na p.ns.length p.nc) rfl
  have x4 := hb0.b0.at 4 (v := .slice p.va p.vs.length p.vc) rfl
  have x5 := hb0.b0.at 5 (v := .slice p.pa p.ps.length p.pc) rfl
  have c1 := hb0.b1.at 0 (v := .slice A sh.length sc) rfl
  have HB := Lib.hid hb0
  have HCK := Lib.hid (checkProject_any p w0 (HOK.out.next hb0.nw) HFW.out)
  clear hb0
  by_cases hf : faultN p.pj = 0
  case neg =>
    obtain ⟨er, her⟩ : ∃ er, er = faultN p.pj := ⟨_, rfl⟩
    have hres : res = false := by
      rw [HRS.out]
      unfold boundB
      simp [hf]
    have HRF := Lib.hid hres
    rw [← her] at HCK hf
    have hfn : (er != 0) = true := by simpa using hf
    clear hf her hres
    go_wp2_with fail
    refine (HCK.out).mono ?_
    rintro e w1 ⟨rfl, hb⟩
    have HB1 := Lib.hid (HB.out.next hb)
    clear hb
    have c2 := HB1.out.b2.at 0 (v := .bool false) rfl
    have f2 := HB1.out.b2.free 0
    have hsc := setCell_same c2
    go_wp2_with fail
    refine ⟨.bool false, by simp [results, Try.results31, go_sem, c2], by rw [HRF.out], HB1.out.nw⟩
  case pos =>
    rw [hf] at HCK
    have HP := Lib.hid (fault_ok hf)
    have HF0 := Lib.hid hf
    clear hf
    go_wp2_with fail
    refine (HCK.out).mono ?_
    rintro e w1 ⟨rfl, hb⟩
    have HB1 := Lib.hid (HB.out.next hb)
    clear hb HB HCK x0 x1 x2 x3 x4 x5 c1
    have x3 := HB1.out.b0.at 3 (v := .slice p.na p.ns.length p.nc) rfl
    have c1 := HB1.out.b1.at 0 (v := .slice A sh.length sc) rfl
    by_cases hln : sh.length = p.ns.length
    case neg =>
      have hres : res = false := by
        rw [HRS.out]
        unfold boundB
        simp [Pm.pj, hln]
      have HRF := Lib.hid hres
      have hne : ((sh.length : Int) != p.ns.length) = true := by rw [bne_iff_ne]; omega
      have c2 := HB1.out.b2.at 0 (v := .bool false) rfl
      have f2 := HB1.out.b2.free 0
      have hsc := setCell_same c2
      clear hres
      go_wp2_with fail
      refine ⟨.bool false, by simp [results, Try.results31, go_sem, c2], by rw [HRF.out], HB1.out.nw⟩
    case pos =>
      have hne : ((sh.length : Int) != p.ns.length) = false := by rw [bne_eq_false_iff_eq]; omega
      have HLN := Lib.hid hln
      have HAL := Lib.hid (allShare_any sh (fun s => inB s 0 1000000000) sc A w1 hl ((HR.out.below HB1.out.nw).more HB1.out.nw.size) (fun c _ W _ => share_any c W))
      clear hln
      go_wp2_with fail
      refine (HAL.out).mono ?_
      rintro e w2 ⟨rfl, hb⟩
      have HB2 := Lib.hid (HB1.out.next hb)
      clear hb HB1 HAL x3 c1
      cases hall : sh.all (fun s => inB s 0 1000000000) with
      | false =>
        have hres : res = false := by
          rw [HRS.out]
          unfold boundB
          rw [hall]
          simp
        have HRF := Lib.hid hres
        have c2 := HB2.out.b2.at 0 (v := .bool false) rfl
        have f2 := HB2.out.b2.free 0
        have hsc := setCell_same c2
        clear hres hall
        go_wp2_with fail
        refine ⟨.bool false, by simp [results, Try.results31, go_sem, c2], by rw [HRF.out], HB2.out.nw⟩
      | true =>
        have hsb : ∀ s ∈ sh, 0 ≤ s ∧ s ≤ 1000000000 := fun s hs => by
          have := List.all_eq_true.1 hall s hs
          simp only [inB, Bool.and_eq_true, decide_eq_true_eq] at this
          exact this
        have hdb := fun k => due_bd (ns := p.ns) (sh := sh) (fun n hn => by
          have := HP.out.ns n hn
          simp only [ndB, inB, Bool.and_eq_true, decide_eq_true_eq] at this
          omega) hsb k
        have HSB := Lib.hid (And.intro hsb (And.intro hdb hall))
        clear hsb hdb hall
        have x3 := HB2.out.b0.at 3 (v := .slice p.na p.ns.length p.nc) rfl
        have hnn := HP.out.nn
        go_wp2_with fail
        clear x3
        obtain ⟨na, hna⟩ : ∃ na, na = p.na := ⟨_, rfl⟩
        rw [← hna]
        have HNA := Lib.hid hna
        clear hna
        go_loopw [8, 34] (fun s8 s34 wr => ∃ k : Nat, k ≤ p.ns.length ∧ s34 = .int .i64 k ∧ s8 = vi (dueK p.ns sh k) ∧ PbM p A sh.length sc w wr) (fun _ s34 _ => p.ns.length - (intOf s34).toNat)
        case atStart => exact ⟨0, Nat.zero_le _, rfl, rfl, HB2.out⟩
        case round =>
          obtain ⟨k, hk, rfl, rfl, hb⟩ := hrel
          clear HB2
          by_cases hlt : k < p.ns.length
          · have hkn : (k : Int) < p.ns.length := by omega
            have hlen := HLN.out
            have hkS : (k : Int) < sh.length := by omega
            obtain ⟨n, hn⟩ := get_of_lt hlt
            obtain ⟨sv, hsv⟩ := get_of_lt (l := sh) (k := k) (by omega)
            have hnd := HP.out.ns n (List.mem_of_getElem? hn)
            simp only [ndB, inB, Bool.and_eq_true, decide_eq_true_eq] at hnd
            obtain ⟨ml, hml⟩ : ∃ ml, ml = sv * n.due := ⟨_, rfl⟩
            obtain ⟨ac, hac⟩ : ∃ ac, ac = dueK p.ns sh k := ⟨_, rfl⟩
            obtain ⟨su, hsu⟩ : ∃ su, su = ac + ml := ⟨_, rfl⟩
            have hnx : dueK p.ns sh (k + 1) = su := by rw [dueK_at hn, iAt_of hsv, hsu, hac, hml]
            have hb0 := HSB.out.2.1 k
            have hb1 := HSB.out.2.1 (k + 1)
            rw [hnx] at hb1
            rw [← hac] at hb0 ⊢
            have hsb := HSB.out.1 sv (List.mem_of_getElem? hsv)
            have hmlb := mulB hsb.1 hsb.2 (show 0 ≤ n.due by omega) hnd.2.2
            have eml : IntKind.i64.wrap (sv * n.due) = ml := by rw [hml]; exact IntWalk.i64_in _ (by omega)
            have esu : IntKind.i64.wrap (ac + ml) = su := by rw [hsu]; exact IntWalk.i64_in _ (by omega)
            have HNX := Lib.hid hnx
            obtain ⟨b2, o2, e2, _, d0, d1, d2⟩ := row3 (HOK.out.next hb.nw).ns hn
            have e4 := HNA.out.trans e2
            clear e2 HNA
            subst e4
            obtain ⟨b3, o3, e3, _, cs0⟩ := row1 ((HR.out.below hb.nw).more hb.nw.size) hsv
            have cS0 := hb.b1.at 0 (v := .slice A sh.length sc) rfl
            rw [e3] at cS0
            have HB0 := Lib.hid (And.intro hb (And.intro cs0 cS0))
            clear hb hn hsv hnd hml hac hsu hnx hb0 hb1 hsb hmlb hlen e3
            go_upto_region 8 with fail
            refine genQ (fun X => newer wr X ∧ Whole X wr.heap.size 89 #[vi n.slope, vi n.year, vi n.due]) ⟨newer_allocH _ _, Whole.made _ _ _⟩ ?_
            obtain ⟨nb, hnb⟩ : ∃ nb, nb = wr.heap.size := ⟨_, rfl⟩
            rw [← hnb]
            clear hnb d0 d1 d2 cs0 cS0
            rintro wv ⟨hn, hwx⟩
            have y2 := hwx.at 2 (v := vi n.due) rfl
            have cs := keep_cell HB0.out.2.1 hn
            have cS := keep_cell HB0.out.2.2 hn
            have HB := Lib.hid (And.intro hn (HB0.out.1.next hn))
            clear hn hwx
            refine wp_words (by kernel_rfl) (region_told 9 (by kernel_rfl) (by kernel_rfl) (fun W => Below wv.heap.size wv W) newer (pickD [vIs (vi ac), vIs (.slice (some ⟨b3, o3, none⟩) sh.length sc), vIs (.int .i64 k), vIs (.pointer (some ⟨b3, o3 + k, none⟩)), vIs (vi sv), vIs (.pointer (some ⟨nb, 2, none⟩)), vIs (vi n.due), vIs (vi ml), vIs (vi su)]) (fun h k => newer_trans h k) (pickD_stable _ ⟨vIs_st, vIs_st, vIs_st, vIs_st, vIs_st, vIs_st, vIs_st, vIs_st, vIs_st, trivial⟩) (Below.refl _ wv).drew (Below.refl _ _) ?_ ?_)
            · refine ⟨?_, ?_, ?_, ?_, ?_, ?_, ?_, ?_, ?_, trivial⟩
              · intro a W hG hR hO hp
                have h8 := hO.slot 8 (by kernel_rfl)
                refine wp_yields (v := vi ac) ?_ ⟨_, rfl, rfl, Below.refl _ _, hG⟩
                simp [slotOf] at h8
                simp [execOp, go_sem, h8]
              · intro a W hG hR hO hp
                have h4 := hO.slot 4 (by kernel_rfl)
                have c0 := keep_cell cS hG
                refine wp_yields (v := .slice (some ⟨b3, o3, none⟩) sh.length sc) ?_ ⟨_, rfl, rfl, Below.refl _ _, hG⟩
                simp [slotOf] at h4
                simp [execOp, go_sem, h4, c0]
              · intro a W hG hR hO hp
                have h9 := hO.slot 9 (by kernel_rfl)
                refine wp_yields (v := .int .i64 k) ?_ ⟨_, rfl, rfl, Below.refl _ _, hG⟩
                simp [slotOf] at h9
                simp [execOp, go_sem, h9]
              · intro a W hG hR hO hp
                have h40 : slotOf a 40 = .slice (some ⟨b3, o3, none⟩) sh.length sc := hp.1
                have h41 : slotOf a 41 = .int .i64 k := hp.2.1
                refine wp_yields (v := .pointer (some ⟨b3, o3 + k, none⟩)) ?_ ⟨_, rfl, rfl, Below.refl _ _, hG⟩
                simp [slotOf] at h40 h41
                simp [execOp, go_sem, h40, h41, hkS]
              · intro a W hG hR hO hp
                have h42 : slotOf a 42 = .pointer (some ⟨b3, o3 + k, none⟩) := hp.1
                have c0 := keep_cell cs hG
                refine wp_yields (v := vi sv) ?_ ⟨_, rfl, rfl, Below.refl _ _, hG⟩
                simp [slotOf] at h42
                simp [execOp, go_sem, h42, c0]
              · intro a W hG hR hO hp
                have h10 := hO.slot 10 (by kernel_rfl)
                refine wp_yields (v := .pointer (some ⟨nb, 2, none⟩)) ?_ ⟨_, rfl, rfl, Below.refl _ _, hG⟩
                simp [slotOf] at h10
                simp [execOp, go_sem, h10]
              · intro a W hG hR hO hp
                have h44 : slotOf a 44 = .pointer (some ⟨nb, 2, none⟩) := hp.1
                have c0 := keep_cell y2 hG
                refine wp_yields (v := vi n.due) ?_ ⟨_, rfl, rfl, Below.refl _ _, hG⟩
                simp [slotOf] at h44
                simp [execOp, go_sem, h44, c0]
              · intro a W hG hR hO hp
                have h43 : slotOf a 43 = vi sv := hp.1
                have h45 : slotOf a 45 = vi n.due := hp.2.1
                refine wp_yields (v := vi ml) ?_ ⟨_, rfl, rfl, Below.refl _ _, hG⟩
                simp [slotOf] at h43 h45
                simp [execOp, go_sem, h43, h45, eml]
              · intro a W hG hR hO hp
                have h39 : slotOf a 39 = vi ac := hp.1
                have h46 : slotOf a 46 = vi ml := hp.2.1
                refine wp_yields (v := vi su) ?_ ⟨_, rfl, rfl, Below.refl _ _, hG⟩
                simp [slotOf] at h39 h46
                simp [execOp, go_sem, h39, h46, esu]
            · intro W hG hR
              rintro _ rfl _ rfl _ rfl _ rfl _ rfl _ rfl _ rfl _ rfl _ rfl
              change wpList _ _ _ _ _ _
              simp only [Act.put, List.setIfInBounds_toArray, List.set_cons_zero, List.set_cons_succ, List.drop_succ_cons, List.drop_zero]
              have HF := Lib.hid (HB.out.2.next hG)
              clear hG hR HB HB0 y2 cs cS
              go_wp2_with fail
              go_roundw
              case rel => exact ⟨k + 1, by omega, by go_num, by rw [HNX.out], HF.out⟩
              case measure => simp [intOf]; omega
          · obtain rfl : k = p.ns.length := by omega
            have hkn : ¬ ((p.ns.length : Int) < p.ns.length) := by omega
            have HB2 := Lib.hid hb
            have x2 := hb.b0.at 2 (v := .slice p.wa p.ws.length p.wc) rfl
            clear hb
            go_wp2_with fail
            clear x2
            obtain ⟨wa, hwa⟩ : ∃ wa, wa = p.wa := ⟨_, rfl⟩
            rw [← hwa]
            have HWA := Lib.hid hwa
            have hwn := HP.out.wn
            clear hwa
            refine wp_loop (fun a W => ∃ (k : Nat) (Ds : List Nat) (z5 z9 z10 z11 z12 z13 z14 z15 z16 z17 z18 z19 z20 z21 z22 z23 z24 z25 z26 z27 z28 z29 z30 z31 z32 z33 z34 z35 z36 z37 z38 z39 z40 z41 z42 z43 z44 z45 z46 z47 z48 z49 z53 z54 z55 z56 z57 z58 z59 z60 z61 z62 z63 z64 z65 z66 z67 z68 z69 z70 z71 z72 z73 z74 z75 z76 z77 z52 : Value), a = { tmps := #[pmV p, .slice A sh.length sc, vi bound, .pointer (some ⟨w.heap.size, 0, none⟩), .pointer (some ⟨(w.heap.size + 1), 0, none⟩), z5, .pointer (some ⟨(w.heap.size + 1 + 1), 0, none⟩), .func (.func 61) #[] #[], vi (dueK p.ns sh p.ns.length), z9, z10, z11, z12, z13, z14, z15, z16, z17, z18, z19, z20, z21, z22, z23, z24, z25, z26, z27, z28, z29, z30, z31, z32, z33, z34, z35, z36, z37, z38, z39, z40, z41, z42, z43, z44, z45, z46, z47, z48, z49, .slice wa p.ws.length p.wc, vi (p.ws.length : Int), z52, z53, z54, z55, z56, z57, z58, z59, z60, z61, z62, z63, z64, z65, z66, z67, z68, z69, z70, z71, z72, z73, z74, z75, z76, z77], defers := Ds.map markD } ∧ z52 = .int .i64 k ∧ k ≤ p.ws.length ∧ PbM p A sh.length sc w W ∧ MarksOk Ds W ∧ (∀ D ∈ Ds, w.heap.size ≤ D) ∧ early (fun x => !workOk p.pj sh x.d) p.ws k) (fun a _ => p.ws.length - (intOf (slotOf a 52)).toNat) ?_ ?_
            · exact ⟨0, [], _, _, _, _, _, _, _, _, _, _, _, _, _, _, _, _, _, _, _, _, _, _, _, _, _, _, _, _, _, _, _, _, _, _, _, _, _, _, _, _, _, _, _, _, _, _, _, _, _, _, _, _, _, _, _, _, _, _, _, _, _, _, _, _, _, _, _, _, rfl, rfl, Nat.zero_le _, HB2.out, ⟨List.nodup_nil, by simp⟩, by simp, early_zero _ _⟩
            · rintro a W ⟨k, Ds, z5, z9, z10, z11, z12, z13, z14, z15, z16, z17, z18, z19, z20, z21, z22, z23, z24, z25, z26, z27, z28, z29, z30, z31, z32, z33, z34, z35, z36, z37, z38, z39, z40, z41, z42, z43, z44, z45, z46, z47, z48, z49, z53, z54, z55, z56, z57, z58, z59, z60, z61, z62, z63, z64, z65, z66, z67, z68, z69, z70, z71, z72, z73, z74, z75, z76, z77, z52, rfl, rfl, hk, hb, hms, hge, he⟩
              clear HB2
              have HMS := Lib.hid (And.intro hms (And.intro hge he))
              clear hms hge he
              by_cases hlt : k < p.ws.length
              · have hkn : (k : Int) < p.ws.length := by omega
                obtain ⟨x, hx⟩ := get_of_lt hlt
                have hwp := wdB_parts (HP.out.ws x (List.mem_of_getElem? hx))
                have HX := Lib.hid (And.intro hx hwp)
                obtain ⟨b2, o2, e2, _, d0, d1, d2, d3, d4, d5⟩ := row6 (HOK.out.next hb.nw).ws hx
                have e4 := HWA.out.trans e2
                clear e2 HWA
                subst e4
                have HB := Lib.hid hb
                clear hb hx hwp
                go_upto_region 13 with fail
                refine genQ (fun X => newer W X ∧ Whole X W.heap.size 87 (wkC x)) ⟨newer_allocH _ _, Whole.made _ _ _⟩ ?_
                clear d0 d1 d2 d3 d4 d5
                obtain ⟨xb, hxb⟩ : ∃ xb, xb = W.heap.size := ⟨_, rfl⟩
                rw [← hxb]
                rintro w3 ⟨hn, hxw⟩
                have HB3 := Lib.hid (And.intro (HB.out.next hn) (And.intro hxw (And.intro (HMS.out.1.next hn) (show w.heap.size + 1 + 1 < xb from hxb ▸ HB.out.b2.lt))))
                clear hn hxw hxb HB
                have x0 := HB3.out.1.b0.at 0 (v := vi p.years) rfl
                have x1 := HB3.out.1.b0.at 1 (v := vi p.slopes) rfl
                have x2 := HB3.out.1.b0.at 2 (v := .slice p.wa p.ws.length p.wc) rfl
                have x3 := HB3.out.1.b0.at 3 (v := .slice p.na p.ns.length p.nc) rfl
                have x4 := HB3.out.1.b0.at 4 (v := .slice p.va p.vs.length p.vc) rfl
                have x5 := HB3.out.1.b0.at 5 (v := .slice p.pa p.ps.length p.pc) rfl
                have d0 := HB3.out.2.1.at 0 (v := vi x.d.price) rfl
                have d1 := HB3.out.2.1.at 1 (v := vi x.d.first) rfl
                have d2 := HB3.out.2.1.at 2 (v := vi x.d.last) rfl
                have d3 := HB3.out.2.1.at 3 (v := vi x.d.age) rfl
                have d4 := HB3.out.2.1.at 4 (v := vi x.d.village) rfl
                have d5 := HB3.out.2.1.at 5 (v := .slice x.a x.d.adds.length x.cp) rfl
                go_wp2_with fail
                refine (agreed_any p x _ (HOK.out.next HB3.out.1.nw) (by have h4 := HX.out.2.2.2.2.1; simp only [inB, Bool.and_eq_true, decide_eq_true_eq]; exact h4)).mono ?_
                rintro e w4 ⟨rfl, hb4⟩
                have HB4 := Lib.hid (And.intro (HB3.out.1.next hb4) (And.intro (HB3.out.2.1.below hb4 HB3.out.2.1.lt) (And.intro (HB3.out.2.2.1.next hb4) HB3.out.2.2.2)))
                clear hb4 HB3 x0 x1 x2 x3 x4 x5 d0 d1 d2 d3 d4 d5
                cases hag : agreeB p.vs x.d
                case false =>
                  have hok : workOk p.pj sh x.d = true := by
                    unfold workOk
                    have e : p.pj.villages = p.vs := rfl
                    rw [e, hag]
                    rfl
                  have HE := Lib.hid (early_succ HMS.out.2.2 HX.out.1 (show (!workOk p.pj sh x.d) = false by rw [hok]; rfl))
                  clear hag hok
                  go_wp2_with fail
                  refine ⟨⟨k + 1, Ds, _, _, _, _, _, _, _, _, _, _, _, _, _, _, _, _, _, _, _, _, _, _, _, _, _, _, _, _, _, _, _, _, _, _, _, _, _, _, _, _, _, _, _, _, _, _, _, _, _, _, _, _, _, _, _, _, _, _, _, _, _, _, _, _, _, _, _, _, rfl, by go_num, by omega, HB4.out.1, HB4.out.2.2.1, HMS.out.2.1, HE.out⟩, ?_⟩
                  simp [slotOf, intOf]
                  omega
                case true =>
                  have HAG := Lib.hid hag
                  clear hag
                  have d0 := HB4.out.2.1.at 0 (v := vi x.d.price) rfl
                  have d1 := HB4.out.2.1.at 1 (v := vi x.d.first) rfl
                  have d2 := HB4.out.2.1.at 2 (v := vi x.d.last) rfl
                  have d3 := HB4.out.2.1.at 3 (v := vi x.d.age) rfl
                  have d4 := HB4.out.2.1.at 4 (v := vi x.d.village) rfl
                  have d5 := HB4.out.2.1.at 5 (v := .slice x.a x.d.adds.length x.cp) rfl
                  go_wp2_with fail
                  refine (years_any x _).mono ?_
                  rintro e w6 ⟨rfl, hw6⟩
                  have HF5 : Hid (PbM p A sh.length sc w w6 ∧ Whole w6 xb 87 (wkC x) ∧ Whole w6 w4.heap.size 87 (wkC x) ∧ MarksOk Ds w6 ∧ xb < w6.heap.size ∧ w4.heap.size < w6.heap.size) := Lib.hid (by
                    have h1 : newer w4 w6 := hw6 ▸ newer_allocH w4 _
                    have h2 : Whole w6 w4.heap.size 87 (wkC x) := hw6 ▸ Whole.made w4 87 (wkC x)
                    have h3 := HB4.out.2.1.below h1 HB4.out.2.1.lt
                    exact ⟨HB4.out.1.next h1, h3, h2, HB4.out.2.2.1.next h1, h3.lt, h2.lt⟩)
                  have HXB := Lib.hid HB4.out.2.2.2
                  obtain ⟨ybk, hyb⟩ : ∃ ybk, ybk = w4.heap.size := ⟨_, rfl⟩
                  rw [← hyb] at HF5 ⊢
                  clear hyb hw6 HB4 d0 d1 d2 d3 d4 d5
                  go_wp2_with fail
                  refine (wpIn_wide (n := 9)).1 (range_law (gf := 84) (lb := #[.pointer (some ⟨ybk, 0, none⟩)]) rfl (enters_of Try.func84 (by kernel_rfl) rfl) ?_)
                  intro r0 r1 r2 r3 r4 r5 r6
                  have hxl := HF5.out.2.2.2.2.1
                  have hyl := HF5.out.2.2.2.2.2
                  have hxb := HXB.out
                  have hml := HF5.out.2.2.2.1.lt
                  refine (callsIn_wide.1 (years_early 8 (w6.heap.size + 1) ybk x HX.out.2.2.1.1 HX.out.2.2.1.2.1 (by have := HX.out.2.2.1.2.2; have := HP.out.years; omega) (fun k2 W' => PvJ p A sh.length sc x xb ybk w6.heap.size Ds r0 w W' ∧ ∀ j, j < k2 → yearOk p.pj sh x.d j = true) (fun W' => PvJ p A sh.length sc x xb ybk w6.heap.size Ds (doneOf r0 .ret) w W' ∧ workOk p.pj sh x.d = false) ?hJ ?hY _ ?h0)).mono ?_
                  case hJ => exact fun k2 W' hj => hj.1.yw
                  case h0 =>
                    have h1 := newer_trans (newer_allocH w6 (.deferred (some []))) (newer_allocH (w6.alloc (.deferred (some []))) (.loop r0))
                    refine ⟨⟨HF5.out.1.next h1, HF5.out.2.1.below h1 hxl, HF5.out.2.2.1.below h1 hyl, ?_, ?_, HF5.out.2.2.2.1.next h1⟩, fun j hj => by omega⟩
                    · simp only [heap_if, World.size_alloc]
                      repeat rw [if_neg (by omega)]
                      rfl
                    · simp only [heap_if, World.size_alloc]
                      repeat rw [if_neg (by omega)]
                      rfl
                  case hY =>
                    intro k2 W' hk2 hj
                    refine yield_round (r := r0) hj.1.lo r1 r2 (by rw [r4]; rfl) ?_
                    rw [r3, r4, r5, r6]
                    simp only [List.zip_toArray, List.zip_cons_cons, List.zip_nil_right, List.foldl_toArray, List.foldl_cons, List.foldl_nil, List.setIfInBounds_toArray, List.set_cons_zero, List.set_cons_succ]
                    gi_wp2_with fail
                    refine ⟨hj.1.lo, ?_⟩
                    have hj5 := hj.1.put (by omega) hxl hyl hml (busyOf r0)
                    obtain ⟨w7, hw7⟩ : ∃ w7, w7 = W'.putObj (w6.heap.size + 1) (.loop (busyOf r0)) := ⟨_, rfl⟩
                    rw [← hw7] at hj5 ⊢
                    have HJ := Lib.hid (And.intro hj5 hj.2)
                    have hwb := worth_bd (x := x.d) (y := x.d.first + (k2 : Int)) (ns := p.ns) (sh := sh) HX.out.2.2.2.2.2.2 HX.out.2.2.2.1.1 (fun n hn => by
                      have := HP.out.ns n hn
                      simp only [ndB, inB, Bool.and_eq_true, decide_eq_true_eq] at this
                      omega) HSB.out.1 p.ns.length
                    have hyok : yearOk p.pj sh x.d k2 = decide (worthK x.d (x.d.first + (k2 : Int)) p.ns sh p.ns.length ≤ 1000 * x.d.price) := rfl
                    obtain ⟨wo, hwo⟩ : ∃ wo, wo = worthK x.d (x.d.first + (k2 : Int)) p.ns sh p.ns.length := ⟨_, rfl⟩
                    have hpr1 := HX.out.2.1
                    obtain ⟨pr, hpr⟩ : ∃ pr, pr = 1000 * x.d.price := ⟨_, rfl⟩
                    have epr : IntKind.i64.wrap (1000 * x.d.price) = pr := by rw [hpr]; exact IntWalk.i64_in _ (by omega)
                    rw [← hwo, ← hpr] at hyok
                    have HYK := Lib.hid hyok
                    have HWO : Hid (∀ V, newer w7 V → Calls Try.prog 64 #[pmV p, wkV x, vi (x.d.first + (k2 : Int)), .slice A sh.length sc] V fun e w' => e = .returned (vi wo) ∧ newer V w') := Lib.hid (fun V hV => by
                      rw [hwo]
                      have h1 := HX.out.2.2.1
                      have h2 := HP.out.years
                      have h3 : (k2 : Int) < x.d.last + 1 - x.d.first := by unfold yearsN at hk2; omega
                      have hn7 := newer_trans hj5.pb.nw hV
                      exact worth_any p x (x.d.first + (k2 : Int)) sh A sc V (HOK.out.next hn7) HP.out (List.mem_of_getElem? HX.out.1) (by omega) HLN.out HSB.out.1 ((HR.out.below hn7).more hn7.size))
                    have cS := hj5.pb.b1.at 0 (v := .slice A sh.length sc) rfl
                    have x0 := hj5.pb.b0.at 0 (v := vi p.years) rfl
                    have x1 := hj5.pb.b0.at 1 (v := vi p.slopes) rfl
                    have x2 := hj5.pb.b0.at 2 (v := .slice p.wa p.ws.length p.wc) rfl
                    have x3 := hj5.pb.b0.at 3 (v := .slice p.na p.ns.length p.nc) rfl
                    have x4 := hj5.pb.b0.at 4 (v := .slice p.va p.vs.length p.vc) rfl
                    have x5 := hj5.pb.b0.at 5 (v := .slice p.pa p.ps.length p.pc) rfl
                    have d0 := hj5.xw.at 0 (v := vi x.d.price) rfl
                    have d1 := hj5.xw.at 1 (v := vi x.d.first) rfl
                    have d2 := hj5.xw.at 2 (v := vi x.d.last) rfl
                    have d3 := hj5.xw.at 3 (v := vi x.d.age) rfl
                    have d4 := hj5.xw.at 4 (v := vi x.d.village) rfl
                    have d5 := hj5.xw.at 5 (v := .slice x.a x.d.adds.length x.cp) rfl
                    clear hw7 hj hj5 r1 r2 r3 r4 r5 r6 hwb hyok hwo hpr1 hpr W'
                    gi_wp2_with fail
                    refine round_words (by kernel_rfl) (by kernel_rfl) (fun _ _ h => h) (region_told 8 (by kernel_rfl) (by kernel_rfl) (fun W => Below w7.heap.size w7 W) newer (pickD [vIs (pmV p), vIs (wkV x), vIs (vi (x.d.first + (k2 : Int))), vIs (.slice A sh.length sc), vIs (vi wo), vIs (.pointer (some ⟨xb, 0, none⟩)), vIs (vi x.d.price), vIs (vi pr)]) (fun h k => newer_trans h k) (pickD_stable _ ⟨vIs_st, vIs_st, vIs_st, vIs_st, vIs_st, vIs_st, vIs_st, vIs_st, trivial⟩) (Below.refl _ w7).drew (Below.refl _ _) ?_ ?_)
                    · refine ⟨?_, ?_, ?_, ?_, ?_, ?_, ?_, ?_, trivial⟩
                      · intro a W hG hR hO hp
                        have h3 := hO.slot 3 (by kernel_rfl)
                        have c0 := keep_cell x0 hG
                        have c1 := keep_cell x1 hG
                        have c2 := keep_cell x2 hG
                        have c3 := keep_cell x3 hG
                        have c4 := keep_cell x4 hG
                        have c5 := keep_cell x5 hG
                        refine wp_yields (v := pmV p) ?_ ⟨_, rfl, rfl, Below.refl _ _, hG⟩
                        simp [slotOf] at h3
                        simp [execOp, go_sem, h3, c0, c1, c2, c3, c4, c5]
                      · intro a W hG hR hO hp
                        have h12 := hO.slot 12 (by kernel_rfl)
                        have c0 := keep_cell d0 hG
                        have c1 := keep_cell d1 hG
                        have c2 := keep_cell d2 hG
                        have c3 := keep_cell d3 hG
                        have c4 := keep_cell d4 hG
                        have c5 := keep_cell d5 hG
                        refine wp_yields (v := wkV x) ?_ ⟨_, rfl, rfl, Below.refl _ _, hG⟩
                        simp [slotOf] at h12
                        simp [execOp, go_sem, h12, c0, c1, c2, c3, c4, c5]
                      · intro a W hG hR hO hp
                        have h13 := hO.slot 13 (by kernel_rfl)
                        refine wp_yields (v := vi (x.d.first + (k2 : Int))) ?_ ⟨_, rfl, rfl, Below.refl _ _, hG⟩
                        simp [slotOf] at h13
                        simp [execOp, go_sem, h13]
                      · intro a W hG hR hO hp
                        have h4 := hO.slot 4 (by kernel_rfl)
                        have c0 := keep_cell cS hG
                        refine wp_yields (v := .slice A sh.length sc) ?_ ⟨_, rfl, rfl, Below.refl _ _, hG⟩
                        simp [slotOf] at h4
                        simp [execOp, go_sem, h4, c0]
                      · intro a W hG hR hO hp
                        have h63 : slotOf a 63 = pmV p := hp.1
                        have h64 : slotOf a 64 = wkV x := hp.2.1
                        have h65 : slotOf a 65 = vi (x.d.first + (k2 : Int)) := hp.2.2.1
                        have h66 : slotOf a 66 = .slice A sh.length sc := hp.2.2.2.1
                        refine wp_enters (f := 64) (args := #[pmV p, wkV x, vi (x.d.first + (k2 : Int)), .slice A sh.length sc]) ?_ ((HWO.out W hG).mono ?_)
                        · simp [slotOf] at h63 h64 h65 h66
                          simp [go_sem, h63, h64, h65, h66]
                        · rintro e w' ⟨rfl, hb⟩
                          exact ⟨_, rfl, _, rfl, rfl, hb, below_next hG hb⟩
                      · intro a W hG hR hO hp
                        have h12 := hO.slot 12 (by kernel_rfl)
                        refine wp_yields (v := .pointer (some ⟨xb, 0, none⟩)) ?_ ⟨_, rfl, rfl, Below.refl _ _, hG⟩
                        simp [slotOf] at h12
                        simp [execOp, go_sem, h12]
                      · intro a W hG hR hO hp
                        have h68 : slotOf a 68 = .pointer (some ⟨xb, 0, none⟩) := hp.1
                        have c0 := keep_cell d0 hG
                        refine wp_yields (v := vi x.d.price) ?_ ⟨_, rfl, rfl, Below.refl _ _, hG⟩
                        simp [slotOf] at h68
                        simp [execOp, go_sem, h68, c0]
                      · intro a W hG hR hO hp
                        have h69 : slotOf a 69 = vi x.d.price := hp.1
                        refine wp_yields (v := vi pr) ?_ ⟨_, rfl, rfl, Below.refl _ _, hG⟩
                        simp [slotOf] at h69
                        simp [execOp, go_sem, h69, epr]
                    · intro W hG hR
                      rintro _ rfl _ rfl _ rfl _ rfl _ rfl _ rfl _ rfl _ rfl
                      change wpList _ _ _ _ _ _
                      simp only [Act.put, List.setIfInBounds_toArray, List.set_cons_zero, List.set_cons_succ, List.drop_succ_cons, List.drop_zero]
                      have HJ2 := Lib.hid (And.intro (HJ.out.1.next hG) HJ.out.2)
                      clear hG hR cS x0 x1 x2 x3 x4 x5 d0 d1 d2 d3 d4 d5 HJ HWO epr
                      obtain ⟨w8, hw8⟩ : ∃ w8, w8 = W := ⟨_, rfl⟩
                      rw [← hw8] at HJ2 ⊢
                      clear hw8
                      by_cases hgt : pr < wo
                      · have HBD : Hid (workOk p.pj sh x.d = false) := Lib.hid (by
                          unfold workOk
                          have e : p.pj.villages = p.vs := rfl
                          rw [e, HAG.out, Bool.not_true, Bool.false_or, List.all_eq_false]
                          refine ⟨k2, List.mem_range.2 hk2, ?_⟩
                          rw [HYK.out, decide_eq_true_eq]
                          omega)
                        have c2 := HJ2.out.1.pb.b2.at 0 (v := .bool false) rfl
                        have f2 := HJ2.out.1.pb.b2.free 0
                        have hsc := setCell_same c2
                        have HX8 := Lib.hid (And.intro HJ2.out.1.lo (HJ2.out.1.put (by omega) hxl hyl hml (doneOf r0 .ret)))
                        go_wp2_with fail
                        refine onlyN_intro ?_
                        gi_wp2_with fail
                        exact ⟨HX8.out.1, .inr ⟨rfl, HX8.out.2, HBD.out⟩⟩
                      · have HGD : Hid (∀ j, j < k2 + 1 → yearOk p.pj sh x.d j = true) := Lib.hid (fun j hj => by
                          rcases Nat.lt_or_ge j k2 with h | h
                          · exact HJ2.out.2 j h
                          · obtain rfl : j = k2 := by omega
                            rw [HYK.out, decide_eq_true_eq]
                            omega)
                        have HX8 := Lib.hid (And.intro HJ2.out.1.lo (HJ2.out.1.put (by omega) hxl hyl hml r0))
                        go_wp2_with fail
                        refine onlyN_intro ?_
                        gi_wp2_with fail
                        exact ⟨HX8.out.1, .inl ⟨rfl, HX8.out.2, HGD.out⟩⟩
                  · rintro e W' ⟨⟨v, rfl⟩, ⟨hj, hall⟩ | ⟨hj, hbad⟩⟩
                    · refine ⟨⟨_, rfl⟩, .inl ⟨hj.lo, ?_⟩⟩
                      have hok : workOk p.pj sh x.d = true := by
                        unfold workOk
                        rw [Bool.or_eq_true]
                        exact .inr (List.all_eq_true.2 fun j hj => hall j (List.mem_range.1 hj))
                      have HE := Lib.hid (early_succ HMS.out.2.2 HX.out.1 (show (!workOk p.pj sh x.d) = false by rw [hok]; rfl))
                      have hj9 := hj.put (by omega) hxl hyl hml (overOf r0)
                      have HJ := Lib.hid hj9
                      have HMK : Hid (MarksOk (w6.heap.size :: Ds) (W'.putObj (w6.heap.size + 1) (.loop (overOf r0)))) := Lib.hid ⟨List.nodup_cons.2 ⟨fun hm => by have := hml _ hm; omega, hj9.ms.nd⟩, fun E hE => by
                        rcases List.mem_cons.1 hE with rfl | hE
                        · exact hj9.df
                        · exact hj9.ms.at_ E hE⟩
                      have HGE : Hid (∀ D ∈ w6.heap.size :: Ds, w.heap.size ≤ D) := Lib.hid (fun D hD => by
                        rcases List.mem_cons.1 hD with rfl | hD
                        · omega
                        · exact HMS.out.2.1 D hD)
                      clear hj hj9 hall hok r1 r2 r3 r4 r5 r6
                      go_wp2_with fail
                      refine ⟨⟨k + 1, w6.heap.size :: Ds, _, _, _, _, _, _, _, _, _, _, _, _, _, _, _, _, _, _, _, _, _, _, _, _, _, _, _, _, _, _, _, _, _, _, _, _, _, _, _, _, _, _, _, _, _, _, _, _, _, _, _, _, _, _, _, _, _, _, _, _, _, _, _, _, _, _, _, _, rfl, by go_num, by omega, HJ.out.pb, HMK.out, HGE.out, HE.out⟩, ?_⟩
                      simp [slotOf, intOf]
                      omega
                    · refine ⟨⟨_, rfl⟩, .inr ⟨.ret, hj.lo, ?_⟩⟩
                      have hres : res = false := by
                        rw [HRS.out]
                        unfold boundB
                        have e : p.pj.works.all (workOk p.pj sh) = false := by
                          rw [List.all_eq_false]
                          refine ⟨x.d, ?_, by rw [hbad]; decide⟩
                          exact List.mem_map.2 ⟨x, List.mem_of_getElem? HX.out.1, rfl⟩
                        rw [e]
                        simp
                      have HRF := Lib.hid hres
                      have hj9 := hj.put (by omega) hxl hyl hml (overOf (doneOf r0 .ret))
                      have HJ := Lib.hid hj9
                      have HMK : Hid (MarksOk (w6.heap.size :: Ds) (W'.putObj (w6.heap.size + 1) (.loop (overOf (doneOf r0 .ret))))) := Lib.hid ⟨List.nodup_cons.2 ⟨fun hm => by have := hml _ hm; omega, hj9.ms.nd⟩, fun E hE => by
                        rcases List.mem_cons.1 hE with rfl | hE
                        · exact hj9.df
                        · exact hj9.ms.at_ E hE⟩
                      have HGE : Hid (∀ D ∈ w6.heap.size :: Ds, w.heap.size ≤ D) := Lib.hid (fun D hD => by
                        rcases List.mem_cons.1 hD with rfl | hD
                        · omega
                        · exact HMS.out.2.1 D hD)
                      clear hj hj9 hbad hres r1 r2 r3 r4 r5 r6
                      gi_wp2_with fail
                      refine leaves_marks (w6.heap.size :: Ds) _ HMK.out ?_
                      intro W2 h1 h2 h3 h4 h5
                      have c2 := (HJ.out.pb.b2.same (h5 _ (HMK.out.far HJ.out.pb.b2))).at 0 (v := .bool false) rfl
                      have hn2 := newer_shut HJ.out.pb.nw HGE.out h1 h2 h3 h4 h5
                      exact ⟨.bool false, by simp [results, Try.results31, go_sem, c2], by rw [HRF.out], hn2⟩
              · obtain rfl : k = p.ws.length := by omega
                have hkn : ¬ ((p.ws.length : Int) < p.ws.length) := by omega
                have HB := Lib.hid hb
                clear hb
                obtain ⟨du, hdu⟩ : ∃ du, du = dueK p.ns sh p.ns.length := ⟨_, rfl⟩
                have hdb := HSB.out.2.1 p.ns.length
                rw [← hdu] at hdb ⊢
                obtain ⟨s9, hs9⟩ : ∃ s9, s9 = du + 999 := ⟨_, rfl⟩
                obtain ⟨q, hq⟩ : ∃ q, q = s9 / 1000 := ⟨_, rfl⟩
                have e1 : IntKind.i64.wrap (du + 999) = s9 := by rw [hs9]; exact IntWalk.i64_in _ (by omega)
                have e2 : s9.tdiv 1000 = q := by rw [hq]; exact Int.tdiv_eq_ediv_of_nonneg (by omega)
                have e3 : IntKind.i64.wrap q = q := IntWalk.i64_in _ (by omega)
                have hres : res = (bound == q) := by
                  rw [HRS.out]
                  unfold boundB
                  have ew : p.pj.works.all (workOk p.pj sh) = true := by
                    rw [List.all_eq_true]
                    intro d hd
                    obtain ⟨x, hx, rfl⟩ := List.mem_map.1 hd
                    obtain ⟨j, hj, hjx⟩ := List.getElem_of_mem hx
                    have := HMS.out.2.2 j x hj (by rw [List.getElem?_eq_getElem hj, hjx])
                    simpa using this
                  have en : p.pj.needs = p.ns := rfl
                  rw [ew, HSB.out.2.2, en, ← hdu, ← hs9, ← hq, decide_eq_true HF0.out, decide_eq_true HLN.out]
                  rfl
                have HRQ := Lib.hid hres
                have c2 := HB.out.b2.at 0 (v := .bool false) rfl
                have f2 := HB.out.b2.free 0
                clear hdu hdb hs9 hq hres
                go_wp2_with fail
                have hb3 := HB.out.b2.set 0 (.bool (bound == q))
                have hfar := HMS.out.1.far HB.out.b2
                refine leaves_marks Ds _ ⟨HMS.out.1.nd, fun D hD => (Below.heap_setCell W ⟨w.heap.size + 1 + 1, 0, none⟩ _ D (fun e => hfar (by have e : D = w.heap.size + 1 + 1 := e; rw [← e]; exact hD))).trans (HMS.out.1.at_ D hD)⟩ ?_
                intro W2 h1 h2 h3 h4 h5
                have c3 := (hb3.same (h5 _ hfar)).at 0 (v := .bool (bound == q)) rfl
                have hn2 := newer_shut (HB.out.nw.setCell (p := ⟨w.heap.size + 1 + 1, 0, none⟩) (by dsimp only; omega) (.bool (bound == q))) HMS.out.2.1 h1 h2 h3 h4 h5
                exact ⟨.bool (bound == q), by simp [results, Try.results31, go_sem, c3], by rw [HRQ.out], hn2⟩
end Go.Proofs.Ytpnpnfjhjjdmgaa
