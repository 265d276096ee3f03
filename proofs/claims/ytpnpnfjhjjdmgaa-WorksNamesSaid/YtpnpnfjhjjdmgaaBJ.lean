/- What all works of a plan add, in a truth by words. -/
import Derived.Test.YtpnpnfjhjjdmgaaBD
namespace Go.Proofs.Ytpnpnfjhjjdmgaa
open Go.RowKit Go.Deep

/-- What a work would add in its first year, by a word. -/
def trN (hs : List Hlf) (j : Nat) (r : Rg) : Int := match hs[j % hs.length]? with
  | some h => r.lo + h.n % (r.hi - r.lo + 1)
  | none => r.lo
theorem trN_bd {hs : List Hlf} {j : Nat} {r : Rg} (h : r.lo ≤ r.hi) : r.lo ≤ trN hs j r ∧ trN hs j r ≤ r.hi := by
  unfold trN
  split
  · rename_i z _
    have h1 := Int.emod_nonneg z.n (show r.hi - r.lo + 1 ≠ 0 by omega)
    have h2 := Int.emod_lt_of_pos z.n (show 0 < r.hi - r.lo + 1 by omega)
    omega
  · omega
def truT (hs : List Hlf) (s : Nat) (y : Int) (k : Nat) (b : Option Int) (x : Option Wd) : Int := match b, x with
  | some b, some x => addsN x b y (trN hs (k + s) (rAt x.adds s))
  | _, _ => 0
/-- What the first works of a plan add, in a truth by words. -/
def truK (ws : List Wd) (plan : List Int) (hs : List Hlf) (s : Nat) (y : Int) : Nat → Int
  | 0 => 0
  | k + 1 => truK ws plan hs s y k + truT hs s y k plan[k]? ws[k]?
theorem truK_at {ws : List Wd} {plan : List Int} {hs : List Hlf} {s : Nat} {y : Int} {k : Nat} {b : Int} {x : Wd} (h1 : plan[k]? = some b) (h2 : ws[k]? = some x) : truK ws plan hs s y (k + 1) = truK ws plan hs s y k + addsN x b y (trN hs (k + s) (rAt x.adds s)) := by
  simp only [truK, truT, h1, h2]
theorem addsN_mono {x : Wd} {b y m n : Int} (h : m ≤ n) : addsN x b y m ≤ addsN x b y n := by
  unfold addsN
  split
  · exact Int.le_refl _
  · have h0 : 0 ≤ mxI 0 (1000 - x.age * (y - b)) := by unfold mxI; split <;> omega
    have := Int.mul_le_mul_of_nonneg_right h h0
    omega
theorem take_next {l : List Int} {k : Nat} {z : Int} (h : l[k]? = some z) : (l.take (k + 1)).sum = (l.take k).sum + z := by
  rw [List.take_add_one, h, List.sum_append]
  simp
/-- What is added in a truth lies between what is added at least and at most. -/
theorem tru_between {ws : List Wd} {plan : List Int} {hs : List Hlf} {s : Nat} {y : Int} (hx : ∀ x ∈ ws, ∀ r ∈ x.adds, 0 ≤ r.lo ∧ r.lo ≤ r.hi ∧ r.hi ≤ 10000) (hl : plan.length = ws.length) : ∀ k, k ≤ ws.length →
    ((togL false s y ws plan).take k).sum ≤ truK ws plan hs s y k ∧ truK ws plan hs s y k ≤ ((togL true s y ws plan).take k).sum
  | 0, _ => by simp [truK]
  | k + 1, hk => by
    obtain ⟨x, hxk⟩ := get_of_lt (l := ws) (k := k) (by omega)
    obtain ⟨b, hbk⟩ := get_of_lt (l := plan) (k := k) (by omega)
    have ih := tru_between (hs := hs) (s := s) (y := y) hx hl k (by omega)
    have hg : ∀ hi, (togL hi s y ws plan)[k]? = some (addsN x b y (endR hi (rAt x.adds s))) := by
      intro hi
      unfold togL
      rw [List.getElem?_map, zip_at hbk hxk]
      rfl
    rw [truK_at hbk hxk, take_next (hg false), take_next (hg true)]
    have hr : (rAt x.adds s).lo ≤ (rAt x.adds s).hi := by
      unfold rAt
      cases hr : x.adds[s]? with
      | none => exact Int.le_refl _
      | some r => exact (hx x (List.mem_of_getElem? hxk) r (List.mem_of_getElem? hr)).2.1
    have ht := trN_bd (hs := hs) (j := k + s) hr
    have h1 := addsN_mono (x := x) (b := b) (y := y) ht.1
    have h2 := addsN_mono (x := x) (b := b) (y := y) ht.2
    simp only [endR]
    exact ⟨by simp; omega, by simp; omega⟩
theorem togL_len {hi : Bool} {s : Nat} {y : Int} {ws : List Wd} {plan : List Int} (hl : plan.length = ws.length) : (togL hi s y ws plan).length = ws.length := by unfold togL; simp [hl]
theorem tru_whole {ws : List Wd} {plan : List Int} {hs : List Hlf} {s : Nat} {y : Int} (hx : ∀ x ∈ ws, ∀ r ∈ x.adds, 0 ≤ r.lo ∧ r.lo ≤ r.hi ∧ r.hi ≤ 10000) (hl : plan.length = ws.length) :
    togN false s y ws plan ≤ truK ws plan hs s y ws.length ∧ truK ws plan hs s y ws.length ≤ togN true s y ws plan := by
  have h := tru_between (hs := hs) (s := s) (y := y) hx hl ws.length (Nat.le_refl _)
  rw [List.take_of_length_le (by rw [togL_len hl]; exact Nat.le_refl _), List.take_of_length_le (by rw [togL_len hl]; exact Nat.le_refl _)] at h
  exact h
theorem truK_bd {ws : List Wd} {plan : List Int} {hs : List Hlf} {s : Nat} {y : Int} (hx : ∀ x ∈ ws, 0 ≤ x.age ∧ ∀ r ∈ x.adds, 0 ≤ r.lo ∧ r.lo ≤ r.hi ∧ r.hi ≤ 10000) : ∀ k : Nat, 0 ≤ truK ws plan hs s y k ∧ truK ws plan hs s y k ≤ (k : Int) * 10000
  | 0 => by simp [truK]
  | k + 1 => by
    have ih := truK_bd (plan := plan) (hs := hs) (s := s) (y := y) hx k
    have ht : 0 ≤ truT hs s y k plan[k]? ws[k]? ∧ truT hs s y k plan[k]? ws[k]? ≤ 10000 := by
      unfold truT
      split
      · rename_i b x _ hxk
        have hm := hx x (List.mem_of_getElem? hxk)
        have hr : 0 ≤ (rAt x.adds s).lo ∧ (rAt x.adds s).lo ≤ (rAt x.adds s).hi ∧ (rAt x.adds s).hi ≤ 10000 := by
          unfold rAt
          cases hr : x.adds[s]? with
          | none => exact ⟨Int.le_refl _, Int.le_refl _, by decide⟩
          | some r => exact hm.2 r (List.mem_of_getElem? hr)
        have hb := trN_bd (hs := hs) (j := k + s) hr.2.1
        exact addsN_bd (by omega) (by omega) hm.1
      · omega
    simp only [truK]
    omega
set_option maxRecDepth 100000 in
set_option maxHeartbeats 4000000 in
theorem truly_any (p : Pm) (plan : List Int) (L : Option Addr) (lp s : Nat) (y : Int) (hs : List Hlf) (H : Option Addr) (hc : Nat) (w : World) (hok : PmOk p w) (hpo : PjOk p) (hl : plan.length = p.ws.length) (hpl : ∀ b ∈ plan, -1 ≤ b ∧ b ≤ 1000) (hsl : (s : Int) < p.slopes) (hy0 : 0 ≤ y) (hy1 : y ≤ 1000) (hml : hs.length ≤ maxLen) (hr : Row intL 1 w w.heap.size L plan) (hh : Row hwL 1 w w.heap.size H hs) :
    Calls Try.prog 41 #[pmV p, .slice L plan.length lp, .int .i64 s, vi y, .slice H hs.length hc] w fun e w' => e = .returned (vi (truK p.pj.works plan hs s y p.ws.length)) ∧ newer w w' := by
  have hnw := newer_allocH w (.cells (pmC p) 27)
  have HX := Lib.hid (And.intro (Whole.made w 27 (pmC p)) hnw)
  have hwn := hpo.wn
  have HOK := Lib.hid hok
  have HR := Lib.hid hr
  have HH := Lib.hid hh
  have HPO := Lib.hid hpo
  have HPL := Lib.hid hpl
  have HML := Lib.hid hml
  have HSL := Lib.hid hsl
  have HLE := Lib.hid hl
  have HWG : Hid (∀ (k : Nat) (x : Wk), p.ws[k]? = some x → p.pj.works[k]? = some x.d) := Lib.hid (fun k x hx => by simp [Pm.pj, hx])
  have HTB : Hid (∀ k : Nat, 0 ≤ truK p.pj.works plan hs s y k ∧ truK p.pj.works plan hs s y k ≤ (k : Int) * 10000) := Lib.hid (truK_bd (fun x hx => by
    obtain ⟨z, hz, rfl⟩ := List.mem_map.1 hx
    have h := wdB_parts (hpo.ws z hz)
    exact ⟨h.2.2.1.1, h.2.2.2.2.2⟩))
  obtain ⟨tr, htr⟩ : ∃ tr, tr = truK p.pj.works plan hs s y := ⟨_, rfl⟩
  have HTR := Lib.hid htr
  rw [← htr] at HTB ⊢
  rw [hl]
  clear hpo hok hr hh hnw hml hpl hsl hl htr
  go_enter Try.func41, Try.ntmps41
  go_wp2_with fail
  go_loopw [11, 12] (fun s11 s12 wr => ∃ k : Nat, k ≤ p.ws.length ∧ s12 = .int .i64 k ∧ s11 = vi (tr k) ∧ newer w wr ∧ Whole wr w.heap.size 27 (pmC p)) (fun _ s12 _ => p.ws.length - (intOf s12).toNat)
  case atStart => exact ⟨0, Nat.zero_le _, rfl, by rw [HTR.out]; rfl, HX.out.2, HX.out.1⟩
  case round =>
    obtain ⟨k, hk, rfl, rfl, hbw, hbx⟩ := hrel
    clear HX
    obtain ⟨wo, hwo⟩ : ∃ wo : World, wo = wr := ⟨_, rfl⟩
    rw [← hwo] at hbw hbx ⊢
    clear hwo wr
    have H1 := Lib.hid (And.intro (hbw) (hbx))
    clear hbw hbx
    have x2 := H1.out.2.at 2 (v := .slice p.wa p.ws.length p.wc) rfl
    by_cases hlt : k < p.ws.length
    · have hkn : (k : Int) < p.ws.length := by omega
      obtain ⟨x, hx⟩ := get_of_lt hlt
      obtain ⟨b, hbk⟩ := get_of_lt (l := plan) (k := k) (by rw [HLE.out]; exact hlt)
      have HXD := Lib.hid (HWG.out k x hx)
      have HBK := Lib.hid hbk
      have HWB := Lib.hid (wdB_parts (HPO.out.ws x (List.mem_of_getElem? hx)))
      have HB1 := Lib.hid (HPL.out b (List.mem_of_getElem? hbk))
      obtain ⟨r, hr⟩ := get_of_lt (l := x.d.adds) (k := s) (by have := HSL.out; have := HWB.out.2.2.2.2.1; omega)
      have HRR := Lib.hid hr
      have HRB := Lib.hid (HWB.out.2.2.2.2.2 r (List.mem_of_getElem? hr))
      have hsx : (s : Int) < x.d.adds.length := by have := (List.getElem?_eq_some_iff.1 hr).1; omega
      obtain ⟨b2, o2, e2, _, d0, d1, d2, d3, d4, d5⟩ := row6 (HOK.out.next H1.out.1).ws hx
      rw [e2] at x2
      obtain ⟨b3, o3, e3, _, t0, t1⟩ := row2 ((HOK.out.next H1.out.1).ad x (List.mem_of_getElem? hx)) hr
      have HXM := Lib.hid hx
      rw [e3] at d5
      clear e2 e3 d0 d1 d2 d3 d4 hr hbk hx
      go_upto_region 6 with fail
      refine genQ (fun X => newer w X ∧ Whole X w.heap.size 27 (pmC p) ∧ Whole X wo.heap.size 65 #[vi r.lo, vi r.hi]) ⟨(newer_trans H1.out.1 (newer_allocH wo (.cells #[vi r.lo, vi r.hi] 65))), (H1.out.2.below (newer_allocH wo (.cells #[vi r.lo, vi r.hi] 65)) H1.out.2.lt), Whole.made _ _ _⟩ ?_
      obtain ⟨rb, hrb⟩ : ∃ rb, rb = wo.heap.size := ⟨_, rfl⟩
      have Lrb := Lib.hid (show w.heap.size ≤ rb ∧ w.heap.size < rb by rw [hrb]; exact ⟨H1.out.1.size, H1.out.2.lt⟩)
      rw [← hrb]
      clear hrb x2 d5 t0 t1 hsx
      rintro w2 ⟨g0_, g1_, g2_⟩
      have H3 := Lib.hid (And.intro (g0_) (And.intro (g1_) (g2_)))
      clear g0_ g1_ g2_ H1
      have r_0 := H3.out.2.2.at 0 (v := vi r.lo) rfl
      have r_1 := H3.out.2.2.at 1 (v := vi r.hi) rfl
      obtain ⟨nv, hnv⟩ : ∃ nv, nv = trN hs (k + s) r := ⟨_, rfl⟩
      have HNV := Lib.hid hnv
      clear hnv
      have HNB : Hid (0 ≤ nv ∧ nv ≤ 10000) := Lib.hid (by have h := trN_bd (hs := hs) (j := k + s) HRB.out.2.1; have := HRB.out; rw [HNV.out]; omega)
      by_cases hhe : hs.length = 0
      · have hl0 : ¬ ((0 : Int) < hs.length) := by omega
        have e0 : r.lo = nv := by rw [HNV.out]; unfold trN; rw [List.eq_nil_of_length_eq_zero hhe]; rfl
        clear hhe
        rw [e0] at r_0
        have x2 := H3.out.2.1.at 2 (v := .slice p.wa p.ws.length p.wc) rfl
        obtain ⟨b2, o2, e2, _, d0, d1, d2, d3, d4, d5⟩ := row6 (HOK.out.next H3.out.1).ws HXM.out
        rw [e2] at x2
        obtain ⟨b4, o4, e4, _, cb⟩ := row1 ((HR.out.below H3.out.1).more H3.out.1.size) HBK.out
        subst e4
        obtain ⟨av, hav⟩ : ∃ av, av = addsN x.d b y nv := ⟨_, rfl⟩
        obtain ⟨tv, htv⟩ : ∃ tv, tv = tr k := ⟨_, rfl⟩
        obtain ⟨su, hsu⟩ : ∃ su, su = tv + av := ⟨_, rfl⟩
        have HSU : Hid (tr (k + 1) = su) := Lib.hid (by rw [hsu, htv, hav, HTR.out, truK_at HBK.out HXD.out, rAt_of HRR.out, HNV.out])
        have hab : 0 ≤ av ∧ av ≤ 10000 := by rw [hav]; exact addsN_bd HNB.out.1 HNB.out.2 HWB.out.2.2.1.1
        have htb := HTB.out k
        rw [← htv] at htb ⊢
        have esu : IntKind.i64.wrap (tv + av) = su := by rw [← hsu]; exact IntWalk.i64_in _ (by omega)
        have HCA := Lib.hid (fun (V : World) => refAdds x b y nv V HWB.out.2.2.1.1 HWB.out.2.2.1.2 HNB.out.1 HNB.out.2 HB1.out hy0 hy1)
        simp only [addsR_is HB1.out.1, ← hav] at HCA
        clear hav htv hsu hab htb e2
        go_upto_region 9 with fail
        refine wp_words (by kernel_rfl) (region_told 14 (by kernel_rfl) (by kernel_rfl) (fun W => Below w2.heap.size w2 W) newer (pickD [vIs (vi tv), vIs (.pointer (some ⟨w.heap.size, 2, none⟩)), vIs (.slice (some ⟨b2, o2, none⟩) p.ws.length p.wc), vIs (.int .i64 k), vIs (.pointer (some ⟨b2, o2 + k * 6, none⟩)), vIs (wkV x), vIs (.slice (some ⟨b4, o4, none⟩) p.ws.length lp), vIs (.int .i64 k), vIs (.pointer (some ⟨b4, o4 + k, none⟩)), vIs (vi b), vIs (vi y), vIs (vi nv), vIs (vi av), vIs (vi su)]) (fun h k => newer_trans h k) (pickD_stable _ ⟨vIs_st, vIs_st, vIs_st, vIs_st, vIs_st, vIs_st, vIs_st, vIs_st, vIs_st, vIs_st, vIs_st, vIs_st, vIs_st, vIs_st, trivial⟩) (Below.refl _ w2).drew (Below.refl _ _) ?_ ?_)
        · refine ⟨?_, ?_, ?_, ?_, ?_, ?_, ?_, ?_, ?_, ?_, ?_, ?_, ?_, ?_, trivial⟩
          · intro a W hG hR hO hp
            have h11 := hO.slot 11 (by kernel_rfl)
            refine wp_yields (v := vi tv) ?_ ⟨_, rfl, rfl, Below.refl _ _, hG⟩
            simp [slotOf] at h11
            simp [execOp, go_sem, h11]
          · intro a W hG hR hO hp
            have h5 := hO.slot 5 (by kernel_rfl)
            refine wp_yields (v := .pointer (some ⟨w.heap.size, 2, none⟩)) ?_ ⟨_, rfl, rfl, Below.refl _ _, hG⟩
            simp [slotOf] at h5
            simp [execOp, go_sem, h5]
          · intro a W hG hR hO hp
            have h55 : slotOf a 55 = .pointer (some ⟨w.heap.size, 2, none⟩) := hp.1
            have c0 := keep_cell x2 hG
            refine wp_yields (v := .slice (some ⟨b2, o2, none⟩) p.ws.length p.wc) ?_ ⟨_, rfl, rfl, Below.refl _ _, hG⟩
            simp [slotOf] at h55
            simp [execOp, go_sem, h55, c0]
          · intro a W hG hR hO hp
            have h12 := hO.slot 12 (by kernel_rfl)
            refine wp_yields (v := .int .i64 k) ?_ ⟨_, rfl, rfl, Below.refl _ _, hG⟩
            simp [slotOf] at h12
            simp [execOp, go_sem, h12]
          · intro a W hG hR hO hp
            have h56 : slotOf a 56 = .slice (some ⟨b2, o2, none⟩) p.ws.length p.wc := hp.1
            have h57 : slotOf a 57 = .int .i64 k := hp.2.1
            refine wp_yields (v := .pointer (some ⟨b2, o2 + k * 6, none⟩)) ?_ ⟨_, rfl, rfl, Below.refl _ _, hG⟩
            simp [slotOf] at h56 h57
            simp [execOp, go_sem, h56, h57, hkn]
          · intro a W hG hR hO hp
            have h58 : slotOf a 58 = .pointer (some ⟨b2, o2 + k * 6, none⟩) := hp.1
            have c0 := keep_cell d0 hG
            have c1 := keep_cell d1 hG
            have c2 := keep_cell d2 hG
            have c3 := keep_cell d3 hG
            have c4 := keep_cell d4 hG
            have c5 := keep_cell d5 hG
            refine wp_yields (v := wkV x) ?_ ⟨_, rfl, rfl, Below.refl _ _, hG⟩
            simp [slotOf] at h58
            simp [execOp, go_sem, h58, c0, c1, c2, c3, c4, c5]
          · intro a W hG hR hO hp
            have h1 := hO.slot 1 (by kernel_rfl)
            refine wp_yields (v := .slice (some ⟨b4, o4, none⟩) p.ws.length lp) ?_ ⟨_, rfl, rfl, Below.refl _ _, hG⟩
            simp [slotOf] at h1
            simp [execOp, go_sem, h1]
          · intro a W hG hR hO hp
            have h12 := hO.slot 12 (by kernel_rfl)
            refine wp_yields (v := .int .i64 k) ?_ ⟨_, rfl, rfl, Below.refl _ _, hG⟩
            simp [slotOf] at h12
            simp [execOp, go_sem, h12]
          · intro a W hG hR hO hp
            have h60 : slotOf a 60 = .slice (some ⟨b4, o4, none⟩) p.ws.length lp := hp.1
            have h61 : slotOf a 61 = .int .i64 k := hp.2.1
            refine wp_yields (v := .pointer (some ⟨b4, o4 + k, none⟩)) ?_ ⟨_, rfl, rfl, Below.refl _ _, hG⟩
            simp [slotOf] at h60 h61
            simp [execOp, go_sem, h60, h61, hkn]
          · intro a W hG hR hO hp
            have h62 : slotOf a 62 = .pointer (some ⟨b4, o4 + k, none⟩) := hp.1
            have c0 := keep_cell cb hG
            refine wp_yields (v := vi b) ?_ ⟨_, rfl, rfl, Below.refl _ _, hG⟩
            simp [slotOf] at h62
            simp [execOp, go_sem, h62, c0]
          · intro a W hG hR hO hp
            have h3 := hO.slot 3 (by kernel_rfl)
            refine wp_yields (v := vi y) ?_ ⟨_, rfl, rfl, Below.refl _ _, hG⟩
            simp [slotOf] at h3
            simp [execOp, go_sem, h3]
          · intro a W hG hR hO hp
            have h14 := hO.slot 14 (by kernel_rfl)
            refine wp_yields (v := vi nv) ?_ ⟨_, rfl, rfl, Below.refl _ _, hG⟩
            simp [slotOf] at h14
            simp [execOp, go_sem, h14]
          · intro a W hG hR hO hp
            have h59 : slotOf a 59 = wkV x := hp.1
            have h63 : slotOf a 63 = vi b := hp.2.1
            have h64 : slotOf a 64 = vi y := hp.2.2.1
            have h65 : slotOf a 65 = vi nv := hp.2.2.2.1
            refine wp_enters (f := 58) (args := #[wkV x, vi b, vi y, vi nv]) ?_ ((HCA.out W).mono ?_)
            · simp [slotOf] at h59 h63 h64 h65
              simp [go_sem, h59, h63, h64, h65]
            · rintro e w' ⟨rfl, hb⟩
              exact ⟨_, rfl, _, rfl, rfl, hb, below_next hG hb⟩
          · intro a W hG hR hO hp
            have h54 : slotOf a 54 = vi tv := hp.1
            have h66 : slotOf a 66 = vi av := hp.2.1
            refine wp_yields (v := vi su) ?_ ⟨_, rfl, rfl, Below.refl _ _, hG⟩
            simp [slotOf] at h54 h66
            simp [execOp, go_sem, h54, h66, esu]
        · intro wz hG hR
          rintro _ rfl _ rfl _ rfl _ rfl _ rfl _ rfl _ rfl _ rfl _ rfl _ rfl _ rfl _ rfl _ rfl _ rfl
          change wpList _ _ _ _ _ _
          simp only [Act.put, List.setIfInBounds_toArray, List.set_cons_zero, List.set_cons_succ, List.drop_succ_cons, List.drop_zero]
          have H4 := Lib.hid (And.intro ((newer_trans H3.out.1 hG)) (And.intro ((H3.out.2.1.below hG H3.out.2.1.lt)) ((H3.out.2.2.below hG H3.out.2.2.lt))))
          clear hG hR x2 d0 d1 d2 d3 d4 d5 cb esu H3
          go_wp2_with fail
          exact ⟨⟨k + 1, by omega, by go_num, by rw [HSU.out], H4.out.1, H4.out.2.1⟩, by (simp only [intOf]; omega)⟩
      · have hl0 : (0 : Int) < hs.length := by omega
        have hml := HML.out
        unfold maxLen at hml
        obtain ⟨j, hj⟩ : ∃ j, j = (k + s) % hs.length := ⟨_, rfl⟩
        have hjb : j < hs.length := by rw [hj]; exact Nat.mod_lt _ (by omega)
        obtain ⟨hv, hhv⟩ := get_of_lt hjb
        have hjn : (j : Int) < hs.length := by omega
        have hbn : ¬ (hs = []) := by rintro rfl; exact hhe rfl
        have hwn8 := HPO.out.wn
        have hs6 := HPO.out.slopes
        have hss := HSL.out
        have hrb := HRB.out
        have hv0 := hv.lo
        have hv1 := hv.hi
        have e39 : IntKind.i64.wrap ((k : Int) + s) = (k : Int) + s := IntWalk.i64_in _ (by omega)
        have e42 : ((k : Int) + s).tmod hs.length = j := by
          rw [hj, Int.tmod_eq_emod_of_nonneg (by omega)]
          simp
        obtain ⟨dd, hdd⟩ : ∃ dd, dd = r.hi - r.lo := ⟨_, rfl⟩
        obtain ⟨mm, hmm⟩ : ∃ mm, mm = dd + 1 := ⟨_, rfl⟩
        obtain ⟨kc, hkc⟩ : ∃ kc, kc = hv.n % mm := ⟨_, rfl⟩
        have hm0 : ¬ (mm = 0) := by omega
        have e45 : IntKind.i64.wrap hv.n = hv.n := IntWalk.i64_in _ (by omega)
        have e50 : IntKind.i64.wrap (r.hi - r.lo) = dd := by rw [← hdd]; exact IntWalk.i64_in _ (by omega)
        have e51 : IntKind.i64.wrap (dd + 1) = mm := by rw [← hmm]; exact IntWalk.i64_in _ (by omega)
        have e52 : hv.n.tmod mm = kc := by rw [hkc]; exact Int.tmod_eq_emod_of_nonneg hv0
        have hk1 : 0 ≤ kc ∧ kc < mm := by rw [hkc]; exact ⟨Int.emod_nonneg _ hm0, Int.emod_lt_of_pos _ (by omega)⟩
        have hn2 : nv = r.lo + kc := by rw [HNV.out]; unfold trN; rw [← hj, hhv, hkc, hmm, hdd]
        have e53 : IntKind.i64.wrap (r.lo + kc) = nv := by rw [hn2]; exact IntWalk.i64_in _ (by omega)
        obtain ⟨b5, o5, e5, _, ch⟩ := row_half ((HH.out.below H3.out.1).more H3.out.1.size) hhv
        have HHS := Lib.hid e5
        subst e5
        clear hml hj hjb hhv hwn8 hs6 hss hrb hv0 hv1 hdd hmm hkc hk1 hn2 hhe
        go_upto_region 8 with fail
        refine wp_words (by kernel_rfl) (region_told 19 (by kernel_rfl) (by kernel_rfl) (fun W => Below w2.heap.size w2 W) newer (pickD [vIs (vi r.lo), vIs (.slice (some ⟨b5, o5, none⟩) hs.length hc), vIs (.int .i64 k), vIs (.int .i64 s), vIs (vi ((k : Int) + s)), vIs (.slice (some ⟨b5, o5, none⟩) hs.length hc), vIs (.int .i64 hs.length), vIs (.int .i64 j), vIs (.pointer (some ⟨b5, o5 + j, none⟩)), vIs (.int .u16 hv.n), vIs (vi hv.n), vIs (.pointer (some ⟨rb, 1, none⟩)), vIs (vi r.hi), vIs (.pointer (some ⟨rb, 0, none⟩)), vIs (vi r.lo), vIs (vi dd), vIs (vi mm), vIs (vi kc), vIs (vi nv)]) (fun h k => newer_trans h k) (pickD_stable _ ⟨vIs_st, vIs_st, vIs_st, vIs_st, vIs_st, vIs_st, vIs_st, vIs_st, vIs_st, vIs_st, vIs_st, vIs_st, vIs_st, vIs_st, vIs_st, vIs_st, vIs_st, vIs_st, vIs_st, trivial⟩) (Below.refl _ w2).drew (Below.refl _ _) ?_ ?_)
        · refine ⟨?_, ?_, ?_, ?_, ?_, ?_, ?_, ?_, ?_, ?_, ?_, ?_, ?_, ?_, ?_, ?_, ?_, ?_, ?_, trivial⟩
          · intro a W hG hR hO hp
            have h14 := hO.slot 14 (by kernel_rfl)
            refine wp_yields (v := vi r.lo) ?_ ⟨_, rfl, rfl, Below.refl _ _, hG⟩
            simp [slotOf] at h14
            simp [execOp, go_sem, h14]
          · intro a W hG hR hO hp
            have h4 := hO.slot 4 (by kernel_rfl)
            refine wp_yields (v := .slice (some ⟨b5, o5, none⟩) hs.length hc) ?_ ⟨_, rfl, rfl, Below.refl _ _, hG⟩
            simp [slotOf] at h4
            simp [execOp, go_sem, h4]
          · intro a W hG hR hO hp
            have h12 := hO.slot 12 (by kernel_rfl)
            refine wp_yields (v := .int .i64 k) ?_ ⟨_, rfl, rfl, Below.refl _ _, hG⟩
            simp [slotOf] at h12
            simp [execOp, go_sem, h12]
          · intro a W hG hR hO hp
            have h2 := hO.slot 2 (by kernel_rfl)
            refine wp_yields (v := .int .i64 s) ?_ ⟨_, rfl, rfl, Below.refl _ _, hG⟩
            simp [slotOf] at h2
            simp [execOp, go_sem, h2]
          · intro a W hG hR hO hp
            have h37 : slotOf a 37 = .int .i64 k := hp.1
            have h38 : slotOf a 38 = .int .i64 s := hp.2.1
            refine wp_yields (v := vi ((k : Int) + s)) ?_ ⟨_, rfl, rfl, Below.refl _ _, hG⟩
            simp [slotOf] at h37 h38
            simp [execOp, go_sem, h37, h38, e39]
          · intro a W hG hR hO hp
            have h4 := hO.slot 4 (by kernel_rfl)
            refine wp_yields (v := .slice (some ⟨b5, o5, none⟩) hs.length hc) ?_ ⟨_, rfl, rfl, Below.refl _ _, hG⟩
            simp [slotOf] at h4
            simp [execOp, go_sem, h4]
          · intro a W hG hR hO hp
            have h40 : slotOf a 40 = .slice (some ⟨b5, o5, none⟩) hs.length hc := hp.1
            refine wp_yields (v := .int .i64 hs.length) ?_ ⟨_, rfl, rfl, Below.refl _ _, hG⟩
            simp [slotOf] at h40
            simp [go_sem, h40]
          · intro a W hG hR hO hp
            have h39 : slotOf a 39 = vi ((k : Int) + s) := hp.1
            have h41 : slotOf a 41 = .int .i64 hs.length := hp.2.1
            refine wp_yields (v := .int .i64 j) ?_ ⟨_, rfl, rfl, Below.refl _ _, hG⟩
            simp [slotOf] at h39 h41
            simp [execOp, go_sem, h39, h41, e42, hbn]
          · intro a W hG hR hO hp
            have h36 : slotOf a 36 = .slice (some ⟨b5, o5, none⟩) hs.length hc := hp.1
            have h42 : slotOf a 42 = .int .i64 j := hp.2.1
            refine wp_yields (v := .pointer (some ⟨b5, o5 + j, none⟩)) ?_ ⟨_, rfl, rfl, Below.refl _ _, hG⟩
            simp [slotOf] at h36 h42
            simp [execOp, go_sem, h36, h42, hjn]
          · intro a W hG hR hO hp
            have h43 : slotOf a 43 = .pointer (some ⟨b5, o5 + j, none⟩) := hp.1
            have c0 := keep_cell ch hG
            refine wp_yields (v := .int .u16 hv.n) ?_ ⟨_, rfl, rfl, Below.refl _ _, hG⟩
            simp [slotOf] at h43
            simp [execOp, go_sem, h43, c0]
          · intro a W hG hR hO hp
            have h44 : slotOf a 44 = .int .u16 hv.n := hp.1
            refine wp_yields (v := vi hv.n) ?_ ⟨_, rfl, rfl, Below.refl _ _, hG⟩
            simp [slotOf] at h44
            simp [execOp, go_sem, h44, e45]
          · intro a W hG hR hO hp
            have h13 := hO.slot 13 (by kernel_rfl)
            refine wp_yields (v := .pointer (some ⟨rb, 1, none⟩)) ?_ ⟨_, rfl, rfl, Below.refl _ _, hG⟩
            simp [slotOf] at h13
            simp [execOp, go_sem, h13]
          · intro a W hG hR hO hp
            have h46 : slotOf a 46 = .pointer (some ⟨rb, 1, none⟩) := hp.1
            have c0 := keep_cell r_1 hG
            refine wp_yields (v := vi r.hi) ?_ ⟨_, rfl, rfl, Below.refl _ _, hG⟩
            simp [slotOf] at h46
            simp [execOp, go_sem, h46, c0]
          · intro a W hG hR hO hp
            have h13 := hO.slot 13 (by kernel_rfl)
            refine wp_yields (v := .pointer (some ⟨rb, 0, none⟩)) ?_ ⟨_, rfl, rfl, Below.refl _ _, hG⟩
            simp [slotOf] at h13
            simp [execOp, go_sem, h13]
          · intro a W hG hR hO hp
            have h48 : slotOf a 48 = .pointer (some ⟨rb, 0, none⟩) := hp.1
            have c0 := keep_cell r_0 hG
            refine wp_yields (v := vi r.lo) ?_ ⟨_, rfl, rfl, Below.refl _ _, hG⟩
            simp [slotOf] at h48
            simp [execOp, go_sem, h48, c0]
          · intro a W hG hR hO hp
            have h47 : slotOf a 47 = vi r.hi := hp.1
            have h49 : slotOf a 49 = vi r.lo := hp.2.1
            refine wp_yields (v := vi dd) ?_ ⟨_, rfl, rfl, Below.refl _ _, hG⟩
            simp [slotOf] at h47 h49
            simp [execOp, go_sem, h47, h49, e50]
          · intro a W hG hR hO hp
            have h50 : slotOf a 50 = vi dd := hp.1
            refine wp_yields (v := vi mm) ?_ ⟨_, rfl, rfl, Below.refl _ _, hG⟩
            simp [slotOf] at h50
            simp [execOp, go_sem, h50, e51]
          · intro a W hG hR hO hp
            have h45 : slotOf a 45 = vi hv.n := hp.1
            have h51 : slotOf a 51 = vi mm := hp.2.1
            refine wp_yields (v := vi kc) ?_ ⟨_, rfl, rfl, Below.refl _ _, hG⟩
            simp [slotOf] at h45 h51
            simp [execOp, go_sem, h45, h51, e52, hm0]
          · intro a W hG hR hO hp
            have h35 : slotOf a 35 = vi r.lo := hp.1
            have h52 : slotOf a 52 = vi kc := hp.2.1
            refine wp_yields (v := vi nv) ?_ ⟨_, rfl, rfl, Below.refl _ _, hG⟩
            simp [slotOf] at h35 h52
            simp [execOp, go_sem, h35, h52, e53]
        · intro wy hG hR
          rintro _ rfl _ rfl _ rfl _ rfl _ rfl _ rfl _ rfl _ rfl _ rfl _ rfl _ rfl _ rfl _ rfl _ rfl _ rfl _ rfl _ rfl _ rfl _ rfl
          change wpList _ _ _ _ _ _
          simp only [Act.put, List.setIfInBounds_toArray, List.set_cons_zero, List.set_cons_succ, List.drop_succ_cons, List.drop_zero]
          have H5 := Lib.hid (And.intro ((newer_trans H3.out.1 hG)) (And.intro ((H3.out.2.1.below hG H3.out.2.1.lt)) ((H3.out.2.2.below hG H3.out.2.2.lt))))
          clear hG hR r_0 r_1 ch hl0 hjn hbn e39 e42 hm0 e45 e50 e51 e52 e53 H3
          have x2 := H5.out.2.1.at 2 (v := .slice p.wa p.ws.length p.wc) rfl
          obtain ⟨b2, o2, e2, _, d0, d1, d2, d3, d4, d5⟩ := row6 (HOK.out.next H5.out.1).ws HXM.out
          rw [e2] at x2
          obtain ⟨b4, o4, e4, _, cb⟩ := row1 ((HR.out.below H5.out.1).more H5.out.1.size) HBK.out
          subst e4
          obtain ⟨av, hav⟩ : ∃ av, av = addsN x.d b y nv := ⟨_, rfl⟩
          obtain ⟨tv, htv⟩ : ∃ tv, tv = tr k := ⟨_, rfl⟩
          obtain ⟨su, hsu⟩ : ∃ su, su = tv + av := ⟨_, rfl⟩
          have HSU : Hid (tr (k + 1) = su) := Lib.hid (by rw [hsu, htv, hav, HTR.out, truK_at HBK.out HXD.out, rAt_of HRR.out, HNV.out])
          have hab : 0 ≤ av ∧ av ≤ 10000 := by rw [hav]; exact addsN_bd HNB.out.1 HNB.out.2 HWB.out.2.2.1.1
          have htb := HTB.out k
          rw [← htv] at htb ⊢
          have esu : IntKind.i64.wrap (tv + av) = su := by rw [← hsu]; exact IntWalk.i64_in _ (by omega)
          have HCA := Lib.hid (fun (V : World) => refAdds x b y nv V HWB.out.2.2.1.1 HWB.out.2.2.1.2 HNB.out.1 HNB.out.2 HB1.out hy0 hy1)
          simp only [addsR_is HB1.out.1, ← hav] at HCA
          clear hav htv hsu hab htb e2
          go_upto_region 9 with fail
          refine wp_words (by kernel_rfl) (region_told 14 (by kernel_rfl) (by kernel_rfl) (fun W => Below wy.heap.size wy W) newer (pickD [vIs (vi tv), vIs (.pointer (some ⟨w.heap.size, 2, none⟩)), vIs (.slice (some ⟨b2, o2, none⟩) p.ws.length p.wc), vIs (.int .i64 k), vIs (.pointer (some ⟨b2, o2 + k * 6, none⟩)), vIs (wkV x), vIs (.slice (some ⟨b4, o4, none⟩) p.ws.length lp), vIs (.int .i64 k), vIs (.pointer (some ⟨b4, o4 + k, none⟩)), vIs (vi b), vIs (vi y), vIs (vi nv), vIs (vi av), vIs (vi su)]) (fun h k => newer_trans h k) (pickD_stable _ ⟨vIs_st, vIs_st, vIs_st, vIs_st, vIs_st, vIs_st, vIs_st, vIs_st, vIs_st, vIs_st, vIs_st, vIs_st, vIs_st, vIs_st, trivial⟩) (Below.refl _ wy).drew (Below.refl _ _) ?_ ?_)
          · refine ⟨?_, ?_, ?_, ?_, ?_, ?_, ?_, ?_, ?_, ?_, ?_, ?_, ?_, ?_, trivial⟩
            · intro a W hG hR hO hp
              have h11 := hO.slot 11 (by kernel_rfl)
              refine wp_yields (v := vi tv) ?_ ⟨_, rfl, rfl, Below.refl _ _, hG⟩
              simp [slotOf] at h11
              simp [execOp, go_sem, h11]
            · intro a W hG hR hO hp
              have h5 := hO.slot 5 (by kernel_rfl)
              refine wp_yields (v := .pointer (some ⟨w.heap.size, 2, none⟩)) ?_ ⟨_, rfl, rfl, Below.refl _ _, hG⟩
              simp [slotOf] at h5
              simp [execOp, go_sem, h5]
            · intro a W hG hR hO hp
              have h55 : slotOf a 55 = .pointer (some ⟨w.heap.size, 2, none⟩) := hp.1
              have c0 := keep_cell x2 hG
              refine wp_yields (v := .slice (some ⟨b2, o2, none⟩) p.ws.length p.wc) ?_ ⟨_, rfl, rfl, Below.refl _ _, hG⟩
              simp [slotOf] at h55
              simp [execOp, go_sem, h55, c0]
            · intro a W hG hR hO hp
              have h12 := hO.slot 12 (by kernel_rfl)
              refine wp_yields (v := .int .i64 k) ?_ ⟨_, rfl, rfl, Below.refl _ _, hG⟩
              simp [slotOf] at h12
              simp [execOp, go_sem, h12]
            · intro a W hG hR hO hp
              have h56 : slotOf a 56 = .slice (some ⟨b2, o2, none⟩) p.ws.length p.wc := hp.1
              have h57 : slotOf a 57 = .int .i64 k := hp.2.1
              refine wp_yields (v := .pointer (some ⟨b2, o2 + k * 6, none⟩)) ?_ ⟨_, rfl, rfl, Below.refl _ _, hG⟩
              simp [slotOf] at h56 h57
              simp [execOp, go_sem, h56, h57, hkn]
            · intro a W hG hR hO hp
              have h58 : slotOf a 58 = .pointer (some ⟨b2, o2 + k * 6, none⟩) := hp.1
              have c0 := keep_cell d0 hG
              have c1 := keep_cell d1 hG
              have c2 := keep_cell d2 hG
              have c3 := keep_cell d3 hG
              have c4 := keep_cell d4 hG
              have c5 := keep_cell d5 hG
              refine wp_yields (v := wkV x) ?_ ⟨_, rfl, rfl, Below.refl _ _, hG⟩
              simp [slotOf] at h58
              simp [execOp, go_sem, h58, c0, c1, c2, c3, c4, c5]
            · intro a W hG hR hO hp
              have h1 := hO.slot 1 (by kernel_rfl)
              refine wp_yields (v := .slice (some ⟨b4, o4, none⟩) p.ws.length lp) ?_ ⟨_, rfl, rfl, Below.refl _ _, hG⟩
              simp [slotOf] at h1
              simp [execOp, go_sem, h1]
            · intro a W hG hR hO hp
              have h12 := hO.slot 12 (by kernel_rfl)
              refine wp_yields (v := .int .i64 k) ?_ ⟨_, rfl, rfl, Below.refl _ _, hG⟩
              simp [slotOf] at h12
              simp [execOp, go_sem, h12]
            · intro a W hG hR hO hp
              have h60 : slotOf a 60 = .slice (some ⟨b4, o4, none⟩) p.ws.length lp := hp.1
              have h61 : slotOf a 61 = .int .i64 k := hp.2.1
              refine wp_yields (v := .pointer (some ⟨b4, o4 + k, none⟩)) ?_ ⟨_, rfl, rfl, Below.refl _ _, hG⟩
              simp [slotOf] at h60 h61
              simp [execOp, go_sem, h60, h61, hkn]
            · intro a W hG hR hO hp
              have h62 : slotOf a 62 = .pointer (some ⟨b4, o4 + k, none⟩) := hp.1
              have c0 := keep_cell cb hG
              refine wp_yields (v := vi b) ?_ ⟨_, rfl, rfl, Below.refl _ _, hG⟩
              simp [slotOf] at h62
              simp [execOp, go_sem, h62, c0]
            · intro a W hG hR hO hp
              have h3 := hO.slot 3 (by kernel_rfl)
              refine wp_yields (v := vi y) ?_ ⟨_, rfl, rfl, Below.refl _ _, hG⟩
              simp [slotOf] at h3
              simp [execOp, go_sem, h3]
            · intro a W hG hR hO hp
              have h14 := hO.slot 14 (by kernel_rfl)
              refine wp_yields (v := vi nv) ?_ ⟨_, rfl, rfl, Below.refl _ _, hG⟩
              simp [slotOf] at h14
              simp [execOp, go_sem, h14]
            · intro a W hG hR hO hp
              have h59 : slotOf a 59 = wkV x := hp.1
              have h63 : slotOf a 63 = vi b := hp.2.1
              have h64 : slotOf a 64 = vi y := hp.2.2.1
              have h65 : slotOf a 65 = vi nv := hp.2.2.2.1
              refine wp_enters (f := 58) (args := #[wkV x, vi b, vi y, vi nv]) ?_ ((HCA.out W).mono ?_)
              · simp [slotOf] at h59 h63 h64 h65
                simp [go_sem, h59, h63, h64, h65]
              · rintro e w' ⟨rfl, hb⟩
                exact ⟨_, rfl, _, rfl, rfl, hb, below_next hG hb⟩
            · intro a W hG hR hO hp
              have h54 : slotOf a 54 = vi tv := hp.1
              have h66 : slotOf a 66 = vi av := hp.2.1
              refine wp_yields (v := vi su) ?_ ⟨_, rfl, rfl, Below.refl _ _, hG⟩
              simp [slotOf] at h54 h66
              simp [execOp, go_sem, h54, h66, esu]
          · intro wz hG hR
            rintro _ rfl _ rfl _ rfl _ rfl _ rfl _ rfl _ rfl _ rfl _ rfl _ rfl _ rfl _ rfl _ rfl _ rfl
            change wpList _ _ _ _ _ _
            simp only [Act.put, List.setIfInBounds_toArray, List.set_cons_zero, List.set_cons_succ, List.drop_succ_cons, List.drop_zero]
            have H6 := Lib.hid (And.intro ((newer_trans H5.out.1 hG)) (And.intro ((H5.out.2.1.below hG H5.out.2.1.lt)) ((H5.out.2.2.below hG H5.out.2.2.lt))))
            clear hG hR x2 d0 d1 d2 d3 d4 d5 cb esu H5
            go_wp2_with fail
            exact ⟨⟨k + 1, by omega, by go_num, by rw [HSU.out], H6.out.1, H6.out.2.1⟩, by (simp only [intOf]; omega)⟩
    · obtain rfl : k = p.ws.length := by omega
      have hkn : ¬ ((p.ws.length : Int) < p.ws.length) := by omega
      have HLL := Lib.hid HLE.out
      go_wp2_with fail
      go_ret
      exact ⟨rfl, H1.out.1⟩
end Go.Proofs.Ytpnpnfjhjjdmgaa
