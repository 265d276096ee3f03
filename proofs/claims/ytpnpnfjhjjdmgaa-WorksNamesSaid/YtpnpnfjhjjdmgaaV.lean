/- The years of a work, with a way out; what a work is worth, by shares. -/
import Derived.Test.YtpnpnfjhjjdmgaaU
namespace Go.Proofs.Ytpnpnfjhjjdmgaa
open Go.RowKit Go.Shelf Go.Deep

attribute [local go_sem] Oper.semAt_some
set_option maxRecDepth 100000 in
set_option maxHeartbeats 2000000 in
theorem years_early (n l c : Nat) (x : Wk) (h0 : 0 ≤ x.d.first) (h1 : x.d.first ≤ x.d.last) (h2 : x.d.last ≤ 1000) (J : Nat → World → Prop) (S : World → Prop)
    (hJ : ∀ k W, J k W → Whole W c 87 (wkC x))
    (hY : ∀ k W, k < yearsN x.d → J k W → YieldAt Fence.wide (n - 1) Try.prog l #[vi (x.d.first + k)] W fun e W'' => (e = .returned (.bool true) ∧ J (k + 1) W'') ∨ (e = .returned (.bool false) ∧ S W''))
    (W : World) (hW : J 0 W) :
    CallsIn Fence.wide n Try.prog 84 #[.func (.yield l) #[] #[], .pointer (some ⟨c, 0, none⟩)] W fun e W' => (∃ v, e = .returned v) ∧ (J (yearsN x.d) W' ∨ S W') := by
  have HJ := Lib.hid hJ
  have HY := Lib.hid hY
  have hc := hJ 0 W hW
  have c1 := hc.at 1 (v := vi x.d.first) rfl
  have hyn : (yearsN x.d : Int) = x.d.last + 1 - x.d.first := by unfold yearsN; omega
  have HYN := Lib.hid hyn
  obtain ⟨m, hm⟩ : ∃ m, m = yearsN x.d := ⟨_, rfl⟩
  rw [← hm] at hyn
  obtain ⟨f, hf⟩ : ∃ f, f = x.d.first := ⟨_, rfl⟩
  obtain ⟨t, ht⟩ : ∃ t, t = x.d.last := ⟨_, rfl⟩
  rw [← hf] at c1 hyn h0 h1
  rw [← ht] at hyn h1 h2
  have HM := Lib.hid (And.intro hm (And.intro hf ht))
  clear hJ hY hc hm hf ht
  refine callsIn_of_wp Try.func84 rfl trivial ?_ rfl
  simp only [Try.ntmps84, List.size_toArray, List.length_cons, List.length_nil, Nat.reduceAdd, Nat.reduceSub, Array.replicate_succ, Array.replicate_zero, List.push_toArray, List.append_toArray, List.nil_append, List.cons_append]
  gi_wp2_with fail
  clear c1
  gi_loopw [3] (fun s3 wr => ∃ k : Nat, k ≤ m ∧ s3 = vi (f + k) ∧ J k wr) (fun s3 _ => (t + 1 - intOf s3).toNat)
  case atStart => exact ⟨0, Nat.zero_le _, by simp, hW⟩
  case round =>
    obtain ⟨k, hk, rfl, hj⟩ := hrel
    have hw1 := HJ.out k _ hj
    have c2 := hw1.at 2 (v := vi x.d.last) rfl
    rw [← HM.out.2.2] at c2
    by_cases hlt : k < m
    · have hle : f + (k : Int) ≤ t := by omega
      have wn : IntKind.i64.wrap (f + (k : Int) + 1) = f + (k : Int) + 1 := IntWalk.i64_in _ (by omega)
      have hy := HY.out k wr (by rw [← HM.out.1]; exact hlt) hj
      rw [← HM.out.2.1] at hy
      have HYK := Lib.hid hy
      clear hw1 hj hy hW
      obtain ⟨fn, tmps, assign, body, hy, hR⟩ := HYK.out
      gi_wp2_with fail
      refine ⟨fun h => (by cases h), hR.mono ?_⟩
      clear hy hR c2
      rintro e w3 (⟨rfl, hj3⟩ | ⟨rfl, hs3⟩)
      · gi_wp2_with fail
        go_roundw
        case rel => exact ⟨k + 1, by omega, by rw [show f + ((k + 1 : Nat) : Int) = f + k + 1 by omega], hj3⟩
        case measure => simp [intOf]; omega
      · have HE := Lib.hid hs3
        clear hs3
        gi_wp2_with fail
        go_end0
        exact ⟨⟨_, rfl⟩, .inr HE.out⟩
    · have hkm : k = m := by omega
      have hle : ¬ (f + (k : Int) ≤ t) := by omega
      have HE := Lib.hid ((hkm.trans HM.out.1) ▸ hj)
      clear hw1 hj hkm hW
      gi_wp2_with fail
      all_goals
        refine ⟨fun _ h => (by cases h), ?_⟩
        gi_wp2_with fail
        go_end0
        exact ⟨⟨_, rfl⟩, .inl HE.out⟩

/-- What a work is worth that is built in a year, by the shares of the first needs. -/
def worthK (x : Wd) (y : Int) (ns : List Nd) (sh : List Int) : Nat → Int
  | 0 => 0
  | k + 1 => worthK x y ns sh k + (match ns[k]? with
    | some n => iAt sh k * mnI n.due (addsN x y n.year (rAt x.adds n.slope.toNat).lo)
    | none => 0)
theorem worthK_at {x : Wd} {y : Int} {ns : List Nd} {sh : List Int} {k : Nat} {n : Nd} (h : ns[k]? = some n) : worthK x y ns sh (k + 1) = worthK x y ns sh k + iAt sh k * mnI n.due (addsN x y n.year (rAt x.adds n.slope.toNat).lo) := by
  simp only [worthK, h]
theorem mulB {a b A B : Int} (h0 : 0 ≤ a) (h1 : a ≤ A) (h2 : 0 ≤ b) (h3 : b ≤ B) : 0 ≤ a * b ∧ a * b ≤ A * B := ⟨Int.mul_nonneg h0 h2, Int.mul_le_mul h1 h3 h2 (Int.le_trans h0 h1)⟩
theorem rAt_bd {x : Wd} {k : Nat} (hx : ∀ r ∈ x.adds, 0 ≤ r.lo ∧ r.lo ≤ r.hi ∧ r.hi ≤ 10000) : 0 ≤ (rAt x.adds k).lo ∧ (rAt x.adds k).lo ≤ 10000 := by
  cases hr : x.adds[k]? with
  | none => unfold rAt; rw [hr]; decide
  | some r =>
    rw [rAt_of hr]
    have := hx r (List.mem_of_getElem? hr)
    omega
theorem iAt_bd {l : List Int} {B : Int} (hB : 0 ≤ B) (h : ∀ s ∈ l, 0 ≤ s ∧ s ≤ B) (k : Nat) : 0 ≤ iAt l k ∧ iAt l k ≤ B := by
  unfold iAt
  cases hk : l[k]? with
  | none => exact ⟨Int.le_refl _, hB⟩
  | some s => exact h s (List.mem_of_getElem? hk)
theorem worth_bd {x : Wd} {y : Int} {ns : List Nd} {sh : List Int} (hx : ∀ r ∈ x.adds, 0 ≤ r.lo ∧ r.lo ≤ r.hi ∧ r.hi ≤ 10000) (hg : 0 ≤ x.age) (hn : ∀ n ∈ ns, 1 ≤ n.due ∧ n.due ≤ 10000) (hs : ∀ s ∈ sh, 0 ≤ s ∧ s ≤ 1000000000) : ∀ k, 0 ≤ worthK x y ns sh k ∧ worthK x y ns sh k ≤ (k : Int) * 10000000000000
  | 0 => ⟨Int.le_refl _, by simp [worthK]⟩
  | k + 1 => by
    have ih := worth_bd (y := y) hx hg hn hs k
    simp only [worthK]
    split
    · rename_i n hk
      have h1 := hn n (List.mem_of_getElem? hk)
      have h2 := iAt_bd (by omega) hs k
      have h3 := addsN_bd (x := x) (built := y) (year := n.year) (rAt_bd (k := n.slope.toNat) hx).1 (rAt_bd hx).2 hg
      have h4 : 0 ≤ mnI n.due (addsN x y n.year (rAt x.adds n.slope.toNat).lo) ∧ mnI n.due (addsN x y n.year (rAt x.adds n.slope.toNat).lo) ≤ 10000 := by unfold mnI; split <;> omega
      have h5 := mulB h2.1 h2.2 h4.1 h4.2
      have h6 := h5.2
      have h7 := h5.1
      omega
    · omega
set_option maxRecDepth 100000 in
set_option maxHeartbeats 4000000 in
theorem worth_any (p : Pm) (x : Wk) (y : Int) (sh : List Int) (A : Option Addr) (sc : Nat) (w : World) (hok : PmOk p w) (hpo : PjOk p) (hx : x ∈ p.ws) (hy : 0 ≤ y ∧ y ≤ 4) (hl : sh.length = p.ns.length) (hsb : ∀ s ∈ sh, 0 ≤ s ∧ s ≤ 1000000000) (hr : Row intL 1 w w.heap.size A sh) :
    Calls Try.prog 64 #[pmV p, wkV x, vi y, .slice A sh.length sc] w fun e w' => e = .returned (vi (worthK x.d y p.ns sh p.ns.length)) ∧ newer w w' := by
  have hnw := newer_trans (newer_allocH w (.cells (pmC p) 35)) (newer_allocH (w.alloc (.cells (pmC p) 35)) (.cells (wkC x) 87))
  have hp0 := (Whole.made w 35 (pmC p)).alloc (.cells (wkC x) 87)
  have hx0 := Whole.made (w.alloc (.cells (pmC p) 35)) 87 (wkC x)
  simp only [World.size_alloc] at hx0
  have hnn := hpo.nn
  have hw := wdB_parts (hpo.ws x hx)
  have HBD := Lib.hid (fun k => worth_bd (x := x.d) (y := y) (ns := p.ns) (sh := sh) hw.2.2.2.2.2 hw.2.2.1.1 (fun n hn => by
    have := hpo.ns n hn
    simp only [ndB, inB, Bool.and_eq_true, decide_eq_true_eq] at this
    omega) hsb k)
  have HPO := Lib.hid (And.intro hpo (And.intro hx (And.intro hw (And.intro hsb hl))))
  have HOK := Lib.hid hok
  have HR := Lib.hid hr
  have x3 := hp0.at 3 (v := .slice p.na p.ns.length p.nc) rfl
  obtain ⟨bx, hbx⟩ : ∃ bx, bx = w.heap.size + 1 := ⟨_, rfl⟩
  rw [← hbx] at hx0
  have H0 := Lib.hid (And.intro hnw hx0)
  clear hnw hp0 hx0 hpo hx hw hok hr hsb
  go_enter Try.func64, Try.ntmps64
  go_wp2_with fail
  rw [← hbx]
  clear hbx x3
  obtain ⟨na, hna⟩ : ∃ na, na = p.na := ⟨_, rfl⟩
  rw [← hna]
  have HNA := Lib.hid hna
  obtain ⟨aa, haa⟩ : ∃ aa, aa = A := ⟨_, rfl⟩
  rw [← haa]
  have HAA := Lib.hid haa
  clear hna haa
  go_loopw [8, 14] (fun s8 s14 wr => ∃ k : Nat, k ≤ p.ns.length ∧ s14 = .int .i64 k ∧ s8 = vi (worthK x.d y p.ns sh k) ∧ newer w wr ∧ Whole wr bx 87 (wkC x)) (fun _ s14 _ => p.ns.length - (intOf s14).toNat)
  case atStart => exact ⟨0, Nat.zero_le _, rfl, rfl, H0.out.1, H0.out.2⟩
  case round =>
    obtain ⟨k, hk, rfl, rfl, hbw, hbx⟩ := hrel
    clear H0
    by_cases hlt : k < p.ns.length
    · have hkn : (k : Int) < p.ns.length := by omega
      have hlen := HPO.out.2.2.2.2
      have hkS : (k : Int) < sh.length := by omega
      obtain ⟨n, hn⟩ := get_of_lt hlt
      obtain ⟨sv, hsv⟩ := get_of_lt (l := sh) (k := k) (by omega)
      have hnd := HPO.out.1.ns n (List.mem_of_getElem? hn)
      simp only [ndB, inB, Bool.and_eq_true, decide_eq_true_eq] at hnd
      have hyr := HPO.out.1.years
      obtain ⟨r, hrr⟩ := get_of_lt (l := x.d.adds) (k := n.slope.toNat) (by have := HPO.out.2.2.1.2.2.2.2.1; omega)
      have hbr := endR_bd (hi := false) (HPO.out.2.2.1.2.2.2.2.2 r (List.mem_of_getElem? hrr))
      have hcast : ((n.slope.toNat : Nat) : Int) = n.slope := by omega
      have hadb := addsN_bd (x := x.d) (built := y) (year := n.year) hbr.1 hbr.2 HPO.out.2.2.1.2.2.1.1
      have HAD : Hid (∀ W, newer wr W → Calls Try.prog 79 #[wkV x, vi y, vi n.slope, vi n.year, .func (.func 56) #[] #[]] W fun e w' => e = .returned (vi (addsN x.d y n.year (endR false r))) ∧ newer W w') := Lib.hid fun W hW => by
        have h := adds_any false x y n.year n.slope.toNat r W hrr (((HOK.out.next hbw).next hW).ad x HPO.out.2.1) HPO.out.2.2.1.2.2.1.1 HPO.out.2.2.1.2.2.1.2 hbr.1 hbr.2 (by omega) (by omega) (by omega) (by omega)
        rw [hcast] at h
        exact h
      obtain ⟨ad, had⟩ : ∃ ad, ad = addsN x.d y n.year (endR false r) := ⟨_, rfl⟩
      obtain ⟨mi, hmi⟩ : ∃ mi, mi = mnI n.due ad := ⟨_, rfl⟩
      obtain ⟨ml, hml⟩ : ∃ ml, ml = sv * mi := ⟨_, rfl⟩
      obtain ⟨ac, hac⟩ : ∃ ac, ac = worthK x.d y p.ns sh k := ⟨_, rfl⟩
      obtain ⟨su, hsu⟩ : ∃ su, su = ac + ml := ⟨_, rfl⟩
      have hnx : worthK x.d y p.ns sh (k + 1) = su := by
        rw [worthK_at hn, iAt_of hsv, rAt_of hrr, hsu, hac, hml, hmi, had]
        rfl
      have hb0 := HBD.out k
      have hb1 := HBD.out (k + 1)
      rw [hnx] at hb1
      rw [← hac] at hb0 ⊢
      rw [← had] at HAD hadb
      have hmb : 0 ≤ mi ∧ mi ≤ 10000 := by rw [hmi]; unfold mnI; split <;> omega
      have hsb := HPO.out.2.2.2.1 sv (List.mem_of_getElem? hsv)
      have hmlb := mulB hsb.1 hsb.2 hmb.1 hmb.2
      have eml : IntKind.i64.wrap (sv * mi) = ml := by rw [hml]; exact IntWalk.i64_in _ (by omega)
      have esu : IntKind.i64.wrap (ac + ml) = su := by rw [hsu]; exact IntWalk.i64_in _ (by omega)
      have HMI := Lib.hid hmi
      have HNX := Lib.hid hnx
      obtain ⟨b2, o2, e2, _, c0, c1, c2⟩ := row3 (HOK.out.next hbw).ns hn
      have e4 := HNA.out.trans e2
      clear e2 HNA
      subst e4
      obtain ⟨b3, o3, e3, _, cs0⟩ := row1 ((HR.out.below hbw).more hbw.size) hsv
      have e5 := HAA.out.trans e3
      clear e3 HAA
      subst e5
      have HB0 := Lib.hid (And.intro hbw (And.intro hbx cs0))
      clear hbw hbx hn hsv hnd hyr hrr hbr hcast hadb had hmi hml hac hsu hnx hb0 hb1 hmb hsb hmlb hlen
      go_upto_region 4 with fail
      refine genQ (fun X => newer wr X ∧ Whole X wr.heap.size 89 #[vi n.slope, vi n.year, vi n.due]) ⟨newer_allocH _ _, Whole.made _ _ _⟩ ?_
      obtain ⟨nb, hnb⟩ : ∃ nb, nb = wr.heap.size := ⟨_, rfl⟩
      rw [← hnb]
      clear hnb c0 c1 c2 cs0
      rintro wv ⟨hn, hwx⟩
      have y0 := hwx.at 0 (v := vi n.slope) rfl
      have y1 := hwx.at 1 (v := vi n.year) rfl
      have y2 := hwx.at 2 (v := vi n.due) rfl
      have hbx := HB0.out.2.1.below hn HB0.out.2.1.lt
      have cs := keep_cell HB0.out.2.2 hn
      have d0 := hbx.at 0 (v := vi x.d.price) rfl
      have d1 := hbx.at 1 (v := vi x.d.first) rfl
      have d2 := hbx.at 2 (v := vi x.d.last) rfl
      have d3 := hbx.at 3 (v := vi x.d.age) rfl
      have d4 := hbx.at 4 (v := vi x.d.village) rfl
      have d5 := hbx.at 5 (v := .slice x.a x.d.adds.length x.cp) rfl
      have HB := Lib.hid (And.intro hn hbx)
      clear hn hwx hbx
      refine wp_words (by kernel_rfl) (region_told 17 (by kernel_rfl) (by kernel_rfl) (fun W => Below wv.heap.size wv W) newer (pickD [vIs (vi ac), vIs (.slice (some ⟨b3, o3, none⟩) sh.length sc), vIs (.int .i64 k), vIs (.pointer (some ⟨b3, o3 + k, none⟩)), vIs (vi sv), vIs (.pointer (some ⟨nb, 2, none⟩)), vIs (vi n.due), vIs (wkV x), vIs (vi y), vIs (.pointer (some ⟨nb, 0, none⟩)), vIs (vi n.slope), vIs (.pointer (some ⟨nb, 1, none⟩)), vIs (vi n.year), vIs (vi ad), vIs (vi mi), vIs (vi ml), vIs (vi su)]) (fun h k => newer_trans h k) (pickD_stable _ ⟨vIs_st, vIs_st, vIs_st, vIs_st, vIs_st, vIs_st, vIs_st, vIs_st, vIs_st, vIs_st, vIs_st, vIs_st, vIs_st, vIs_st, vIs_st, vIs_st, vIs_st, trivial⟩) (Below.refl _ wv).drew (Below.refl _ _) ?_ ?_)
      · refine ⟨?_, ?_, ?_, ?_, ?_, ?_, ?_, ?_, ?_, ?_, ?_, ?_, ?_, ?_, ?_, ?_, ?_, trivial⟩
        · intro a W hG hR hO hp
          have h8 := hO.slot 8 (by kernel_rfl)
          refine wp_yields (v := vi ac) ?_ ⟨_, rfl, rfl, Below.refl _ _, hG⟩
          simp [slotOf] at h8
          simp [execOp, go_sem, h8]
        · intro a W hG hR hO hp
          have h3 := hO.slot 3 (by kernel_rfl)
          refine wp_yields (v := .slice (some ⟨b3, o3, none⟩) sh.length sc) ?_ ⟨_, rfl, rfl, Below.refl _ _, hG⟩
          simp [slotOf] at h3
          simp [execOp, go_sem, h3]
        · intro a W hG hR hO hp
          have h9 := hO.slot 9 (by kernel_rfl)
          refine wp_yields (v := .int .i64 k) ?_ ⟨_, rfl, rfl, Below.refl _ _, hG⟩
          simp [slotOf] at h9
          simp [execOp, go_sem, h9]
        · intro a W hG hR hO hp
          have h20 : slotOf a 20 = .slice (some ⟨b3, o3, none⟩) sh.length sc := hp.1
          have h21 : slotOf a 21 = .int .i64 k := hp.2.1
          refine wp_yields (v := .pointer (some ⟨b3, o3 + k, none⟩)) ?_ ⟨_, rfl, rfl, Below.refl _ _, hG⟩
          simp [slotOf] at h20 h21
          simp [execOp, go_sem, h20, h21, hkS]
        · intro a W hG hR hO hp
          have h22 : slotOf a 22 = .pointer (some ⟨b3, o3 + k, none⟩) := hp.1
          have c0 := keep_cell cs hG
          refine wp_yields (v := vi sv) ?_ ⟨_, rfl, rfl, Below.refl _ _, hG⟩
          simp [slotOf] at h22
          simp [execOp, go_sem, h22, c0]
        · intro a W hG hR hO hp
          have h10 := hO.slot 10 (by kernel_rfl)
          refine wp_yields (v := .pointer (some ⟨nb, 2, none⟩)) ?_ ⟨_, rfl, rfl, Below.refl _ _, hG⟩
          simp [slotOf] at h10
          simp [execOp, go_sem, h10]
        · intro a W hG hR hO hp
          have h24 : slotOf a 24 = .pointer (some ⟨nb, 2, none⟩) := hp.1
          have c0 := keep_cell y2 hG
          refine wp_yields (v := vi n.due) ?_ ⟨_, rfl, rfl, Below.refl _ _, hG⟩
          simp [slotOf] at h24
          simp [execOp, go_sem, h24, c0]
        · intro a W hG hR hO hp
          have h5 := hO.slot 5 (by kernel_rfl)
          have c0 := keep_cell d0 hG
          have c1 := keep_cell d1 hG
          have c2 := keep_cell d2 hG
          have c3 := keep_cell d3 hG
          have c4 := keep_cell d4 hG
          have c5 := keep_cell d5 hG
          refine wp_yields (v := wkV x) ?_ ⟨_, rfl, rfl, Below.refl _ _, hG⟩
          simp [slotOf] at h5
          simp [execOp, go_sem, h5, c0, c1, c2, c3, c4, c5]
        · intro a W hG hR hO hp
          have h2 := hO.slot 2 (by kernel_rfl)
          refine wp_yields (v := vi y) ?_ ⟨_, rfl, rfl, Below.refl _ _, hG⟩
          simp [slotOf] at h2
          simp [execOp, go_sem, h2]
        · intro a W hG hR hO hp
          have h10 := hO.slot 10 (by kernel_rfl)
          refine wp_yields (v := .pointer (some ⟨nb, 0, none⟩)) ?_ ⟨_, rfl, rfl, Below.refl _ _, hG⟩
          simp [slotOf] at h10
          simp [execOp, go_sem, h10]
        · intro a W hG hR hO hp
          have h28 : slotOf a 28 = .pointer (some ⟨nb, 0, none⟩) := hp.1
          have c0 := keep_cell y0 hG
          refine wp_yields (v := vi n.slope) ?_ ⟨_, rfl, rfl, Below.refl _ _, hG⟩
          simp [slotOf] at h28
          simp [execOp, go_sem, h28, c0]
        · intro a W hG hR hO hp
          have h10 := hO.slot 10 (by kernel_rfl)
          refine wp_yields (v := .pointer (some ⟨nb, 1, none⟩)) ?_ ⟨_, rfl, rfl, Below.refl _ _, hG⟩
          simp [slotOf] at h10
          simp [execOp, go_sem, h10]
        · intro a W hG hR hO hp
          have h30 : slotOf a 30 = .pointer (some ⟨nb, 1, none⟩) := hp.1
          have c0 := keep_cell y1 hG
          refine wp_yields (v := vi n.year) ?_ ⟨_, rfl, rfl, Below.refl _ _, hG⟩
          simp [slotOf] at h30
          simp [execOp, go_sem, h30, c0]
        · intro a W hG hR hO hp
          have h26 : slotOf a 26 = wkV x := hp.1
          have h27 : slotOf a 27 = vi y := hp.2.1
          have h29 : slotOf a 29 = vi n.slope := hp.2.2.1
          have h31 : slotOf a 31 = vi n.year := hp.2.2.2.1
          refine wp_enters (f := 79) (args := #[wkV x, vi y, vi n.slope, vi n.year, .func (.func 56) #[] #[]]) ?_ ((HAD.out W (newer_trans HB.out.1 hG)).mono ?_)
          · simp [slotOf] at h26 h27 h29 h31
            simp [go_sem, h26, h27, h29, h31]
          · rintro e w' ⟨rfl, hb⟩
            exact ⟨_, rfl, _, rfl, rfl, hb, below_next hG hb⟩
        · intro a W hG hR hO hp
          have h25 : slotOf a 25 = vi n.due := hp.1
          have h32 : slotOf a 32 = vi ad := hp.2.1
          refine wp_yields (v := vi mi) ?_ ⟨_, rfl, rfl, Below.refl _ _, hG⟩
          simp [slotOf] at h25 h32
          simp [go_sem, h25, h32, HMI.out, mnI]
        · intro a W hG hR hO hp
          have h23 : slotOf a 23 = vi sv := hp.1
          have h33 : slotOf a 33 = vi mi := hp.2.1
          refine wp_yields (v := vi ml) ?_ ⟨_, rfl, rfl, Below.refl _ _, hG⟩
          simp [slotOf] at h23 h33
          simp [execOp, go_sem, h23, h33, eml]
        · intro a W hG hR hO hp
          have h19 : slotOf a 19 = vi ac := hp.1
          have h34 : slotOf a 34 = vi ml := hp.2.1
          refine wp_yields (v := vi su) ?_ ⟨_, rfl, rfl, Below.refl _ _, hG⟩
          simp [slotOf] at h19 h34
          simp [execOp, go_sem, h19, h34, esu]
      · intro W hG hR
        rintro _ rfl _ rfl _ rfl _ rfl _ rfl _ rfl _ rfl _ rfl _ rfl _ rfl _ rfl _ rfl _ rfl _ rfl _ rfl _ rfl _ rfl
        change wpList _ _ _ _ _ _
        simp only [Act.put, List.setIfInBounds_toArray, List.set_cons_zero, List.set_cons_succ, List.drop_succ_cons, List.drop_zero]
        have HF := Lib.hid (And.intro (newer_trans HB0.out.1 (newer_trans HB.out.1 hG)) (HB.out.2.below hG HB.out.2.lt))
        clear hG hR HB HB0 y0 y1 y2 cs d0 d1 d2 d3 d4 d5
        go_wp2_with fail
        go_roundw
        case rel => exact ⟨k + 1, by omega, by go_num, by rw [HNX.out], HF.out.1, HF.out.2⟩
        case measure => simp [intOf]; omega
    · obtain rfl : k = p.ns.length := by omega
      have hkn : ¬ ((p.ns.length : Int) < p.ns.length) := by omega
      have HF := Lib.hid hbw
      clear hbw hbx
      go_wp2_with fail
      go_ret
      exact ⟨rfl, HF.out⟩
end Go.Proofs.Ytpnpnfjhjjdmgaa
