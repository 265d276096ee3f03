/- What the last text of this chain needs: CN, AT, AV, BB. -/
import Derived.Test.YtkenokpobbichaaZP08
namespace Go.Proofs.Ytkenokpobbichaa
section
open Go.RowKit Go.Shelf Go.Deep
theorem behind_iff {n b : Nat} {row : Nat -> Int} {q v : Int} (hb : b < n) (hrow : ∀ x, x < n -> row x <= bigN) : v <= q + behindN bigN n row b ↔ ∀ x, x < n -> b <= x + 1 -> x <= b + 1 -> v <= q + row x := by
 constructor
 ·intro h x hx h1 h2
  have := behind_le (big := bigN) (row := row) hb hx h2 h1
  omega
 ·intro h
  obtain ⟨x, h1, h2, h3, h4⟩ := behind_mem (row := row) hb (hrow b hb)
  rw [h4]
  exact h x h1 h2 h3
theorem clAll {w : World} {A : Option Addr} {l : List Cl} (h : Row clL 1 w w.heap.size A l) (hn : l ≠ []) : ∃ b off, A = some ⟨b, off, none⟩ /\ ∀ k c, l[k]? = some c -> ∀ W, newer w W -> W.cell? ⟨b, off + k, none⟩ = some (.slice c.a c.beds.length c.cp) := by
 obtain ⟨b, off, e, hb, hc⟩ := h hn
 exact ⟨b, off, e, fun k c hk W hW => keep_cell (by simpa using hc k c hk 0 _ rfl) hW⟩
set_option maxRecDepth 100000 in
set_option maxHeartbeats 4000000 in
theorem refProves_any (s : Sm) (f : Int) (ts : List Rw) (A : Option Addr) (c : Nat) (w : World) (hok : SmOk s w) (hs : SdOk s.sd) (f0 : 0 <= f) (f1 : f <= 10000) (ht : TbOk ts A w) (tfe : TbFew ts) : Calls Try.prog 53 #[smV s, vi f, .slice A ts.length c] w fun e w' => e = .returned (.bool (shT s.sd.n s.cs.length s.least (ts.map Rw.d) && provB s.sd f (ts.map Rw.d))) /\ newer w w' := by
 have hnw := newer_allocH w (.cells (smC s) 24)
 have hxb := Whole.made w 24 (smC s)
 have HOK := Lib.hid (And.intro hok ht)
 have HS := Lib.hid (And.intro hs (And.intro f0 f1))
 have HTF := Lib.hid tfe
 obtain ⟨n, hn⟩ : ∃ n, n = s.sd.n := ⟨_, rfl⟩
 obtain ⟨K, hK⟩ : ∃ K, K = s.sd.K := ⟨_, rfl⟩
 obtain ⟨D, hD⟩ : ∃ D, D = ts.map Rw.d := ⟨_, rfl⟩
 obtain ⟨cF_, hcF⟩ : ∃ g, g = cS s.sd f := ⟨_, rfl⟩
 obtain ⟨R, hR⟩ : ∃ R, R = (shT s.sd.n s.cs.length s.least (ts.map Rw.d) && provB s.sd f (ts.map Rw.d)) := ⟨_, rfl⟩
 rw [<- hR]
 have HRS : Hid (shT n s.cs.length s.least D = false -> R = false) := Lib.hid (fun h => by rw [hR, <- hn, <- hD, h, Bool.false_and])
 have HR2 : Hid (shT n s.cs.length s.least D = true -> (R = true ↔ ∀ r k b, r < K -> k < s.cs.length -> b < n -> cellT cF_ bigN n K (tN D) r k b)) := Lib.hid (fun h => by
  rw [hR, <- hn, <- hD, h, Bool.true_and, provB_iff, hn, hK, hcF, <- sd_len]
  exact Iff.rfl)
 have HN0 : Hid (1 <= n /\ n <= 5 /\ (K : Int) = s.least /\ 1 <= K /\ K <= 4 /\ 1 <= s.cs.length /\ s.cs.length <= 12) := Lib.hid (by
  have e1 := hs.beds
  have e2 := hs.least
  have e3 := hs.cols
  rw [sd_len] at e3
  have e5 : s.sd.least = s.least := rfl
  have e6 : s.sd.K = s.sd.least.toNat := rfl
  rw [e5] at e2 e6
  rw [hn, hK]
  omega)
 have HCB : Hid (∀ k b : Nat, -1300100000 <= cF_ k b /\ cF_ k b <= 1300100000) := Lib.hid (fun k b => by
  rw [hcF]
  exact cS_bd HS.out.1 HS.out.2.1 (by have := HS.out.2.2; omega) k b)
 have HDD := Lib.hid hD
 have hl1 : 1 <= s.least := hs.least.1
 have hl4 : s.least <= 4 := hs.least.2
 have x0 := hxb.at 0 (v := .slice s.a s.cs.length s.c) rfl
 have x1 := hxb.at 1 (v := vi s.least) rfl
 have H0 := Lib.hid (And.intro hnw hxb)
 by_cases hlen : (ts.length : Int) = s.least
 case neg =>
  have HE : Hid (R = false) := Lib.hid (HRS.out (by
   unfold shT
   rw [hD, List.length_map, decide_eq_false hlen, Bool.false_and]))
  have hlB : ((ts.length : Int) == s.least) = false := by rw [beq_eq_false_iff_ne]; exact hlen
  have hlC : ((ts.length : Int) != s.least) = true := by simp [bne, hlB]
  clear hok ht hs f0 f1 tfe hn hK hD hcF hR hnw hxb hlen
  go_enter Try.func53, Try.ntmps53
  go_wp2_with fail
  go_ret
  exact ⟨by rw [HE.out] <;> rfl, H0.out.1⟩
 case pos =>
 have HN1 : Hid (1 <= n /\ (K : Int) = s.least /\ 1 <= K /\ 1 <= s.cs.length /\ ts.length = K) := Lib.hid (by have := HN0.out; omega)
 have HTL : Hid (ts.length <= 4 /\ s.cs.length <= 12 /\ n <= 5) := Lib.hid (by have := HN0.out; omega)
 have HLN := Lib.hid hlen
 have hlB : ((ts.length : Int) == s.least) = true := by rw [beq_iff_eq]; exact hlen
 have hlC : ((ts.length : Int) != s.least) = false := by simp [bne, hlB]
 obtain ⟨ta, tf, rfl, hct⟩ := rwAll ht.rows (by intro h; have := HN1.out; rw [h] at this; simp at this; omega)
 have HCT := Lib.hid hct
 obtain ⟨sa, so, hsa, hcl⟩ := clAll hok.cs (by intro h; have := HN1.out; rw [h] at this; simp at this)
 have HCL := Lib.hid hcl
 have HSA := Lib.hid hsa
 obtain ⟨c0, hc0⟩ := get_of_lt (l := s.cs) (k := 0) (by have := HN1.out; omega)
 have hc0n : c0.beds.length = n := by rw [hn]; exact (sd_n hc0).symm
 have cc0 := hcl 0 c0 hc0 _ hnw
 rw [hc0n, Nat.add_zero] at cc0
 have hcl0 : 0 < (s.cs.length : Int) := by have := HN1.out; omega
 have HCC : Hid (∀ k b : Nat, k < s.cs.length -> b < n -> ∃ (xc : Cl) (bd : Bd) (ca co : Nat), (∀ W, newer w W -> W.cell? ⟨sa, so + k, none⟩ = some (.slice (some ⟨ca, co, none⟩) n xc.cp)) /\ (∀ W, newer w W -> W.cell? ⟨ca, co + b * 8, none⟩ = some (vi bd.drive) /\ W.cell? ⟨ca, co + b * 8 + 1, none⟩ = some (vi bd.normal) /\ W.cell? ⟨ca, co + b * 8 + 2, none⟩ = some (vi bd.fr.lo) /\ W.cell? ⟨ca, co + b * 8 + 3, none⟩ = some (vi bd.fr.hi) /\ W.cell? ⟨ca, co + b * 8 + 4, none⟩ = some (vi bd.co.lo) /\ W.cell? ⟨ca, co + b * 8 + 5, none⟩ = some (vi bd.co.hi) /\ W.cell? ⟨ca, co + b * 8 + 6, none⟩ = some (vi bd.wa.lo) /\ W.cell? ⟨ca, co + b * 8 + 7, none⟩ = some (vi bd.wa.hi)) /\ ∀ W, Calls Try.prog 86 #[bdV bd, vi f] W fun e w' => e = .returned (vi (cF_ k b)) /\ newer W w') := Lib.hid (fun k b hk hb => by
  obtain ⟨x, bd, g1, g2, g3, g4, g5⟩ := sm_bed HS.out.1 hk (hn ▸ hb)
  obtain ⟨ca, co, ea, _, d0, d1, d2, d3, d4, d5, d6, d7⟩ := row8 (HOK.out.1.bd x (List.mem_of_getElem? g1)) g2
  refine ⟨x, bd, ca, co, fun W hW => ?_, fun W hW => ⟨keep_cell d0 hW, keep_cell d1 hW, keep_cell d2 hW, keep_cell d3 hW, keep_cell d4 hW, keep_cell d5 hW, keep_cell d6 hW, keep_cell d7 hW⟩, fun W => ?_⟩
  ·have h := HCL.out k x g1 W hW
   rw [ea, g3, <- hn] at h
   exact h
  ·rw [hcF, cS_is g4]
   exact refCost_any bd f W g5 HS.out.2.1 (by have := HS.out.2.2; omega))
 clear hok ht hs f0 f1 tfe hn hK hD hcF hR hnw hxb hct hcl hlen hc0 hc0n
 rw [hsa] at x0
 clear hsa
 go_enter Try.func53, Try.ntmps53
 go_wp2_with fail
 go_loopw [8] (fun s8 wr => ∃ r : Nat, s8 = vi r /\ r <= ts.length /\ (∀ (i : Nat) (x : Rw), i < r -> ts[i]? = some x -> shR n s.cs.length x.d = true) /\ newer w wr /\ Whole wr w.heap.size 24 (smC s)) (fun s8 _ => ts.length - (intOf s8).toNat)
 case atStart => exact ⟨0, rfl, Nat.zero_le _, fun i x h => absurd h (Nat.not_lt_zero _), H0.out.1, H0.out.2⟩
 case round =>
  obtain ⟨r, rfl, hr, hdn, q1_, q2_⟩ := hrel
  clear H0 x0 x1 cc0 hlB hlC
  have HJ1 := Lib.hid (And.intro q1_ q2_)
  have HD1 := Lib.hid hdn
  clear hdn q1_ q2_
  have x0 := HJ1.out.2.at 0 (v := .slice s.a s.cs.length s.c) rfl
  have x1 := HJ1.out.2.at 1 (v := vi s.least) rfl
  rw [HSA.out] at x0
  by_cases hlt : r < ts.length
  case pos =>
   as_aux_lemma =>
   have hltI : (r : Int) < ts.length := by omega
   have hltJ : (r : Int) < s.least := by have := HLN.out; omega
   have hrb : (r : Int) <= 3 := by have := HTL.out; omega
   obtain ⟨x, hx⟩ := get_of_lt hlt
   have HX := Lib.hid hx
   have cx := HCT.out r x hx wr HJ1.out.1
   have HBAD : Hid (shR n s.cs.length x.d = false -> R = false) := Lib.hid (fun h => HRS.out (by
    unfold shT
    rw [Bool.and_eq_false_iff]
    right
    rw [List.all_eq_false]
    exact ⟨x.d, by rw [HDD.out]; exact List.mem_map.2 ⟨x, List.mem_of_getElem? HX.out, rfl⟩, by rw [h]; simp⟩))
   clear hx
   go_upto_region 7 with fail
   refine wp_words (by kernel_rfl) (region_told 8 (by kernel_rfl) (by kernel_rfl) (fun W => Below wr.heap.size wr W) newer (pickD [vIs (.slice (some ⟨ta, tf, none⟩) ts.length c), vIs (vi r), vIs (.pointer (some ⟨ta, tf + r, none⟩)), vIs (.slice x.a x.ls.length x.c), vIs (.int .i64 x.ls.length), vIs (.pointer (some ⟨w.heap.size, 0, none⟩)), vIs (.slice (some ⟨sa, so, none⟩) s.cs.length s.c), vIs (.int .i64 s.cs.length)]) (fun h k => newer_trans h k) (pickD_stable _ ⟨vIs_st, vIs_st, vIs_st, vIs_st, vIs_st, vIs_st, vIs_st, vIs_st, trivial⟩) (Below.refl _ wr).drew (Below.refl _ _) ?_ ?_)
   ·refine ⟨?_, ?_, ?_, ?_, ?_, ?_, ?_, ?_, trivial⟩
    ·exact fun a W hG _ hO _ => kM 2 rfl (hO.slot 2 (by kernel_rfl)) rfl hG
    ·exact fun a W hG _ hO _ => kM 8 rfl (hO.slot 8 (by kernel_rfl)) rfl hG
    ·intro a W hG hR hO hp; have h33 : slotOf a 33 = .slice (some ⟨ta, tf, none⟩) ts.length c := hp.1; have h34 : slotOf a 34 = vi r := hp.2.1; refine kY (v := .pointer (some ⟨ta, tf + r, none⟩)) hG rfl ?_; simp [slotOf] at h33 h34; simp [execOp, go_sem, h33, h34, hltI]
    ·intro a W hG hR hO hp; have h35 : slotOf a 35 = .pointer (some ⟨ta, tf + r, none⟩) := hp.1; have c0 := keep_cell cx hG; refine kY (v := .slice x.a x.ls.length x.c) hG rfl ?_; simp [slotOf] at h35; simp [execOp, go_sem, h35, c0]
    ·intro a W hG hR hO hp; have h36 : slotOf a 36 = .slice x.a x.ls.length x.c := hp.1; refine kY (v := .int .i64 x.ls.length) hG rfl ?_; simp [slotOf] at h36; simp [go_sem, h36]
    ·intro a W hG hR hO hp; have h3 := hO.slot 3 (by kernel_rfl); refine kY (v := .pointer (some ⟨w.heap.size, 0, none⟩)) hG rfl ?_; simp [slotOf] at h3; simp [execOp, go_sem, h3]
    ·intro a W hG hR hO hp; have h38 : slotOf a 38 = .pointer (some ⟨w.heap.size, 0, none⟩) := hp.1; have c0 := keep_cell x0 hG; refine kY (v := .slice (some ⟨sa, so, none⟩) s.cs.length s.c) hG rfl ?_; simp [slotOf] at h38; simp [execOp, go_sem, h38, c0]
    ·intro a W hG hR hO hp; have h39 : slotOf a 39 = .slice (some ⟨sa, so, none⟩) s.cs.length s.c := hp.1; refine kY (v := .int .i64 s.cs.length) hG rfl ?_; simp [slotOf] at h39; simp [go_sem, h39]
   ·intro wz hG hR
    rintro _ rfl _ rfl _ rfl _ rfl _ rfl _ rfl _ rfl _ rfl
    change wpList _ _ _ _ _ _
    simp only [Act.put, List.setIfInBounds_toArray, List.set_cons_zero, List.set_cons_succ, List.drop_succ_cons, List.drop_zero]
    have HJ2 := Lib.hid (And.intro (newer_trans HJ1.out.1 hG) (HJ1.out.2.below hG HJ1.out.2.lt))
    clear hG hR HJ1 x0 x1 cx
    by_cases hxl : x.ls.length = s.cs.length
    case neg =>
     have hxI : ((x.ls.length : Int) == s.cs.length) = false := by rw [beq_eq_false_iff_ne]; omega
     have hxJ : ((x.ls.length : Int) != s.cs.length) = true := by simp [bne, hxI]
     have HE : Hid (R = false) := Lib.hid (HBAD.out (by
      unfold shR Rw.d
      rw [List.length_map, decide_eq_false hxl, Bool.false_and]))
     go_wp2_with fail
     go_ret
     exact ⟨by rw [HE.out] <;> rfl, HJ2.out.1⟩
    case pos =>
    have hxI : ((x.ls.length : Int) == s.cs.length) = true := by rw [beq_iff_eq]; omega
    have hxJ : ((x.ls.length : Int) != s.cs.length) = false := by simp [bne, hxI]
    obtain ⟨xa, xo, hxa, hcx⟩ := lnAll (HOK.out.2.lss x (List.mem_of_getElem? HX.out)) (by intro h; have := HN1.out; rw [h] at hxl; simp at hxl; omega)
    have HLX := Lib.hid hcx
    have HXL := Lib.hid hxl
    have HXC : Hid (∀ W, newer w W -> W.cell? ⟨ta, tf + r, none⟩ = some (.slice (some ⟨xa, xo, none⟩) s.cs.length x.c)) := Lib.hid (fun W hW => by
     have h := HCT.out r x HX.out W hW
     rw [hxa, hxl] at h
     exact h)
    clear hcx hxl hxa
    go_wp2_with fail
    go_loopw [9] (fun s9 wr => ∃ k : Nat, s9 = vi k /\ k <= s.cs.length /\ (∀ (i : Nat) (y : Ln), i < k -> x.ls[i]? = some y -> shL n y.l = true) /\ newer w wr /\ Whole wr w.heap.size 24 (smC s)) (fun s9 _ => s.cs.length - (intOf s9).toNat)
    case atStart => exact ⟨0, rfl, Nat.zero_le _, fun i x h => absurd h (Nat.not_lt_zero _), HJ2.out.1, HJ2.out.2⟩
    case round =>
     obtain ⟨k, rfl, hk, hdn, q1_, q2_⟩ := hrel
     clear HJ2
     have HJ3 := Lib.hid (And.intro q1_ q2_)
     have HD2 := Lib.hid hdn
     clear hdn q1_ q2_
     have x0 := HJ3.out.2.at 0 (v := .slice s.a s.cs.length s.c) rfl
     have x1 := HJ3.out.2.at 1 (v := vi s.least) rfl
     rw [HSA.out] at x0
     by_cases hltk : k < s.cs.length
     case neg =>
      obtain rfl : k = s.cs.length := by omega
      have hltkI : ¬ ((s.cs.length : Int) < s.cs.length) := by omega
      have HRW : Hid (shR n s.cs.length x.d = true) := Lib.hid (by
       unfold shR Rw.d
       rw [List.length_map, decide_eq_true HXL.out, Bool.true_and, List.all_eq_true]
       intro l hl
       obtain ⟨y, hy, rfl⟩ := List.mem_map.1 hl
       obtain ⟨j, hj⟩ := List.mem_iff_getElem?.1 hy
       exact HD2.out j y (by have := (List.getElem?_eq_some_iff.1 hj).1; have := HXL.out; omega) hj)
      go_wp2_with fail
      refine ⟨⟨r + 1, by simp, by omega, fun i z hi hz => ?_, HJ3.out.1, HJ3.out.2⟩, ?_⟩
      ·by_cases e : i = r
       ·subst e
        rw [HX.out] at hz
        injection hz with hz
        subst hz
        exact HRW.out
       ·exact HD1.out i z (by omega) hz
      ·simp [intOf]
       omega
     case pos =>
     have hltkI : (k : Int) < s.cs.length := by omega
     have hkb : (k : Int) <= 11 := by have := HTL.out; omega
     obtain ⟨y, hy⟩ := get_of_lt (l := x.ls) (k := k) (by have := HXL.out; omega)
     have HY := Lib.hid hy
     have cx := HXC.out wr HJ3.out.1
     have cy := HLX.out k y hy wr HJ3.out.1
     have HBAL : Hid (shL n y.l = false -> R = false) := Lib.hid (fun h => HBAD.out (by
      unfold shR Rw.d
      rw [Bool.and_eq_false_iff]
      right
      rw [List.all_eq_false]
      exact ⟨y.l, List.mem_map.2 ⟨y, List.mem_of_getElem? HY.out, rfl⟩, by rw [h]; simp⟩))
     clear hy
     by_cases hyl : y.l.length = n
     case neg =>
      have hyI : ((y.l.length : Int) == n) = false := by rw [beq_eq_false_iff_ne]; omega
      have HE : Hid (R = false) := Lib.hid (HBAL.out (by
       unfold shL
       rw [decide_eq_false hyl, Bool.false_and]))
      go_wp2_with fail
      go_ret
      exact ⟨by rw [HE.out] <;> rfl, HJ3.out.1⟩
     case pos =>
     obtain ⟨ya, yo, hya, hcy⟩ := inAll (HOK.out.2.nums x (List.mem_of_getElem? HX.out) y (List.mem_of_getElem? HY.out)) (by intro h; have := HN1.out; rw [h] at hyl; simp at hyl; omega)
     have HLY := Lib.hid hcy
     have HYLN := Lib.hid hyl
     have HYL : Hid (∀ W, newer w W -> W.cell? ⟨xa, xo + k, none⟩ = some (.slice (some ⟨ya, yo, none⟩) n y.c)) := Lib.hid (fun W hW => by
      have h := HLX.out k y HY.out W hW
      rw [hya, hyl] at h
      exact h)
     rw [hya, hyl] at cy
     clear hcy hyl hya
     go_wp2_with fail
     go_loopw [10] (fun s10 wr => ∃ b : Nat, s10 = vi b /\ b <= n /\ (∀ (i : Nat) (v : Int), i < b -> y.l[i]? = some v -> inB v (-bigN) bigN = true) /\ newer w wr /\ Whole wr w.heap.size 24 (smC s)) (fun s10 _ => n - (intOf s10).toNat)
     case atStart => exact ⟨0, rfl, Nat.zero_le _, fun i x h => absurd h (Nat.not_lt_zero _), HJ3.out.1, HJ3.out.2⟩
     case round =>
      obtain ⟨b, rfl, hb, hdn, q1_, q2_⟩ := hrel
      clear HJ3 x0 x1 cx cy
      have HJ4 := Lib.hid (And.intro q1_ q2_)
      have HD3 := Lib.hid hdn
      clear hdn q1_ q2_
      by_cases hltb : b < n
      case neg =>
       obtain rfl : b = n := by omega
       have hltbI : ¬ ((b : Int) < b) := by omega
       have HRW : Hid (shL b y.l = true) := Lib.hid (by
        unfold shL
        rw [decide_eq_true HYLN.out, Bool.true_and, List.all_eq_true]
        intro v hv
        obtain ⟨j, hj⟩ := List.mem_iff_getElem?.1 hv
        exact HD3.out j v (by have := (List.getElem?_eq_some_iff.1 hj).1; have := HYLN.out; omega) hj)
       go_wp2_with fail
       refine ⟨⟨k + 1, by simp, by omega, fun i z hi hz => ?_, HJ4.out.1, HJ4.out.2⟩, ?_⟩
       ·by_cases e : i = k
        ·subst e
         rw [HY.out] at hz
         injection hz with hz
         subst hz
         exact HRW.out
        ·exact HD2.out i z (by omega) hz
       ·simp [intOf]
        omega
      case pos =>
      have hltbI : (b : Int) < n := by omega
      have hbb : (b : Int) <= 4 := by have := HTL.out; omega
      obtain ⟨v, hv⟩ := get_of_lt (l := y.l) (k := b) (by have := HYLN.out; omega)
      have HV := Lib.hid hv
      have cx := HXC.out wr HJ4.out.1
      have cy := HYL.out wr HJ4.out.1
      have cv := HLY.out b v hv wr HJ4.out.1
      obtain ⟨nr, hnr⟩ : ∃ q, q = inB v (-bigN) bigN := ⟨_, rfl⟩
      have HIN : Hid (∀ W, Calls Try.prog 50 #[vi v, vi (-1000000000000000), vi 1000000000000000] W fun e w' => e = .returned (.bool nr) /\ newer W w') := Lib.hid (fun W => by rw [hnr]; exact (in_any v (-1000000000000000) 1000000000000000 W).mono (by rintro e w' ⟨h1, rfl⟩; exact ⟨h1, newer_refl _⟩))
      have HNR := Lib.hid hnr
      clear hv hnr
      go_wp2_with fail
      refine (HIN.out _).mono ?_
      rintro e w8 ⟨rfl, hb2⟩
      have HJ5 := Lib.hid (And.intro (newer_trans HJ4.out.1 hb2) (HJ4.out.2.below hb2 HJ4.out.2.lt))
      clear hb2 HJ4 cx cy cv
      cases nr with
      | false =>
       have HE : Hid (R = false) := Lib.hid (HBAL.out (by
        unfold shL
        rw [Bool.and_eq_false_iff]
        right
        rw [List.all_eq_false]
        exact ⟨v, List.mem_of_getElem? HV.out, by rw [<- HNR.out]; simp⟩))
       go_wp2_with fail
       go_ret
       exact ⟨by rw [HE.out] <;> rfl, HJ5.out.1⟩
      | true =>
       go_wp2_with fail
       refine ⟨⟨b + 1, by simp, by omega, fun i z hi hz => ?_, HJ5.out.1, HJ5.out.2⟩, ?_⟩
       ·by_cases e : i = b
        ·subst e
         rw [HV.out] at hz
         injection hz with hz
         subst hz
         exact HNR.out.symm
        ·exact HD3.out i z (by omega) hz
       ·simp [intOf]
        omega
  case neg =>
  obtain rfl : r = ts.length := by omega
  have hltI : ¬ ((ts.length : Int) < s.least) := by have := HLN.out; omega
  have HQ : Hid (shT n s.cs.length s.least D = true) := Lib.hid (by
   unfold shT
   rw [HDD.out, List.length_map, decide_eq_true HLN.out, Bool.true_and, List.all_eq_true]
   intro r hr
   obtain ⟨x, hx, rfl⟩ := List.mem_map.1 hr
   obtain ⟨j, hj⟩ := List.mem_iff_getElem?.1 hx
   exact HD1.out j x (List.getElem?_eq_some_iff.1 hj).1 hj)
  have HRT := Lib.hid (HR2.out HQ.out)
  have HTB : Hid (∀ r k, r < ts.length -> k < s.cs.length -> ∃ x y, ts[r]? = some x /\ x.ls[k]? = some y /\ x.ls.length = s.cs.length /\ y.l.length = n /\ (∀ b, b < n -> -bigN <= iAt y.l b /\ iAt y.l b <= bigN) /\ tN D r k = iAt y.l) := Lib.hid (fun r k hr hk => by
   have h := HQ.out
   rw [HDD.out] at h ⊢
   exact tb_at h hr hk)
  have HAT : Hid (∀ r k, r < ts.length -> k < s.cs.length -> ∃ (x : Rw) (y : Ln) (p o p2 o2 : Nat), (∀ W, newer w W -> W.cell? ⟨ta, tf + r, none⟩ = some (.slice (some ⟨p, o, none⟩) s.cs.length x.c)) /\ (∀ W, newer w W -> W.cell? ⟨p, o + k, none⟩ = some (.slice (some ⟨p2, o2, none⟩) n y.c)) /\ ∀ b, b < n -> (∀ W, newer w W -> W.cell? ⟨p2, o2 + b, none⟩ = some (vi (tN D r k b))) /\ (-1000000000000000 <= tN D r k b /\ tN D r k b <= 1000000000000000)) := Lib.hid (fun r k hr hk => by
   obtain ⟨x, y, g1, g2, g3, g4, g5, g6⟩ := HTB.out r k hr hk
   obtain ⟨p, o, e1, h1⟩ := lnAll (HOK.out.2.lss x (List.mem_of_getElem? g1)) (ne_nil_of_get g2)
   obtain ⟨p2, o2, e2, h2⟩ := inAll (HOK.out.2.nums x (List.mem_of_getElem? g1) y (List.mem_of_getElem? g2)) (by intro h; have := HN1.out; rw [h] at g4; simp at g4; omega)
   refine ⟨x, y, p, o, p2, o2, fun W hW => ?_, fun W hW => ?_, fun b hb => ⟨fun W hW => ?_, ?_⟩⟩
   ·have h := HCT.out r x g1 W hW
    rw [e1, g3] at h
    exact h
   ·have h := h1 k y g2 W hW
    rw [e2, g4] at h
    exact h
   ·obtain ⟨u, hu⟩ := get_of_lt (l := y.l) (k := b) (by omega)
    rw [g6, iAt_of hu]
    exact h2 b u hu W hW
   ·rw [g6]
    exact g5 b hb)
  clear HRS HR2 HD1 HQ
  have hr0 : (0 : Int) <= ts.length := by omega
  go_wp2_with fail
  go_loopw [11] (fun s11 wr => ∃ r : Nat, s11 = vi r /\ r <= ts.length /\ (∀ r' k b, r' < r -> k < s.cs.length -> b < n -> cellT cF_ bigN n K (tN D) r' k b) /\ newer w wr /\ Whole wr w.heap.size 24 (smC s)) (fun s11 _ => ts.length - (intOf s11).toNat)
  case atStart => exact ⟨0, rfl, Nat.zero_le _, fun i x b h => absurd h (Nat.not_lt_zero _), HJ1.out.1, HJ1.out.2⟩
  case round =>
   obtain ⟨r, rfl, hr, hdn, q1_, q2_⟩ := hrel
   clear HJ1 x0 x1
   have HJ1 := Lib.hid (And.intro q1_ q2_)
   have HD1 := Lib.hid hdn
   clear hdn q1_ q2_
   have x0 := HJ1.out.2.at 0 (v := .slice s.a s.cs.length s.c) rfl
   have x1 := HJ1.out.2.at 1 (v := vi s.least) rfl
   rw [HSA.out] at x0
   by_cases hlt : r < ts.length
   case neg =>
    have HE : Hid (R = true) := Lib.hid (by
     rw [HRT.out]
     intro r k b h1 h2 h3
     have := HN1.out
     exact HD1.out r k b (by omega) h2 h3)
    have hltJ : ¬ ((r : Int) < s.least) := by have := HLN.out; omega
    go_wp2_with fail
    go_ret
    exact ⟨by rw [HE.out] <;> rfl, HJ1.out.1⟩
   case pos =>
   have hltI : (r : Int) < ts.length := by omega
   have hltJ : (r : Int) < s.least := by have := HLN.out; omega
   have hrb : (r : Int) <= 3 := by have := HTL.out; omega
   go_wp2_with fail
   go_loopw [12] (fun s12 wr => ∃ k : Nat, s12 = vi k /\ k <= s.cs.length /\ (∀ k' b, k' < k -> b < n -> cellT cF_ bigN n K (tN D) r k' b) /\ newer w wr /\ Whole wr w.heap.size 24 (smC s)) (fun s12 _ => s.cs.length - (intOf s12).toNat)
   case atStart => exact ⟨0, rfl, Nat.zero_le _, fun x b h => absurd h (Nat.not_lt_zero _), HJ1.out.1, HJ1.out.2⟩
   case round =>
    obtain ⟨k, rfl, hk, hdn, q1_, q2_⟩ := hrel
    clear HJ1 x0 x1
    have HJ2 := Lib.hid (And.intro q1_ q2_)
    have HD2 := Lib.hid hdn
    clear hdn q1_ q2_
    have x0 := HJ2.out.2.at 0 (v := .slice s.a s.cs.length s.c) rfl
    have x1 := HJ2.out.2.at 1 (v := vi s.least) rfl
    rw [HSA.out] at x0
    by_cases hltk : k < s.cs.length
    case neg =>
     obtain rfl : k = s.cs.length := by omega
     have hltkI : ¬ ((s.cs.length : Int) < s.cs.length) := by omega
     go_wp2_with fail
     refine ⟨⟨r + 1, by simp, by omega, fun i j b hi hj hb => ?_, HJ2.out.1, HJ2.out.2⟩, ?_⟩
     ·by_cases e : i = r
      ·subst e
       exact HD2.out j b hj hb
      ·exact HD1.out i j b (by omega) hj hb
     ·simp [intOf]
      omega
    case pos =>
    have hltkI : (k : Int) < s.cs.length := by omega
    have hkb : (k : Int) <= 11 := by have := HTL.out; omega
    go_wp2_with fail
    go_loopw [13] (fun s13 wr => ∃ b : Nat, s13 = vi b /\ b <= n /\ (∀ b', b' < b -> cellT cF_ bigN n K (tN D) r k b') /\ newer w wr /\ Whole wr w.heap.size 24 (smC s)) (fun s13 _ => n - (intOf s13).toNat)
    case atStart => exact ⟨0, rfl, Nat.zero_le _, fun b h => absurd h (Nat.not_lt_zero _), HJ2.out.1, HJ2.out.2⟩
    case round =>
     obtain ⟨b, rfl, hb, hdn, q1_, q2_⟩ := hrel
     clear HJ2 x0 x1
     have HJ3 := Lib.hid (And.intro q1_ q2_)
     have HD3 := Lib.hid hdn
     clear hdn q1_ q2_
     have x0 := HJ3.out.2.at 0 (v := .slice s.a s.cs.length s.c) rfl
     rw [HSA.out] at x0
     by_cases hltb : b < n
     case neg =>
      obtain rfl : b = n := by omega
      have hltbI : ¬ ((b : Int) < b) := by omega
      go_wp2_with fail
      refine ⟨⟨k + 1, by simp, by omega, fun j b' hj hb' => ?_, HJ3.out.1, HJ3.out.2⟩, ?_⟩
      ·by_cases e : j = k
       ·subst e
        exact HD3.out b' hb'
       ·exact HD2.out j b' (by omega) hb'
      ·simp [intOf]
       omega
     case pos =>
     have hltbI : (b : Int) < n := by omega
     have hbb : (b : Int) <= 4 := by have := HTL.out; omega
     obtain ⟨x, y, xa, xo, ya, yo, g1, g2, g3⟩ := HAT.out r k hlt hltk
     obtain ⟨g4, hvb⟩ := g3 b hltb
     obtain ⟨v, hv⟩ : ∃ v, v = tN D r k b := ⟨_, rfl⟩
     rw [<- hv] at g4 hvb
     have HXC := Lib.hid g1
     have HYL := Lib.hid g2
     have HVC := Lib.hid g4
     obtain ⟨xc, bd, ca, co, g5, g6, g7⟩ := HCC.out k b hltk hltb
     obtain ⟨cv, hcv⟩ : ∃ cv, cv = cF_ k b := ⟨_, rfl⟩
     rw [<- hcv] at g7
     have hcb := HCB.out k b
     rw [<- hcv] at hcb
     have HCO := Lib.hid g7
     have HBD := Lib.hid g6
     have HCD := Lib.hid g5
     have HCE : Hid (cellT cF_ bigN n K (tN D) r k b ↔ ((r = 0 -> v <= cv) /\ (0 < r -> 0 < k -> ∀ x, x < n -> b <= x + 1 -> x <= b + 1 -> v <= cv + tN D (r - 1) (k - 1) x) /\ (r = K - 1 -> 0 < k -> ∀ x, x < n -> b <= x + 1 -> x <= b + 1 -> v <= cv + tN D r (k - 1) x) /\ (r = K - 1 -> K - 1 <= k -> 0 <= v))) := Lib.hid (by
      rw [hcv, hv]
      unfold cellT
      have i1 : (0 < r -> 0 < k -> tN D r k b <= cF_ k b + behindN bigN n (tN D (r - 1) (k - 1)) b) ↔ (0 < r -> 0 < k -> ∀ x, x < n -> b <= x + 1 -> x <= b + 1 -> tN D r k b <= cF_ k b + tN D (r - 1) (k - 1) x) := by
       have hi := fun (h1 : 0 < r) (h2 : 0 < k) => behind_iff (row := tN D (r - 1) (k - 1)) (q := cF_ k b) (v := tN D r k b) hltb (fun x hx => by
        obtain ⟨_, _, _, _, _, _, _, _, h⟩ := HAT.out (r - 1) (k - 1) (by omega) (by omega)
        exact (h x hx).2.2)
       exact ⟨fun h h1 h2 => (hi h1 h2).1 (h h1 h2), fun h h1 h2 => (hi h1 h2).2 (h h1 h2)⟩
      have i2 : (r = K - 1 -> 0 < k -> tN D r k b <= cF_ k b + behindN bigN n (tN D r (k - 1)) b) ↔ (r = K - 1 -> 0 < k -> ∀ x, x < n -> b <= x + 1 -> x <= b + 1 -> tN D r k b <= cF_ k b + tN D r (k - 1) x) := by
       have hi := fun (h2 : 0 < k) => behind_iff (row := tN D r (k - 1)) (q := cF_ k b) (v := tN D r k b) hltb (fun x hx => by
        obtain ⟨_, _, _, _, _, _, _, _, h⟩ := HAT.out r (k - 1) hlt (by omega)
        exact (h x hx).2.2)
       exact ⟨fun h h1 h2 => (hi h2).1 (h h1 h2), fun h h1 h2 => (hi h2).2 (h h1 h2)⟩
      exact and_congr Iff.rfl (and_congr i1 (and_congr i2 Iff.rfl)))
     have HFAIL : Hid (¬ cellT cF_ bigN n K (tN D) r k b -> R = false) := Lib.hid (fun h => by
      cases hR : R with
      | false => rfl
      | true => exact absurd (HRT.out.1 hR r k b (by have := HN1.out; omega) hltk hltb) h)
     clear g1 g2 g3 g4 g5 g6 g7 hcv hv
     go_upto_region 28 with fail
     refine wp_words (by kernel_rfl) (region_told 20 (by kernel_rfl) (by kernel_rfl) (fun W => Below wr.heap.size wr W) newer (pickD [vIs (.slice (some ⟨ta, tf, none⟩) ts.length c), vIs (vi r), vIs (.pointer (some ⟨ta, tf + r, none⟩)), vIs (.slice (some ⟨xa, xo, none⟩) s.cs.length x.c), vIs (vi k), vIs (.pointer (some ⟨xa, xo + k, none⟩)), vIs (.slice (some ⟨ya, yo, none⟩) n y.c), vIs (vi b), vIs (.pointer (some ⟨ya, yo + b, none⟩)), vIs (vi v), vIs (.pointer (some ⟨w.heap.size, 0, none⟩)), vIs (.slice (some ⟨sa, so, none⟩) s.cs.length s.c), vIs (vi k), vIs (.pointer (some ⟨sa, so + k, none⟩)), vIs (.slice (some ⟨ca, co, none⟩) n xc.cp), vIs (vi b), vIs (.pointer (some ⟨ca, co + b * 8, none⟩)), vIs (bdV bd), vIs (vi f), vIs (vi cv)]) (fun h k => newer_trans h k) (pickD_stable _ ⟨vIs_st, vIs_st, vIs_st, vIs_st, vIs_st, vIs_st, vIs_st, vIs_st, vIs_st, vIs_st, vIs_st, vIs_st, vIs_st, vIs_st, vIs_st, vIs_st, vIs_st, vIs_st, vIs_st, vIs_st, trivial⟩) (Below.refl _ wr).drew (Below.refl _ _) ?_ ?_)
     ·refine ⟨?_, ?_, ?_, ?_, ?_, ?_, ?_, ?_, ?_, ?_, ?_, ?_, ?_, ?_, ?_, ?_, ?_, ?_, ?_, ?_, trivial⟩
      ·exact fun a W hG _ hO _ => kM 2 rfl (hO.slot 2 (by kernel_rfl)) rfl hG
      ·exact fun a W hG _ hO _ => kM 11 rfl (hO.slot 11 (by kernel_rfl)) rfl hG
      ·intro a W hG hR hO hp; have h94 : slotOf a 94 = .slice (some ⟨ta, tf, none⟩) ts.length c := hp.1; have h95 : slotOf a 95 = vi r := hp.2.1; refine kY (v := .pointer (some ⟨ta, tf + r, none⟩)) hG rfl ?_; simp [slotOf] at h94 h95; simp [execOp, go_sem, h94, h95, hltI]
      ·intro a W hG hR hO hp; have h96 : slotOf a 96 = .pointer (some ⟨ta, tf + r, none⟩) := hp.1; have c0 := HXC.out W (newer_trans HJ3.out.1 hG); refine kY (v := .slice (some ⟨xa, xo, none⟩) s.cs.length x.c) hG rfl ?_; simp [slotOf] at h96; simp [execOp, go_sem, h96, c0]
      ·exact fun a W hG _ hO _ => kM 12 rfl (hO.slot 12 (by kernel_rfl)) rfl hG
      ·intro a W hG hR hO hp; have h97 : slotOf a 97 = .slice (some ⟨xa, xo, none⟩) s.cs.length x.c := hp.1; have h98 : slotOf a 98 = vi k := hp.2.1; refine kY (v := .pointer (some ⟨xa, xo + k, none⟩)) hG rfl ?_; simp [slotOf] at h97 h98; simp [execOp, go_sem, h97, h98, hltkI]
      ·intro a W hG hR hO hp; have h99 : slotOf a 99 = .pointer (some ⟨xa, xo + k, none⟩) := hp.1; have c0 := HYL.out W (newer_trans HJ3.out.1 hG); refine kY (v := .slice (some ⟨ya, yo, none⟩) n y.c) hG rfl ?_; simp [slotOf] at h99; simp [execOp, go_sem, h99, c0]
      ·exact fun a W hG _ hO _ => kM 13 rfl (hO.slot 13 (by kernel_rfl)) rfl hG
      ·intro a W hG hR hO hp; have h100 : slotOf a 100 = .slice (some ⟨ya, yo, none⟩) n y.c := hp.1; have h101 : slotOf a 101 = vi b := hp.2.1; refine kY (v := .pointer (some ⟨ya, yo + b, none⟩)) hG rfl ?_; simp [slotOf] at h100 h101; simp [execOp, go_sem, h100, h101, hltbI]
      ·intro a W hG hR hO hp; have h102 : slotOf a 102 = .pointer (some ⟨ya, yo + b, none⟩) := hp.1; have c0 := HVC.out W (newer_trans HJ3.out.1 hG); refine kY (v := vi v) hG rfl ?_; simp [slotOf] at h102; simp [execOp, go_sem, h102, c0]
      ·intro a W hG hR hO hp; have h3 := hO.slot 3 (by kernel_rfl); refine kY (v := .pointer (some ⟨w.heap.size, 0, none⟩)) hG rfl ?_; simp [slotOf] at h3; simp [execOp, go_sem, h3]
      ·intro a W hG hR hO hp; have h104 : slotOf a 104 = .pointer (some ⟨w.heap.size, 0, none⟩) := hp.1; have c0 := keep_cell x0 hG; refine kY (v := .slice (some ⟨sa, so, none⟩) s.cs.length s.c) hG rfl ?_; simp [slotOf] at h104; simp [execOp, go_sem, h104, c0]
      ·exact fun a W hG _ hO _ => kM 12 rfl (hO.slot 12 (by kernel_rfl)) rfl hG
      ·intro a W hG hR hO hp; have h105 : slotOf a 105 = .slice (some ⟨sa, so, none⟩) s.cs.length s.c := hp.1; have h106 : slotOf a 106 = vi k := hp.2.1; refine kY (v := .pointer (some ⟨sa, so + k, none⟩)) hG rfl ?_; simp [slotOf] at h105 h106; simp [execOp, go_sem, h105, h106, hltkI]
      ·intro a W hG hR hO hp; have h107 : slotOf a 107 = .pointer (some ⟨sa, so + k, none⟩) := hp.1; have c0 := HCD.out W (newer_trans HJ3.out.1 hG); refine kY (v := .slice (some ⟨ca, co, none⟩) n xc.cp) hG rfl ?_; simp [slotOf] at h107; simp [execOp, go_sem, h107, c0]
      ·exact fun a W hG _ hO _ => kM 13 rfl (hO.slot 13 (by kernel_rfl)) rfl hG
      ·intro a W hG hR hO hp; have h108 : slotOf a 108 = .slice (some ⟨ca, co, none⟩) n xc.cp := hp.1; have h109 : slotOf a 109 = vi b := hp.2.1; refine kY (v := .pointer (some ⟨ca, co + b * 8, none⟩)) hG rfl ?_; simp [slotOf] at h108 h109; simp [execOp, go_sem, h108, h109, hltbI]
      ·intro a W hG hR hO hp; have h110 : slotOf a 110 = .pointer (some ⟨ca, co + b * 8, none⟩) := hp.1; obtain ⟨d0, d1, d2, d3, d4, d5, d6, d7⟩ := HBD.out W (newer_trans HJ3.out.1 hG); refine kY (v := bdV bd) hG rfl ?_; simp [slotOf] at h110; simp [execOp, go_sem, h110, d0, d1, d2, d3, d4, d5, d6, d7]
      ·exact fun a W hG _ hO _ => kM 1 rfl (hO.slot 1 (by kernel_rfl)) rfl hG
      ·intro a W hG hR hO hp
       have h111 : slotOf a 111 = bdV bd := hp.1
       have h112 : slotOf a 112 = vi f := hp.2.1
       refine wp_enters (f := 86) (args := #[bdV bd, vi f]) ?_ ((HCO.out W).mono ?_)
       ·simp [slotOf] at h111 h112
        simp [go_sem, h111, h112]
       ·rintro e w' ⟨rfl, hb⟩
        exact ⟨_, rfl, _, rfl, rfl, hb, below_next hG hb⟩
     ·intro wz hG hR
      rintro _ rfl _ rfl _ rfl _ rfl _ rfl _ rfl _ rfl _ rfl _ rfl _ rfl _ rfl _ rfl _ rfl _ rfl _ rfl _ rfl _ rfl _ rfl _ rfl _ rfl
      change wpList _ _ _ _ _ _
      simp only [Act.put, List.setIfInBounds_toArray, List.set_cons_zero, List.set_cons_succ, List.drop_succ_cons, List.drop_zero]
      have HJ4 := Lib.hid (And.intro (newer_trans HJ3.out.1 hG) (HJ3.out.2.below hG HJ3.out.2.lt))
      clear hG hR HJ3 x0 HXC HYL HVC HCD HBD HCO
      have x0 := HJ4.out.2.at 0 (v := .slice s.a s.cs.length s.c) rfl
      have x1 := HJ4.out.2.at 1 (v := vi s.least) rfl
      rw [HSA.out] at x0
      by_cases q0 : r = 0
      case pos =>
       have e0 : ((r : Int) == 0) = true := by rw [beq_iff_eq]; omega
       have e2I : ¬ (0 < (r : Int)) := by omega
       have HQ0 := Lib.hid q0
       clear q0
       by_cases q1 : cv < v
       case pos =>
        by_cases q9 : (r : Int) = s.least - 1
        case pos =>
         have e1 : ((r : Int) == s.least - 1) = true := by rw [beq_iff_eq]; exact q9
         have HE : Hid (R = false) := Lib.hid (HFAIL.out (by
          rw [HCE.out]
          intro h
          have h1 := h.1 HQ0.out
          omega))
         go_wp2_with fail
         go_ret
         exact ⟨by rw [HE.out] <;> rfl, HJ4.out.1⟩
        case neg =>
         have e1 : ((r : Int) == s.least - 1) = false := by rw [beq_eq_false_iff_ne]; exact q9
         have HE : Hid (R = false) := Lib.hid (HFAIL.out (by
          rw [HCE.out]
          intro h
          have h1 := h.1 HQ0.out
          omega))
         go_wp2_with fail
         go_ret
         exact ⟨by rw [HE.out] <;> rfl, HJ4.out.1⟩
       case neg =>
        by_cases ql : r = K - 1
        case pos =>
         have e1 : ((r : Int) == s.least - 1) = true := by have := HN1.out; rw [beq_iff_eq]; omega
         have HQL := Lib.hid ql
         by_cases qq : K - 1 <= k
         case neg =>
          have qI : ¬ (s.least - 1 <= (k : Int)) := by have := HN1.out; omega
          have HB4 : Hid ((r = 0 -> v <= cv) /\ (r = K - 1 -> K - 1 <= k -> 0 <= v)) := Lib.hid ⟨fun h => by omega, fun h1 h2 => by omega⟩
          clear ql qq
          as_aux_lemma =>
           go_wp2_with fail
           go_loopw [16] (fun s16 wr => ∃ cc : Nat, s16 = vi cc /\ cc <= n /\ (∀ x, x < cc -> b <= x + 1 -> x <= b + 1 -> 0 < k -> (0 < r -> v <= cv + tN D (r - 1) (k - 1) x) /\ (r = K - 1 -> v <= cv + tN D r (k - 1) x)) /\ newer w wr /\ Whole wr w.heap.size 24 (smC s)) (fun s16 _ => n - (intOf s16).toNat)
           case atStart => exact ⟨0, rfl, Nat.zero_le _, fun x h => absurd h (Nat.not_lt_zero _), HJ4.out.1, HJ4.out.2⟩
           case round =>
            obtain ⟨cc, rfl, hcc, hdn, q1_, q2_⟩ := hrel
            have HJ5 := Lib.hid (And.intro q1_ q2_)
            have HDN := Lib.hid hdn
            clear q1_ q2_ hdn HJ4 x0 x1
            have x0 := HJ5.out.2.at 0 (v := .slice s.a s.cs.length s.c) rfl
            have x1 := HJ5.out.2.at 1 (v := vi s.least) rfl
            rw [HSA.out] at x0
            by_cases hltc : cc < n
            case neg =>
             obtain rfl : cc = n := by omega
             have hltcI : ¬ ((cc : Int) < cc) := by omega
             have HN_ : Hid (cellT cF_ bigN cc K (tN D) r k b) := Lib.hid (by
              rw [HCE.out]
              refine ⟨HB4.out.1, fun h1 h2 x hx h3 h4 => (HDN.out x hx h3 h4 h2).1 h1, fun h1 h2 x hx h3 h4 => (HDN.out x hx h3 h4 h2).2 h1, HB4.out.2⟩)
             go_wp2_with fail
             refine ⟨⟨b + 1, by simp, by omega, ?_, HJ5.out.1, HJ5.out.2⟩, ?_⟩
             ·intro b' hb'
              by_cases e : b' = b
              ·subst e
               exact HN_.out
              ·exact HD3.out b' (by omega)
             ·simp [intOf]
              omega
            case pos =>
            have hltcI : (cc : Int) < n := by omega
            have hcb : (cc : Int) <= 4 := by have := HTL.out; omega
            by_cases qk : 0 < k
            case neg =>
             have ek : ((k : Int) == 0) = true := by rw [beq_iff_eq]; omega
             go_wp2_with fail
             refine ⟨⟨cc + 1, by simp, by omega, fun x _ _ _ h => absurd h qk, HJ5.out.1, HJ5.out.2⟩, ?_⟩
             simp [intOf]
             omega
            case pos =>
            have ek : ((k : Int) == 0) = false := by rw [beq_eq_false_iff_ne]; omega
            obtain ⟨nr, hnr⟩ : ∃ q, q = inB ((b : Int) - cc) (-1) 1 := ⟨_, rfl⟩
            have HIN : Hid (∀ W, Calls Try.prog 50 #[vi ((b : Int) - cc), vi (-1), vi 1] W fun e w' => e = .returned (.bool nr) /\ newer W w') := Lib.hid (fun W => by rw [hnr]; exact (in_any ((b : Int) - cc) (-1) 1 W).mono (by rintro e w' ⟨h1, rfl⟩; exact ⟨h1, newer_refl _⟩))
            have HNR : Hid (nr = true ↔ (b <= cc + 1 /\ cc <= b + 1)) := Lib.hid (by rw [hnr]; simp only [inB, Bool.and_eq_true, decide_eq_true_eq]; omega)
            clear hnr
            obtain ⟨k1, hk1e⟩ : ∃ k1, k1 = k - 1 := ⟨_, rfl⟩
            have hk1 : IntKind.i64.wrap ((k : Int) - 1) = k1 := by rw [IntWalk.i64_in _ (by omega)]; omega
            have hk2 : (k1 : Int) < s.cs.length := by omega
            have HK1 := Lib.hid hk1e
            clear hk1e
            obtain ⟨X2, Y2, p3, o3, p4, o4, g1, g2, g3⟩ := HAT.out r k1 hlt (by omega)
            obtain ⟨g4, g6⟩ := g3 cc hltc
            have HA2 := Lib.hid (And.intro g1 (And.intro g2 g4))
            obtain ⟨u2, hu2⟩ : ∃ u, u = tN D r k1 cc := ⟨_, rfl⟩
            rw [<- hu2] at HA2 g6
            have HU2 := Lib.hid hu2
            clear g1 g2 g3 g4 hu2
            go_wp2_with fail
            refine (HIN.out _).mono ?_
            rintro e w8 ⟨rfl, hb⟩
            have HJ6 := Lib.hid (And.intro (newer_trans HJ5.out.1 hb) (HJ5.out.2.below hb HJ5.out.2.lt))
            clear hb HJ5 x0 x1
            have x1 := HJ6.out.2.at 1 (v := vi s.least) rfl
            cases nr with
            | false =>
             go_wp2_with fail
             refine ⟨⟨cc + 1, by simp, by omega, fun x hx h1 h2 h3 => ?_, HJ6.out.1, HJ6.out.2⟩, ?_⟩
             ·by_cases e : x = cc
              ·subst e
               have := HNR.out.2 ⟨h1, h2⟩
               cases this
              ·exact HDN.out x (by omega) h1 h2 h3
             ·simp [intOf]
              omega
            | true =>
             have z1 := HA2.out.1 _ HJ6.out.1
             have z2 := HA2.out.2.1 _ HJ6.out.1
             have z3 := HA2.out.2.2 _ HJ6.out.1
             by_cases t2 : cv + u2 < v
             case pos =>
              have HE : Hid (R = false) := Lib.hid (HFAIL.out (by
               rw [HCE.out]
               intro h
               have h1 := h.2.2.1 HQL.out (by omega) cc hltc (HNR.out.1 rfl).1 (HNR.out.1 rfl).2
               rw [<- HK1.out, <- HU2.out] at h1
               omega))
              go_wp2_with fail
              go_ret
              exact ⟨by rw [HE.out] <;> rfl, HJ6.out.1⟩
             case neg =>
              go_wp2_with fail
              refine ⟨⟨cc + 1, by simp, by omega, fun x hx h1 h2 h3 => ?_, HJ6.out.1, HJ6.out.2⟩, ?_⟩
              ·by_cases e : x = cc
               ·subst e
                refine ⟨fun h => ?_, fun h => ?_⟩
                ·have := HQ0.out
                 omega
                ·rw [<- HK1.out, <- HU2.out]
                 omega
               ·exact HDN.out x (by omega) h1 h2 h3
              ·simp [intOf]
               omega
         case pos =>
          have qI : s.least - 1 <= (k : Int) := by have := HN1.out; omega
          by_cases q3 : v < 0
          case pos =>
           have HQQ := Lib.hid qq
           clear ql qq
           have HE : Hid (R = false) := Lib.hid (HFAIL.out (by
            rw [HCE.out]
            intro h
            have h1 := h.2.2.2 HQL.out HQQ.out
            omega))
           go_wp2_with fail
           go_ret
           exact ⟨by rw [HE.out] <;> rfl, HJ4.out.1⟩
          case neg =>
           have HB4 : Hid ((r = 0 -> v <= cv) /\ (r = K - 1 -> K - 1 <= k -> 0 <= v)) := Lib.hid ⟨fun h => by omega, fun h1 h2 => by omega⟩
           clear ql qq
           as_aux_lemma =>
            go_wp2_with fail
            go_loopw [16] (fun s16 wr => ∃ cc : Nat, s16 = vi cc /\ cc <= n /\ (∀ x, x < cc -> b <= x + 1 -> x <= b + 1 -> 0 < k -> (0 < r -> v <= cv + tN D (r - 1) (k - 1) x) /\ (r = K - 1 -> v <= cv + tN D r (k - 1) x)) /\ newer w wr /\ Whole wr w.heap.size 24 (smC s)) (fun s16 _ => n - (intOf s16).toNat)
            case atStart => exact ⟨0, rfl, Nat.zero_le _, fun x h => absurd h (Nat.not_lt_zero _), HJ4.out.1, HJ4.out.2⟩
            case round =>
             obtain ⟨cc, rfl, hcc, hdn, q1_, q2_⟩ := hrel
             have HJ5 := Lib.hid (And.intro q1_ q2_)
             have HDN := Lib.hid hdn
             clear q1_ q2_ hdn HJ4 x0 x1
             have x0 := HJ5.out.2.at 0 (v := .slice s.a s.cs.length s.c) rfl
             have x1 := HJ5.out.2.at 1 (v := vi s.least) rfl
             rw [HSA.out] at x0
             by_cases hltc : cc < n
             case neg =>
              obtain rfl : cc = n := by omega
              have hltcI : ¬ ((cc : Int) < cc) := by omega
              have HN_ : Hid (cellT cF_ bigN cc K (tN D) r k b) := Lib.hid (by
               rw [HCE.out]
               refine ⟨HB4.out.1, fun h1 h2 x hx h3 h4 => (HDN.out x hx h3 h4 h2).1 h1, fun h1 h2 x hx h3 h4 => (HDN.out x hx h3 h4 h2).2 h1, HB4.out.2⟩)
              go_wp2_with fail
              refine ⟨⟨b + 1, by simp, by omega, ?_, HJ5.out.1, HJ5.out.2⟩, ?_⟩
              ·intro b' hb'
               by_cases e : b' = b
               ·subst e
                exact HN_.out
               ·exact HD3.out b' (by omega)
              ·simp [intOf]
               omega
             case pos =>
             have hltcI : (cc : Int) < n := by omega
             have hcb : (cc : Int) <= 4 := by have := HTL.out; omega
             by_cases qk : 0 < k
             case neg =>
              have ek : ((k : Int) == 0) = true := by rw [beq_iff_eq]; omega
              go_wp2_with fail
              refine ⟨⟨cc + 1, by simp, by omega, fun x _ _ _ h => absurd h qk, HJ5.out.1, HJ5.out.2⟩, ?_⟩
              simp [intOf]
              omega
             case pos =>
             have ek : ((k : Int) == 0) = false := by rw [beq_eq_false_iff_ne]; omega
             obtain ⟨nr, hnr⟩ : ∃ q, q = inB ((b : Int) - cc) (-1) 1 := ⟨_, rfl⟩
             have HIN : Hid (∀ W, Calls Try.prog 50 #[vi ((b : Int) - cc), vi (-1), vi 1] W fun e w' => e = .returned (.bool nr) /\ newer W w') := Lib.hid (fun W => by rw [hnr]; exact (in_any ((b : Int) - cc) (-1) 1 W).mono (by rintro e w' ⟨h1, rfl⟩; exact ⟨h1, newer_refl _⟩))
             have HNR : Hid (nr = true ↔ (b <= cc + 1 /\ cc <= b + 1)) := Lib.hid (by rw [hnr]; simp only [inB, Bool.and_eq_true, decide_eq_true_eq]; omega)
             clear hnr
             obtain ⟨k1, hk1e⟩ : ∃ k1, k1 = k - 1 := ⟨_, rfl⟩
             have hk1 : IntKind.i64.wrap ((k : Int) - 1) = k1 := by rw [IntWalk.i64_in _ (by omega)]; omega
             have hk2 : (k1 : Int) < s.cs.length := by omega
             have HK1 := Lib.hid hk1e
             clear hk1e
             obtain ⟨X2, Y2, p3, o3, p4, o4, g1, g2, g3⟩ := HAT.out r k1 hlt (by omega)
             obtain ⟨g4, g6⟩ := g3 cc hltc
             have HA2 := Lib.hid (And.intro g1 (And.intro g2 g4))
             obtain ⟨u2, hu2⟩ : ∃ u, u = tN D r k1 cc := ⟨_, rfl⟩
             rw [<- hu2] at HA2 g6
             have HU2 := Lib.hid hu2
             clear g1 g2 g3 g4 hu2
             go_wp2_with fail
             refine (HIN.out _).mono ?_
             rintro e w8 ⟨rfl, hb⟩
             have HJ6 := Lib.hid (And.intro (newer_trans HJ5.out.1 hb) (HJ5.out.2.below hb HJ5.out.2.lt))
             clear hb HJ5 x0 x1
             have x1 := HJ6.out.2.at 1 (v := vi s.least) rfl
             cases nr with
             | false =>
              go_wp2_with fail
              refine ⟨⟨cc + 1, by simp, by omega, fun x hx h1 h2 h3 => ?_, HJ6.out.1, HJ6.out.2⟩, ?_⟩
              ·by_cases e : x = cc
               ·subst e
                have := HNR.out.2 ⟨h1, h2⟩
                cases this
               ·exact HDN.out x (by omega) h1 h2 h3
              ·simp [intOf]
               omega
             | true =>
              have z1 := HA2.out.1 _ HJ6.out.1
              have z2 := HA2.out.2.1 _ HJ6.out.1
              have z3 := HA2.out.2.2 _ HJ6.out.1
              by_cases t2 : cv + u2 < v
              case pos =>
               have HE : Hid (R = false) := Lib.hid (HFAIL.out (by
                rw [HCE.out]
                intro h
                have h1 := h.2.2.1 HQL.out (by omega) cc hltc (HNR.out.1 rfl).1 (HNR.out.1 rfl).2
                rw [<- HK1.out, <- HU2.out] at h1
                omega))
               go_wp2_with fail
               go_ret
               exact ⟨by rw [HE.out] <;> rfl, HJ6.out.1⟩
              case neg =>
               go_wp2_with fail
               refine ⟨⟨cc + 1, by simp, by omega, fun x hx h1 h2 h3 => ?_, HJ6.out.1, HJ6.out.2⟩, ?_⟩
               ·by_cases e : x = cc
                ·subst e
                 refine ⟨fun h => ?_, fun h => ?_⟩
                 ·have := HQ0.out
                  omega
                 ·rw [<- HK1.out, <- HU2.out]
                  omega
                ·exact HDN.out x (by omega) h1 h2 h3
               ·simp [intOf]
                omega
        case neg =>
         have e1 : ((r : Int) == s.least - 1) = false := by have := HN1.out; rw [beq_eq_false_iff_ne]; omega
         have HB4 : Hid ((r = 0 -> v <= cv) /\ (r = K - 1 -> K - 1 <= k -> 0 <= v)) := Lib.hid ⟨fun h => by omega, fun h1 h2 => absurd h1 ql⟩
         as_aux_lemma =>
          go_wp2_with fail
          go_loopw [16] (fun s16 wr => ∃ cc : Nat, s16 = vi cc /\ cc <= n /\ (∀ x, x < cc -> b <= x + 1 -> x <= b + 1 -> 0 < k -> (0 < r -> v <= cv + tN D (r - 1) (k - 1) x) /\ (r = K - 1 -> v <= cv + tN D r (k - 1) x)) /\ newer w wr /\ Whole wr w.heap.size 24 (smC s)) (fun s16 _ => n - (intOf s16).toNat)
          case atStart => exact ⟨0, rfl, Nat.zero_le _, fun x h => absurd h (Nat.not_lt_zero _), HJ4.out.1, HJ4.out.2⟩
          case round =>
           obtain ⟨cc, rfl, hcc, hdn, q1_, q2_⟩ := hrel
           have HJ5 := Lib.hid (And.intro q1_ q2_)
           have HDN := Lib.hid hdn
           clear q1_ q2_ hdn HJ4 x0 x1
           have x0 := HJ5.out.2.at 0 (v := .slice s.a s.cs.length s.c) rfl
           have x1 := HJ5.out.2.at 1 (v := vi s.least) rfl
           rw [HSA.out] at x0
           by_cases hltc : cc < n
           case neg =>
            obtain rfl : cc = n := by omega
            have hltcI : ¬ ((cc : Int) < cc) := by omega
            have HN_ : Hid (cellT cF_ bigN cc K (tN D) r k b) := Lib.hid (by
             rw [HCE.out]
             refine ⟨HB4.out.1, fun h1 h2 x hx h3 h4 => (HDN.out x hx h3 h4 h2).1 h1, fun h1 h2 x hx h3 h4 => (HDN.out x hx h3 h4 h2).2 h1, HB4.out.2⟩)
            go_wp2_with fail
            refine ⟨⟨b + 1, by simp, by omega, ?_, HJ5.out.1, HJ5.out.2⟩, ?_⟩
            ·intro b' hb'
             by_cases e : b' = b
             ·subst e
              exact HN_.out
             ·exact HD3.out b' (by omega)
            ·simp [intOf]
             omega
           case pos =>
           have hltcI : (cc : Int) < n := by omega
           have hcb : (cc : Int) <= 4 := by have := HTL.out; omega
           by_cases qk : 0 < k
           case neg =>
            have ek : ((k : Int) == 0) = true := by rw [beq_iff_eq]; omega
            go_wp2_with fail
            refine ⟨⟨cc + 1, by simp, by omega, fun x _ _ _ h => absurd h qk, HJ5.out.1, HJ5.out.2⟩, ?_⟩
            simp [intOf]
            omega
           case pos =>
           have ek : ((k : Int) == 0) = false := by rw [beq_eq_false_iff_ne]; omega
           obtain ⟨nr, hnr⟩ : ∃ q, q = inB ((b : Int) - cc) (-1) 1 := ⟨_, rfl⟩
           have HIN : Hid (∀ W, Calls Try.prog 50 #[vi ((b : Int) - cc), vi (-1), vi 1] W fun e w' => e = .returned (.bool nr) /\ newer W w') := Lib.hid (fun W => by rw [hnr]; exact (in_any ((b : Int) - cc) (-1) 1 W).mono (by rintro e w' ⟨h1, rfl⟩; exact ⟨h1, newer_refl _⟩))
           have HNR : Hid (nr = true ↔ (b <= cc + 1 /\ cc <= b + 1)) := Lib.hid (by rw [hnr]; simp only [inB, Bool.and_eq_true, decide_eq_true_eq]; omega)
           clear hnr
           obtain ⟨k1, hk1e⟩ : ∃ k1, k1 = k - 1 := ⟨_, rfl⟩
           have hk1 : IntKind.i64.wrap ((k : Int) - 1) = k1 := by rw [IntWalk.i64_in _ (by omega)]; omega
           have hk2 : (k1 : Int) < s.cs.length := by omega
           have HK1 := Lib.hid hk1e
           clear hk1e
           go_wp2_with fail
           refine (HIN.out _).mono ?_
           rintro e w8 ⟨rfl, hb⟩
           have HJ6 := Lib.hid (And.intro (newer_trans HJ5.out.1 hb) (HJ5.out.2.below hb HJ5.out.2.lt))
           clear hb HJ5 x0 x1
           have x1 := HJ6.out.2.at 1 (v := vi s.least) rfl
           cases nr with
           | false =>
            go_wp2_with fail
            refine ⟨⟨cc + 1, by simp, by omega, fun x hx h1 h2 h3 => ?_, HJ6.out.1, HJ6.out.2⟩, ?_⟩
            ·by_cases e : x = cc
             ·subst e
              have := HNR.out.2 ⟨h1, h2⟩
              cases this
             ·exact HDN.out x (by omega) h1 h2 h3
            ·simp [intOf]
             omega
           | true =>
            go_wp2_with fail
            refine ⟨⟨cc + 1, by simp, by omega, fun x hx h1 h2 h3 => ?_, HJ6.out.1, HJ6.out.2⟩, ?_⟩
            ·by_cases e : x = cc
             ·subst e
              refine ⟨fun h => ?_, fun h => ?_⟩
              ·have := HQ0.out
               omega
              ·have := HN1.out
               omega
             ·exact HDN.out x (by omega) h1 h2 h3
            ·simp [intOf]
             omega
      case neg =>
       have e0 : ((r : Int) == 0) = false := by rw [beq_eq_false_iff_ne]; omega
       have e2I : 0 < (r : Int) := by omega
       by_cases ql : r = K - 1
       case pos =>
        have e1 : ((r : Int) == s.least - 1) = true := by have := HN1.out; rw [beq_iff_eq]; omega
        have HQL := Lib.hid ql
        by_cases qq : K - 1 <= k
        case neg =>
         have qI : ¬ (s.least - 1 <= (k : Int)) := by have := HN1.out; omega
         have HB4 : Hid ((r = 0 -> v <= cv) /\ (r = K - 1 -> K - 1 <= k -> 0 <= v)) := Lib.hid ⟨fun h => by omega, fun h1 h2 => by omega⟩
         clear ql qq
         as_aux_lemma =>
          go_wp2_with fail
          go_loopw [16] (fun s16 wr => ∃ cc : Nat, s16 = vi cc /\ cc <= n /\ (∀ x, x < cc -> b <= x + 1 -> x <= b + 1 -> 0 < k -> (0 < r -> v <= cv + tN D (r - 1) (k - 1) x) /\ (r = K - 1 -> v <= cv + tN D r (k - 1) x)) /\ newer w wr /\ Whole wr w.heap.size 24 (smC s)) (fun s16 _ => n - (intOf s16).toNat)
          case atStart => exact ⟨0, rfl, Nat.zero_le _, fun x h => absurd h (Nat.not_lt_zero _), HJ4.out.1, HJ4.out.2⟩
          case round =>
           obtain ⟨cc, rfl, hcc, hdn, q1_, q2_⟩ := hrel
           have HJ5 := Lib.hid (And.intro q1_ q2_)
           have HDN := Lib.hid hdn
           clear q1_ q2_ hdn HJ4 x0 x1
           have x0 := HJ5.out.2.at 0 (v := .slice s.a s.cs.length s.c) rfl
           have x1 := HJ5.out.2.at 1 (v := vi s.least) rfl
           rw [HSA.out] at x0
           by_cases hltc : cc < n
           case neg =>
            obtain rfl : cc = n := by omega
            have hltcI : ¬ ((cc : Int) < cc) := by omega
            have HN_ : Hid (cellT cF_ bigN cc K (tN D) r k b) := Lib.hid (by
             rw [HCE.out]
             refine ⟨HB4.out.1, fun h1 h2 x hx h3 h4 => (HDN.out x hx h3 h4 h2).1 h1, fun h1 h2 x hx h3 h4 => (HDN.out x hx h3 h4 h2).2 h1, HB4.out.2⟩)
            go_wp2_with fail
            refine ⟨⟨b + 1, by simp, by omega, ?_, HJ5.out.1, HJ5.out.2⟩, ?_⟩
            ·intro b' hb'
             by_cases e : b' = b
             ·subst e
              exact HN_.out
             ·exact HD3.out b' (by omega)
            ·simp [intOf]
             omega
           case pos =>
           have hltcI : (cc : Int) < n := by omega
           have hcb : (cc : Int) <= 4 := by have := HTL.out; omega
           by_cases qk : 0 < k
           case neg =>
            have ek : ((k : Int) == 0) = true := by rw [beq_iff_eq]; omega
            go_wp2_with fail
            refine ⟨⟨cc + 1, by simp, by omega, fun x _ _ _ h => absurd h qk, HJ5.out.1, HJ5.out.2⟩, ?_⟩
            simp [intOf]
            omega
           case pos =>
           have ek : ((k : Int) == 0) = false := by rw [beq_eq_false_iff_ne]; omega
           obtain ⟨nr, hnr⟩ : ∃ q, q = inB ((b : Int) - cc) (-1) 1 := ⟨_, rfl⟩
           have HIN : Hid (∀ W, Calls Try.prog 50 #[vi ((b : Int) - cc), vi (-1), vi 1] W fun e w' => e = .returned (.bool nr) /\ newer W w') := Lib.hid (fun W => by rw [hnr]; exact (in_any ((b : Int) - cc) (-1) 1 W).mono (by rintro e w' ⟨h1, rfl⟩; exact ⟨h1, newer_refl _⟩))
           have HNR : Hid (nr = true ↔ (b <= cc + 1 /\ cc <= b + 1)) := Lib.hid (by rw [hnr]; simp only [inB, Bool.and_eq_true, decide_eq_true_eq]; omega)
           clear hnr
           obtain ⟨k1, hk1e⟩ : ∃ k1, k1 = k - 1 := ⟨_, rfl⟩
           have hk1 : IntKind.i64.wrap ((k : Int) - 1) = k1 := by rw [IntWalk.i64_in _ (by omega)]; omega
           have hk2 : (k1 : Int) < s.cs.length := by omega
           have HK1 := Lib.hid hk1e
           clear hk1e
           obtain ⟨r1, hr1e⟩ : ∃ r1, r1 = r - 1 := ⟨_, rfl⟩
           have hr1 : IntKind.i64.wrap ((r : Int) - 1) = r1 := by rw [IntWalk.i64_in _ (by omega)]; omega
           have hr2 : (r1 : Int) < ts.length := by omega
           have HR1_ := Lib.hid hr1e
           clear hr1e
           obtain ⟨X1, Y1, p1, o1, p2, o2, g1, g2, g3⟩ := HAT.out r1 k1 (by omega) (by omega)
           obtain ⟨g4, g5⟩ := g3 cc hltc
           have HA1 := Lib.hid (And.intro g1 (And.intro g2 g4))
           obtain ⟨u1, hu1⟩ : ∃ u, u = tN D r1 k1 cc := ⟨_, rfl⟩
           rw [<- hu1] at HA1 g5
           have HU1 := Lib.hid hu1
           clear g1 g2 g3 g4 hu1
           obtain ⟨X2, Y2, p3, o3, p4, o4, g1, g2, g3⟩ := HAT.out r k1 hlt (by omega)
           obtain ⟨g4, g6⟩ := g3 cc hltc
           have HA2 := Lib.hid (And.intro g1 (And.intro g2 g4))
           obtain ⟨u2, hu2⟩ : ∃ u, u = tN D r k1 cc := ⟨_, rfl⟩
           rw [<- hu2] at HA2 g6
           have HU2 := Lib.hid hu2
           clear g1 g2 g3 g4 hu2
           go_wp2_with fail
           refine (HIN.out _).mono ?_
           rintro e w8 ⟨rfl, hb⟩
           have HJ6 := Lib.hid (And.intro (newer_trans HJ5.out.1 hb) (HJ5.out.2.below hb HJ5.out.2.lt))
           clear hb HJ5 x0 x1
           have x1 := HJ6.out.2.at 1 (v := vi s.least) rfl
           cases nr with
           | false =>
            go_wp2_with fail
            refine ⟨⟨cc + 1, by simp, by omega, fun x hx h1 h2 h3 => ?_, HJ6.out.1, HJ6.out.2⟩, ?_⟩
            ·by_cases e : x = cc
             ·subst e
              have := HNR.out.2 ⟨h1, h2⟩
              cases this
             ·exact HDN.out x (by omega) h1 h2 h3
            ·simp [intOf]
             omega
           | true =>
            have y1 := HA1.out.1 _ HJ6.out.1
            have y2 := HA1.out.2.1 _ HJ6.out.1
            have y3 := HA1.out.2.2 _ HJ6.out.1
            have z1 := HA2.out.1 _ HJ6.out.1
            have z2 := HA2.out.2.1 _ HJ6.out.1
            have z3 := HA2.out.2.2 _ HJ6.out.1
            by_cases t1 : cv + u1 < v
            case pos =>
             have HE : Hid (R = false) := Lib.hid (HFAIL.out (by
              rw [HCE.out]
              intro h
              have h1 := h.2.1 (by omega) (by omega) cc hltc (HNR.out.1 rfl).1 (HNR.out.1 rfl).2
              rw [<- HR1_.out, <- HK1.out, <- HU1.out] at h1
              omega))
             go_wp2_with fail
             go_ret
             exact ⟨by rw [HE.out] <;> rfl, HJ6.out.1⟩
            case neg =>
             by_cases t2 : cv + u2 < v
             case pos =>
              have HE : Hid (R = false) := Lib.hid (HFAIL.out (by
               rw [HCE.out]
               intro h
               have h1 := h.2.2.1 HQL.out (by omega) cc hltc (HNR.out.1 rfl).1 (HNR.out.1 rfl).2
               rw [<- HK1.out, <- HU2.out] at h1
               omega))
              go_wp2_with fail
              go_ret
              exact ⟨by rw [HE.out] <;> rfl, HJ6.out.1⟩
             case neg =>
              go_wp2_with fail
              refine ⟨⟨cc + 1, by simp, by omega, fun x hx h1 h2 h3 => ?_, HJ6.out.1, HJ6.out.2⟩, ?_⟩
              ·by_cases e : x = cc
               ·subst e
                refine ⟨fun h => ?_, fun h => ?_⟩
                ·rw [<- HR1_.out, <- HK1.out, <- HU1.out]
                 omega
                ·rw [<- HK1.out, <- HU2.out]
                 omega
               ·exact HDN.out x (by omega) h1 h2 h3
              ·simp [intOf]
               omega
        case pos =>
         have qI : s.least - 1 <= (k : Int) := by have := HN1.out; omega
         by_cases q3 : v < 0
         case pos =>
          have HQQ := Lib.hid qq
          clear ql qq
          have HE : Hid (R = false) := Lib.hid (HFAIL.out (by
           rw [HCE.out]
           intro h
           have h1 := h.2.2.2 HQL.out HQQ.out
           omega))
          go_wp2_with fail
          go_ret
          exact ⟨by rw [HE.out] <;> rfl, HJ4.out.1⟩
         case neg =>
          have HB4 : Hid ((r = 0 -> v <= cv) /\ (r = K - 1 -> K - 1 <= k -> 0 <= v)) := Lib.hid ⟨fun h => by omega, fun h1 h2 => by omega⟩
          clear ql qq
          as_aux_lemma =>
           go_wp2_with fail
           go_loopw [16] (fun s16 wr => ∃ cc : Nat, s16 = vi cc /\ cc <= n /\ (∀ x, x < cc -> b <= x + 1 -> x <= b + 1 -> 0 < k -> (0 < r -> v <= cv + tN D (r - 1) (k - 1) x) /\ (r = K - 1 -> v <= cv + tN D r (k - 1) x)) /\ newer w wr /\ Whole wr w.heap.size 24 (smC s)) (fun s16 _ => n - (intOf s16).toNat)
           case atStart => exact ⟨0, rfl, Nat.zero_le _, fun x h => absurd h (Nat.not_lt_zero _), HJ4.out.1, HJ4.out.2⟩
           case round =>
            obtain ⟨cc, rfl, hcc, hdn, q1_, q2_⟩ := hrel
            have HJ5 := Lib.hid (And.intro q1_ q2_)
            have HDN := Lib.hid hdn
            clear q1_ q2_ hdn HJ4 x0 x1
            have x0 := HJ5.out.2.at 0 (v := .slice s.a s.cs.length s.c) rfl
            have x1 := HJ5.out.2.at 1 (v := vi s.least) rfl
            rw [HSA.out] at x0
            by_cases hltc : cc < n
            case neg =>
             obtain rfl : cc = n := by omega
             have hltcI : ¬ ((cc : Int) < cc) := by omega
             have HN_ : Hid (cellT cF_ bigN cc K (tN D) r k b) := Lib.hid (by
              rw [HCE.out]
              refine ⟨HB4.out.1, fun h1 h2 x hx h3 h4 => (HDN.out x hx h3 h4 h2).1 h1, fun h1 h2 x hx h3 h4 => (HDN.out x hx h3 h4 h2).2 h1, HB4.out.2⟩)
             go_wp2_with fail
             refine ⟨⟨b + 1, by simp, by omega, ?_, HJ5.out.1, HJ5.out.2⟩, ?_⟩
             ·intro b' hb'
              by_cases e : b' = b
              ·subst e
               exact HN_.out
              ·exact HD3.out b' (by omega)
             ·simp [intOf]
              omega
            case pos =>
            have hltcI : (cc : Int) < n := by omega
            have hcb : (cc : Int) <= 4 := by have := HTL.out; omega
            by_cases qk : 0 < k
            case neg =>
             have ek : ((k : Int) == 0) = true := by rw [beq_iff_eq]; omega
             go_wp2_with fail
             refine ⟨⟨cc + 1, by simp, by omega, fun x _ _ _ h => absurd h qk, HJ5.out.1, HJ5.out.2⟩, ?_⟩
             simp [intOf]
             omega
            case pos =>
            have ek : ((k : Int) == 0) = false := by rw [beq_eq_false_iff_ne]; omega
            obtain ⟨nr, hnr⟩ : ∃ q, q = inB ((b : Int) - cc) (-1) 1 := ⟨_, rfl⟩
            have HIN : Hid (∀ W, Calls Try.prog 50 #[vi ((b : Int) - cc), vi (-1), vi 1] W fun e w' => e = .returned (.bool nr) /\ newer W w') := Lib.hid (fun W => by rw [hnr]; exact (in_any ((b : Int) - cc) (-1) 1 W).mono (by rintro e w' ⟨h1, rfl⟩; exact ⟨h1, newer_refl _⟩))
            have HNR : Hid (nr = true ↔ (b <= cc + 1 /\ cc <= b + 1)) := Lib.hid (by rw [hnr]; simp only [inB, Bool.and_eq_true, decide_eq_true_eq]; omega)
            clear hnr
            obtain ⟨k1, hk1e⟩ : ∃ k1, k1 = k - 1 := ⟨_, rfl⟩
            have hk1 : IntKind.i64.wrap ((k : Int) - 1) = k1 := by rw [IntWalk.i64_in _ (by omega)]; omega
            have hk2 : (k1 : Int) < s.cs.length := by omega
            have HK1 := Lib.hid hk1e
            clear hk1e
            obtain ⟨r1, hr1e⟩ : ∃ r1, r1 = r - 1 := ⟨_, rfl⟩
            have hr1 : IntKind.i64.wrap ((r : Int) - 1) = r1 := by rw [IntWalk.i64_in _ (by omega)]; omega
            have hr2 : (r1 : Int) < ts.length := by omega
            have HR1_ := Lib.hid hr1e
            clear hr1e
            obtain ⟨X1, Y1, p1, o1, p2, o2, g1, g2, g3⟩ := HAT.out r1 k1 (by omega) (by omega)
            obtain ⟨g4, g5⟩ := g3 cc hltc
            have HA1 := Lib.hid (And.intro g1 (And.intro g2 g4))
            obtain ⟨u1, hu1⟩ : ∃ u, u = tN D r1 k1 cc := ⟨_, rfl⟩
            rw [<- hu1] at HA1 g5
            have HU1 := Lib.hid hu1
            clear g1 g2 g3 g4 hu1
            obtain ⟨X2, Y2, p3, o3, p4, o4, g1, g2, g3⟩ := HAT.out r k1 hlt (by omega)
            obtain ⟨g4, g6⟩ := g3 cc hltc
            have HA2 := Lib.hid (And.intro g1 (And.intro g2 g4))
            obtain ⟨u2, hu2⟩ : ∃ u, u = tN D r k1 cc := ⟨_, rfl⟩
            rw [<- hu2] at HA2 g6
            have HU2 := Lib.hid hu2
            clear g1 g2 g3 g4 hu2
            go_wp2_with fail
            refine (HIN.out _).mono ?_
            rintro e w8 ⟨rfl, hb⟩
            have HJ6 := Lib.hid (And.intro (newer_trans HJ5.out.1 hb) (HJ5.out.2.below hb HJ5.out.2.lt))
            clear hb HJ5 x0 x1
            have x1 := HJ6.out.2.at 1 (v := vi s.least) rfl
            cases nr with
            | false =>
             go_wp2_with fail
             refine ⟨⟨cc + 1, by simp, by omega, fun x hx h1 h2 h3 => ?_, HJ6.out.1, HJ6.out.2⟩, ?_⟩
             ·by_cases e : x = cc
              ·subst e
               have := HNR.out.2 ⟨h1, h2⟩
               cases this
              ·exact HDN.out x (by omega) h1 h2 h3
             ·simp [intOf]
              omega
            | true =>
             have y1 := HA1.out.1 _ HJ6.out.1
             have y2 := HA1.out.2.1 _ HJ6.out.1
             have y3 := HA1.out.2.2 _ HJ6.out.1
             have z1 := HA2.out.1 _ HJ6.out.1
             have z2 := HA2.out.2.1 _ HJ6.out.1
             have z3 := HA2.out.2.2 _ HJ6.out.1
             by_cases t1 : cv + u1 < v
             case pos =>
              have HE : Hid (R = false) := Lib.hid (HFAIL.out (by
               rw [HCE.out]
               intro h
               have h1 := h.2.1 (by omega) (by omega) cc hltc (HNR.out.1 rfl).1 (HNR.out.1 rfl).2
               rw [<- HR1_.out, <- HK1.out, <- HU1.out] at h1
               omega))
              go_wp2_with fail
              go_ret
              exact ⟨by rw [HE.out] <;> rfl, HJ6.out.1⟩
             case neg =>
              by_cases t2 : cv + u2 < v
              case pos =>
               have HE : Hid (R = false) := Lib.hid (HFAIL.out (by
                rw [HCE.out]
                intro h
                have h1 := h.2.2.1 HQL.out (by omega) cc hltc (HNR.out.1 rfl).1 (HNR.out.1 rfl).2
                rw [<- HK1.out, <- HU2.out] at h1
                omega))
               go_wp2_with fail
               go_ret
               exact ⟨by rw [HE.out] <;> rfl, HJ6.out.1⟩
              case neg =>
               go_wp2_with fail
               refine ⟨⟨cc + 1, by simp, by omega, fun x hx h1 h2 h3 => ?_, HJ6.out.1, HJ6.out.2⟩, ?_⟩
               ·by_cases e : x = cc
                ·subst e
                 refine ⟨fun h => ?_, fun h => ?_⟩
                 ·rw [<- HR1_.out, <- HK1.out, <- HU1.out]
                  omega
                 ·rw [<- HK1.out, <- HU2.out]
                  omega
                ·exact HDN.out x (by omega) h1 h2 h3
               ·simp [intOf]
                omega
       case neg =>
        have e1 : ((r : Int) == s.least - 1) = false := by have := HN1.out; rw [beq_eq_false_iff_ne]; omega
        have HB4 : Hid ((r = 0 -> v <= cv) /\ (r = K - 1 -> K - 1 <= k -> 0 <= v)) := Lib.hid ⟨fun h => by omega, fun h1 h2 => absurd h1 ql⟩
        as_aux_lemma =>
         go_wp2_with fail
         go_loopw [16] (fun s16 wr => ∃ cc : Nat, s16 = vi cc /\ cc <= n /\ (∀ x, x < cc -> b <= x + 1 -> x <= b + 1 -> 0 < k -> (0 < r -> v <= cv + tN D (r - 1) (k - 1) x) /\ (r = K - 1 -> v <= cv + tN D r (k - 1) x)) /\ newer w wr /\ Whole wr w.heap.size 24 (smC s)) (fun s16 _ => n - (intOf s16).toNat)
         case atStart => exact ⟨0, rfl, Nat.zero_le _, fun x h => absurd h (Nat.not_lt_zero _), HJ4.out.1, HJ4.out.2⟩
         case round =>
          obtain ⟨cc, rfl, hcc, hdn, q1_, q2_⟩ := hrel
          have HJ5 := Lib.hid (And.intro q1_ q2_)
          have HDN := Lib.hid hdn
          clear q1_ q2_ hdn HJ4 x0 x1
          have x0 := HJ5.out.2.at 0 (v := .slice s.a s.cs.length s.c) rfl
          have x1 := HJ5.out.2.at 1 (v := vi s.least) rfl
          rw [HSA.out] at x0
          by_cases hltc : cc < n
          case neg =>
           obtain rfl : cc = n := by omega
           have hltcI : ¬ ((cc : Int) < cc) := by omega
           have HN_ : Hid (cellT cF_ bigN cc K (tN D) r k b) := Lib.hid (by
            rw [HCE.out]
            refine ⟨HB4.out.1, fun h1 h2 x hx h3 h4 => (HDN.out x hx h3 h4 h2).1 h1, fun h1 h2 x hx h3 h4 => (HDN.out x hx h3 h4 h2).2 h1, HB4.out.2⟩)
           go_wp2_with fail
           refine ⟨⟨b + 1, by simp, by omega, ?_, HJ5.out.1, HJ5.out.2⟩, ?_⟩
           ·intro b' hb'
            by_cases e : b' = b
            ·subst e
             exact HN_.out
            ·exact HD3.out b' (by omega)
           ·simp [intOf]
            omega
          case pos =>
          have hltcI : (cc : Int) < n := by omega
          have hcb : (cc : Int) <= 4 := by have := HTL.out; omega
          by_cases qk : 0 < k
          case neg =>
           have ek : ((k : Int) == 0) = true := by rw [beq_iff_eq]; omega
           go_wp2_with fail
           refine ⟨⟨cc + 1, by simp, by omega, fun x _ _ _ h => absurd h qk, HJ5.out.1, HJ5.out.2⟩, ?_⟩
           simp [intOf]
           omega
          case pos =>
          have ek : ((k : Int) == 0) = false := by rw [beq_eq_false_iff_ne]; omega
          obtain ⟨nr, hnr⟩ : ∃ q, q = inB ((b : Int) - cc) (-1) 1 := ⟨_, rfl⟩
          have HIN : Hid (∀ W, Calls Try.prog 50 #[vi ((b : Int) - cc), vi (-1), vi 1] W fun e w' => e = .returned (.bool nr) /\ newer W w') := Lib.hid (fun W => by rw [hnr]; exact (in_any ((b : Int) - cc) (-1) 1 W).mono (by rintro e w' ⟨h1, rfl⟩; exact ⟨h1, newer_refl _⟩))
          have HNR : Hid (nr = true ↔ (b <= cc + 1 /\ cc <= b + 1)) := Lib.hid (by rw [hnr]; simp only [inB, Bool.and_eq_true, decide_eq_true_eq]; omega)
          clear hnr
          obtain ⟨k1, hk1e⟩ : ∃ k1, k1 = k - 1 := ⟨_, rfl⟩
          have hk1 : IntKind.i64.wrap ((k : Int) - 1) = k1 := by rw [IntWalk.i64_in _ (by omega)]; omega
          have hk2 : (k1 : Int) < s.cs.length := by omega
          have HK1 := Lib.hid hk1e
          clear hk1e
          obtain ⟨r1, hr1e⟩ : ∃ r1, r1 = r - 1 := ⟨_, rfl⟩
          have hr1 : IntKind.i64.wrap ((r : Int) - 1) = r1 := by rw [IntWalk.i64_in _ (by omega)]; omega
          have hr2 : (r1 : Int) < ts.length := by omega
          have HR1_ := Lib.hid hr1e
          clear hr1e
          obtain ⟨X1, Y1, p1, o1, p2, o2, g1, g2, g3⟩ := HAT.out r1 k1 (by omega) (by omega)
          obtain ⟨g4, g5⟩ := g3 cc hltc
          have HA1 := Lib.hid (And.intro g1 (And.intro g2 g4))
          obtain ⟨u1, hu1⟩ : ∃ u, u = tN D r1 k1 cc := ⟨_, rfl⟩
          rw [<- hu1] at HA1 g5
          have HU1 := Lib.hid hu1
          clear g1 g2 g3 g4 hu1
          go_wp2_with fail
          refine (HIN.out _).mono ?_
          rintro e w8 ⟨rfl, hb⟩
          have HJ6 := Lib.hid (And.intro (newer_trans HJ5.out.1 hb) (HJ5.out.2.below hb HJ5.out.2.lt))
          clear hb HJ5 x0 x1
          have x1 := HJ6.out.2.at 1 (v := vi s.least) rfl
          cases nr with
          | false =>
           go_wp2_with fail
           refine ⟨⟨cc + 1, by simp, by omega, fun x hx h1 h2 h3 => ?_, HJ6.out.1, HJ6.out.2⟩, ?_⟩
           ·by_cases e : x = cc
            ·subst e
             have := HNR.out.2 ⟨h1, h2⟩
             cases this
            ·exact HDN.out x (by omega) h1 h2 h3
           ·simp [intOf]
            omega
          | true =>
           have y1 := HA1.out.1 _ HJ6.out.1
           have y2 := HA1.out.2.1 _ HJ6.out.1
           have y3 := HA1.out.2.2 _ HJ6.out.1
           by_cases t1 : cv + u1 < v
           case pos =>
            have HE : Hid (R = false) := Lib.hid (HFAIL.out (by
             rw [HCE.out]
             intro h
             have h1 := h.2.1 (by omega) (by omega) cc hltc (HNR.out.1 rfl).1 (HNR.out.1 rfl).2
             rw [<- HR1_.out, <- HK1.out, <- HU1.out] at h1
             omega))
            go_wp2_with fail
            go_ret
            exact ⟨by rw [HE.out] <;> rfl, HJ6.out.1⟩
           case neg =>
            go_wp2_with fail
            refine ⟨⟨cc + 1, by simp, by omega, fun x hx h1 h2 h3 => ?_, HJ6.out.1, HJ6.out.2⟩, ?_⟩
            ·by_cases e : x = cc
             ·subst e
              refine ⟨fun h => ?_, fun h => ?_⟩
              ·rw [<- HR1_.out, <- HK1.out, <- HU1.out]
               omega
              ·have := HN1.out
               omega
             ·exact HDN.out x (by omega) h1 h2 h3
            ·simp [intOf]
             omega
end

section
open Go.RowKit Go.Shelf Go.Deep
def bearsB (lo f : Int) : Bool := decide (lo < 0) || decide (f <= lo)
set_option maxRecDepth 100000 in
set_option maxHeartbeats 1000000 in
theorem bears_any (s : Sm) (us : List Su) (A : Option Addr) (c : Nat) (all : List (Nat × List Nat)) (f : Int) (w : World) (hok : SmOk s w) (hs : SdOk s.sd) (hr : Row suL 2 w w.heap.size A us) (hsi : ∀ x ∈ us, SuOk x w) (he : us.map suK = all.map suP) (hsb : ∀ u ∈ all, SurfB s.sd.n s.cs.length s.sd.K u.1 u.2) (hlen : us.length <= 28298170368) :
  Calls Try.prog 33 #[smV s, .slice A us.length c, vi f] w fun e w' => e = .returned (.bool (bearsB (lowestK (refLo s.sd) all (-1)) f)) /\ newer w w' := by
 have H0 := Lib.hid (And.intro (newer_allocH w (.cells (smC s) 24)) (Whole.made w 24 (smC s)))
 have x0 := H0.out.2.at 0 (v := .slice s.a s.cs.length s.c) rfl
 have x1 := H0.out.2.at 1 (v := vi s.least) rfl
 have HL := Lib.hid (lowest_any s us A c all (w.alloc (.cells (smC s) 24)) (hok.next H0.out.1) hs ((hr.below H0.out.1).more H0.out.1.size) (fun x hx => (hsi x hx).next H0.out.1) he hsb hlen)
 obtain ⟨lo, hlo⟩ : ∃ lo, lo = lowestK (refLo s.sd) all (-1) := ⟨_, rfl⟩
 rw [<- hlo] at HL ⊢
 obtain ⟨r, hr2⟩ : ∃ r, r = bearsB lo f := ⟨_, rfl⟩
 rw [<- hr2]
 have HV := Lib.hid hr2
 clear hok hs hr hsi he hsb hlo hr2
 go_enter Try.func33, Try.ntmps33
 go_wp2_with fail
 refine (HL.out).mono ?_
 rintro e w2 ⟨rfl, hb⟩
 have H2 := Lib.hid (newer_trans H0.out.1 hb)
 clear x0 x1 hb H0 HL
 by_cases h1 : lo < 0
 ·have HR := Lib.hid (show r = true by rw [HV.out]; unfold bearsB; rw [decide_eq_true h1]; rfl)
  go_wp2_with fail
  go_ret
  exact ⟨by rw [HR.out]; rfl, H2.out⟩
 ·have HR := Lib.hid (show r = (decide (lo < 0) || decide (f <= lo)) from HV.out)
  go_wp2_with fail
  go_ret
  exact ⟨by rw [HR.out]; rfl, H2.out⟩
end

section
open Go.RowKit Go.Shelf Go.Deep
theorem bears_wet {s : Sd} (hs : SdOk s) {f : Int} (f0 : 0 <= f) (f1 : f <= 10000) (m : Nat) : bearsB (lowestK (refLo (wetS s m)) (allR s.n s.cols.length s.K) (-1)) f = true ↔ lowT (wetS s m) f (some false) = none := by
 have h := bears_low (wet_hd hs m) f0 f1
 unfold lowestR at h
 rw [lowest_lo, show hT (some false) (wetS s m) = hAt false (wetS s m) from rfl, wet_drive, lowW_is, <- h]
 unfold bearsB
 rw [Bool.or_eq_true, decide_eq_true_eq, decide_eq_true_eq]
theorem bears_dry {s : Sd} (hs : SdOk s) {f : Int} (f0 : 0 <= f) (f1 : f <= 10000) : bearsB (lowestK (refLo s) (allR s.n s.cols.length s.K) (-1)) f = true ↔ lowT s f (some false) = none := by
 have h := bears_wet hs f0 f1 0
 rw [show ((0 : Nat) : Int) = 0 from rfl, wet_zero hs] at h
 exact h
end

section
open Go.RowKit Go.Shelf Go.Deep
structure AllIn (s : Sm) (us : List Su) (A : Option Addr) (W : World) : Prop where
 row : Row suL 2 W W.heap.size A us
 ok : ∀ x ∈ us, SuOk x W
 eq : us.map suK = (allR s.sd.n s.cs.length s.sd.K).map suP
theorem AllIn.next {s : Sm} {us : List Su} {A : Option Addr} {W W' : World} (h : AllIn s us A W) (hb : newer W W') : AllIn s us A W' := ⟨(h.row.below hb).more hb.size, fun x hx => (h.ok x hx).next hb, h.eq⟩
theorem AllIn.few {s : Sm} {us : List Su} {A : Option Addr} {W : World} (h : AllIn s us A W) (hs : SdOk s.sd) : us.length <= 28298170368 := by
 have hcl : s.cs.length <= 12 := by have h1 := hs.cols; rw [sd_len] at h1; omega
 have h1 := congrArg List.length h.eq
 rw [List.length_map, List.length_map] at h1
 have h2 := allTo_few (K := s.sd.K) (i := s.cs.length) hs.beds.2 hcl hcl
 have h3 : (allR s.sd.n s.cs.length s.sd.K).length = (allTo s.sd.n s.cs.length s.sd.K s.cs.length).length := rfl
 omega
theorem all_in (s : Sm) (w : World) (hok : SmOk s w) (hs : SdOk s.sd) : Calls Try.prog 28 #[smV s] w fun e w' => ∃ us A c, e = .returned (.slice A (us : List Su).length c) /\ AllIn s us A w' /\ newer w w' := by
 refine (all_any s w hok hs).mono ?_
 rintro e w' ⟨⟨us, A, c, rfl, hr, hi, he⟩, hb⟩
 exact ⟨us, A, c, rfl, ⟨hr, hi.ok, he⟩, hb⟩
end

end Go.Proofs.Ytkenokpobbichaa
