/- The closures of Learn: are all levels with a soak right by the readings? -/
import Derived.Test.YteonkhohloabfaaBM
import Derived.Test.YteonkhohloabfaaBN
import Derived.Maps.RangeWalk
namespace Go.Proofs.Yteonkhohloabfaa
open Go.RowKit Go.Shelf

theorem least79 (x lo hi : Int) (w : World) : Calls Try.prog 79 #[vi x, .agg #[vi lo, vi hi]] w fun e w' => e = .returned (.bool (decide (lo ≤ x))) ∧ newer w w' := by
  go_enter Try.func79, Try.ntmps79
  go_wp2_with fail
  go_ret
  exact ⟨rfl, newer_allocH _ _⟩
theorem most81 (x lo hi : Int) (w : World) : Calls Try.prog 81 #[vi x, .agg #[vi lo, vi hi]] w fun e w' => e = .returned (.bool (decide (x ≤ hi))) ∧ newer w w' := by
  go_enter Try.func81, Try.ntmps81
  go_wp2_with fail
  go_ret
  exact ⟨rfl, newer_allocH _ _⟩

theorem call79 (args : Array Value) (W : World) : (callFunc 79 args).run Try.prog W = .ok (.enter 79 args) W := by kernel_rfl
theorem call81 (args : Array Value) (W : World) : (callFunc 81 args).run Try.prog W = .ok (.enter 81 args) W := by kernel_rfl
abbrev Rdm := List ((Int × Int) × (Int × Int))
/-- The level at a spot. -/
def lvAt (s : Way) (soak : Int) (p : Int × Int) : Int := (stQ s soak (p.2.toNat + 1)).f p.1.toNat
/-- All levels are right by the readings. -/
def eachB (s : Way) (M : Rdm) (P : Int → Int → Int → Bool) (soak : Int) : Bool := M.all fun p => P (lvAt s soak p.1) p.2.1 p.2.2
def spotsOk (s : Way) (M : Rdm) : Prop := ∀ p ∈ M, 0 ≤ p.1.1 ∧ p.1.1 < s.l.length ∧ 0 ≤ p.1.2 ∧ p.1.2 < s.days.length
/-- What the closures hold. -/
structure LnE (s : Way) (b rb mb mp : Nat) (f : Nat → Int) (snow left : Int) (M : Rdm) (W : World) : Prop where
  way : OnWay W b s f snow left
  run : Whole W rb 137 #[.func (.func 75) #[.pointer (some ⟨b, 0, none⟩)] #[]]
  box : Whole W mb 138 #[.map (some mp)]
  map : RMap spotK spotK mp M W
theorem LnE.next {s : Way} {b rb mb mp : Nat} {f : Nat → Int} {snow left : Int} {M : Rdm} {W W' : World} (h : LnE s b rb mb mp f snow left M W) (hb : newer W W') : LnE s b rb mb mp f snow left M W' :=
  ⟨h.way.below hb h.way.blk.lt, h.run.below hb h.run.lt, h.box.below hb h.box.lt, h.map.next hb⟩

set_option maxRecDepth 100000 in
set_option maxHeartbeats 2000000 in
theorem each_any (F : FuncId) (P : Int → Int → Int → Bool) (hF : ∀ x lo hi W, Calls Try.prog F #[vi x, .agg #[vi lo, vi hi]] W fun e w' => e = .returned (.bool (P x lo hi)) ∧ newer W w') (hC : ∀ (args : Array Value) (W : World), (callFunc F args).run Try.prog W = .ok (.enter F args) W) (s : Way) (b rb mb mp : Nat) (f : Nat → Int) (snow left : Int) (M : Rdm) (soak : Int) (w : World)
    (h : LnE s b rb mb mp f snow left M w) (ok : WayOk s.l s.melt soak s.days s.rain ⟨iAt s.levels, s.tsnow, 0⟩) (h8 : s.levels.length ≤ 8) (h1 : 1 ≤ s.l.length) (hsp : spotsOk s M) :
    Calls Try.prog 77 #[vi soak, .func (.func F) #[] #[], .pointer (some ⟨rb, 0, none⟩), .pointer (some ⟨mb, 0, none⟩)] w fun e w' => e = .returned (.bool (eachB s M P soak)) ∧ newer w w' := by
  have HF := Lib.hid hF
  have HCF := Lib.hid hC
  have HE := Lib.hid h
  have hl8 := ok.few
  have hm30 := ok.many
  have HRUN := Lib.hid (wayRun_any s soak b f snow left w h.way ok h8 h1)
  have HSP := Lib.hid hsp
  have c0 := h.run.at 0 rfl
  clear hF hC h ok hsp
  go_enter Try.func77, Try.ntmps77
  go_wp2_with fail
  refine (HRUN.out).mono ?_
  rintro e w5 ⟨⟨v, rfl, hv⟩, hb5⟩
  have HE5 := Lib.hid (HE.out.next hb5)
  have HV := Lib.hid hv
  have HB5 := Lib.hid hb5
  have hv' := hv
  obtain ⟨Q, cq, Af, cf, bs, rfl, _, _⟩ := hv'
  have c1 := HE5.out.box.at 0 (v := .map (some mp)) rfl
  clear hv hb5 c0 HE HRUN
  go_wp2_with (at_range; refine wpList_range_r _ rfl _ 138 rfl Try.underlying138 mp M rfl HE5.out.map ?_; intro w6 hn6 hit6)
  go_frame
  have HI6 := Lib.hid hit6
  have HN6 := Lib.hid hn6
  clear c1 hit6 hn6
  go_loopw [8, 9] (fun _ _ wr => ∃ seen : Array Nat, RIter spotK spotK mp M w5.heap.size seen wr ∧ newer w5 wr ∧ ∀ j, seen.contains j = true → ∀ p, M[j]? = some p → P (lvAt s soak p.1) p.2.1 p.2.2 = true) (fun _ _ wr => stepsLeft w5.heap.size M.length wr)
  case atStart => exact ⟨#[], HI6.out, HN6.out, fun j hj => by simp at hj⟩
  case round =>
    obtain ⟨seen, hit, hnw, hok⟩ := hrel
    have HIT := Lib.hid hit
    have HNW := Lib.hid hnw
    have HOK := Lib.hid hok
    clear hit hnw hok HI6 HN6
    go_wp2_with (at_next; refine wpList_next_r _ rfl _ rfl mp w5.heap.size M seen rfl HIT.out ?_ ?_; (intro hall; have HALL := Lib.hid hall; clear hall); rotate_left 1; (intro j p w7 hp hs hit7 hbel hsz hoth hen; obtain ⟨⟨c, d⟩, lo, hi⟩ := p; obtain ⟨hc0, hc1, hd0, hd1⟩ := HSP.out _ (List.mem_of_getElem? hp); dsimp only at hc0 hc1 hd0 hd1; obtain ⟨cn, rfl⟩ : ∃ cn : Nat, c = cn := ⟨c.toNat, by omega⟩; obtain ⟨dn, rfl⟩ : ∃ dn : Nat, d = dn := ⟨d.toNat, by omega⟩; have HP := Lib.hid (And.intro hp hs); have HIT7 := Lib.hid hit7; have HBEL := Lib.hid hbel; have HSZ := Lib.hid hsz; clear hp hs hit7 hbel hsz hoth))
    · have hcn : cn < s.l.length := by omega
      have hdn : dn < s.days.length := by omega
      have hdi : (dn : Int) < s.days.length := by omega
      have hci : (cn : Int) < s.l.length := by omega
      have h57 : newer w5 w7 := HNW.out.trans (HBEL.out _ (Nat.le_refl _))
      have h5v : newer w5 ((w7.alloc (.cells #[vi cn, vi dn] 142)).alloc (.cells #[vi lo, vi hi] 36)) := newer_trans (newer_trans h57 (newer_allocH _ _)) (newer_allocH _ _)
      have HBX : Hid (Whole ((w7.alloc (.cells #[vi cn, vi dn] 142)).alloc (.cells #[vi lo, vi hi] 36)) w7.heap.size 142 #[vi cn, vi dn] ∧ Whole ((w7.alloc (.cells #[vi cn, vi dn] 142)).alloc (.cells #[vi lo, vi hi] 36)) (w7.heap.size + 1) 36 #[vi lo, vi hi] ∧ RIter spotK spotK mp M w5.heap.size (seen.push j) ((w7.alloc (.cells #[vi cn, vi dn] 142)).alloc (.cells #[vi lo, vi hi] 36)) ∧ newer w5 ((w7.alloc (.cells #[vi cn, vi dn] 142)).alloc (.cells #[vi lo, vi hi] 36))) := by
        refine Lib.hid ⟨(Whole.made _ _ _).alloc _, ?_, HIT7.out.next (newer_trans (newer_allocH _ _) (newer_allocH _ _)), h5v⟩
        have h := Whole.made (w7.alloc (.cells #[vi cn, vi dn] 142)) 36 #[vi lo, vi hi]
        simpa using h
      obtain ⟨wv, hwv⟩ : ∃ wv, wv = (w7.alloc (.cells #[vi cn, vi dn] 142)).alloc (.cells #[vi lo, vi hi] 36) := ⟨_, rfl⟩
      obtain ⟨k8, hk8⟩ : ∃ k8, k8 = w7.heap.size := ⟨_, rfl⟩
      rw [← hwv, ← hk8] at HBX ⊢
      clear hwv hk8 h57 h5v
      obtain ⟨q1, Ay, cy, e1, y1, hry⟩ := vT1_at (vT1_st _ _ _ HV.out HBX.out.2.2.2) hdn
      obtain ⟨p1, o1, e2, _, z1⟩ := cells_of_row hry hcn
      subst e1
      subst e2
      obtain ⟨xl, hxl⟩ : ∃ xl, xl = (stQ s soak (dn + 1)).f cn := ⟨_, rfl⟩
      rw [← hxl] at z1
      have HXL : Hid (xl = lvAt s soak (cn, dn)) := Lib.hid (by rw [hxl]; unfold lvAt; simp)
      have m0 := HBX.out.1.at 0 (v := vi cn) rfl
      have m1 := HBX.out.1.at 1 (v := vi dn) rfl
      have n0 := HBX.out.2.1.at 0 (v := vi lo) rfl
      have n1 := HBX.out.2.1.at 1 (v := vi hi) rfl
      clear hxl hry hen
      cases hP : P xl lo hi
      · refine wp_words (by kernel_rfl) (region_told 12 (by kernel_rfl) (by kernel_rfl) (fun W => Below wv.heap.size wv W) newer (pickD [vIs (.func (.func F) #[] #[]), vIs (.slice (some ⟨q1, 0, none⟩) s.days.length cq), vIs (.pointer (some ⟨k8, 1, none⟩)), vIs (vi dn), vIs (.pointer (some ⟨q1, dn, none⟩)), vIs (.slice (some ⟨p1, o1, none⟩) s.l.length cy), vIs (.pointer (some ⟨k8, 0, none⟩)), vIs (vi cn), vIs (.pointer (some ⟨p1, o1 + cn, none⟩)), vIs (vi xl), vIs (.agg #[vi lo, vi hi]), vIs (.bool false)]) (fun h k => newer_trans h k) (pickD_stable _ ⟨vIs_st, vIs_st, vIs_st, vIs_st, vIs_st, vIs_st, vIs_st, vIs_st, vIs_st, vIs_st, vIs_st, vIs_st, trivial⟩) (Below.refl _ wv).drew (Below.refl _ _) ?_ ?_)
        · refine ⟨?_, ?_, ?_, ?_, ?_, ?_, ?_, ?_, ?_, ?_, ?_, ?_, trivial⟩
          · intro a W hG hR hO hp
            have h1 := hO.slot 1 (by kernel_rfl)
            refine wp_yields (v := .func (.func F) #[] #[]) ?_ ⟨_, rfl, rfl, Below.refl _ _, hG⟩
            simp [slotOf] at h1
            simp [execOp, go_sem, h1]
          · intro a W hG hR hO hp
            have h7 := hO.slot 7 (by kernel_rfl)
            refine wp_yields (v := .slice (some ⟨q1, 0, none⟩) s.days.length cq) ?_ ⟨_, rfl, rfl, Below.refl _ _, hG⟩
            simp [slotOf] at h7
            simp [execOp, go_sem, h7]
          · intro a W hG hR hO hp
            have h8 := hO.slot 8 (by kernel_rfl)
            refine wp_yields (v := .pointer (some ⟨k8, 1, none⟩)) ?_ ⟨_, rfl, rfl, Below.refl _ _, hG⟩
            simp [slotOf] at h8
            simp [execOp, go_sem, h8]
          · intro a W hG hR hO hp
            have h22 : slotOf a 22 = .pointer (some ⟨k8, 1, none⟩) := hp.1
            have c0 := keep_cell m1 hG
            refine wp_yields (v := vi dn) ?_ ⟨_, rfl, rfl, Below.refl _ _, hG⟩
            simp [slotOf] at h22
            simp [execOp, go_sem, h22, c0]
          · intro a W hG hR hO hp
            have h21 : slotOf a 21 = .slice (some ⟨q1, 0, none⟩) s.days.length cq := hp.1
            have h23 : slotOf a 23 = vi dn := hp.2.1
            refine wp_yields (v := .pointer (some ⟨q1, dn, none⟩)) ?_ ⟨_, rfl, rfl, Below.refl _ _, hG⟩
            simp [slotOf] at h21 h23
            simp [execOp, go_sem, h21, h23, hdi]
          · intro a W hG hR hO hp
            have h24 : slotOf a 24 = .pointer (some ⟨q1, dn, none⟩) := hp.1
            have c0 := keep_cell y1 hG
            refine wp_yields (v := .slice (some ⟨p1, o1, none⟩) s.l.length cy) ?_ ⟨_, rfl, rfl, Below.refl _ _, hG⟩
            simp [slotOf] at h24
            simp [execOp, go_sem, h24, c0]
          · intro a W hG hR hO hp
            have h8 := hO.slot 8 (by kernel_rfl)
            refine wp_yields (v := .pointer (some ⟨k8, 0, none⟩)) ?_ ⟨_, rfl, rfl, Below.refl _ _, hG⟩
            simp [slotOf] at h8
            simp [execOp, go_sem, h8]
          · intro a W hG hR hO hp
            have h26 : slotOf a 26 = .pointer (some ⟨k8, 0, none⟩) := hp.1
            have c0 := keep_cell m0 hG
            refine wp_yields (v := vi cn) ?_ ⟨_, rfl, rfl, Below.refl _ _, hG⟩
            simp [slotOf] at h26
            simp [execOp, go_sem, h26, c0]
          · intro a W hG hR hO hp
            have h25 : slotOf a 25 = .slice (some ⟨p1, o1, none⟩) s.l.length cy := hp.1
            have h27 : slotOf a 27 = vi cn := hp.2.1
            refine wp_yields (v := .pointer (some ⟨p1, o1 + cn, none⟩)) ?_ ⟨_, rfl, rfl, Below.refl _ _, hG⟩
            simp [slotOf] at h25 h27
            simp [execOp, go_sem, h25, h27, hci]
          · intro a W hG hR hO hp
            have h28 : slotOf a 28 = .pointer (some ⟨p1, o1 + cn, none⟩) := hp.1
            have c0 := keep_cell z1 hG
            refine wp_yields (v := vi xl) ?_ ⟨_, rfl, rfl, Below.refl _ _, hG⟩
            simp [slotOf] at h28
            simp [execOp, go_sem, h28, c0]
          · intro a W hG hR hO hp
            have h9 := hO.slot 9 (by kernel_rfl)
            have c0 := keep_cell n0 hG
            have c1 := keep_cell n1 hG
            refine wp_yields (v := .agg #[vi lo, vi hi]) ?_ ⟨_, rfl, rfl, Below.refl _ _, hG⟩
            simp [slotOf] at h9
            simp [execOp, go_sem, h9, c0, c1]
          · intro a W hG hR hO hp
            have h20 : slotOf a 20 = .func (.func F) #[] #[] := hp.1
            have h29 : slotOf a 29 = vi xl := hp.2.1
            have h30 : slotOf a 30 = .agg #[vi lo, vi hi] := hp.2.2.1
            refine wp_enters (f := F) (args := #[vi xl, .agg #[vi lo, vi hi]]) ?_ ((HF.out xl lo hi W).mono ?_)
            · simp [slotOf] at h20 h29 h30
              simp [execOp, go_sem, h20, h29, h30, HCF.out]
            · rintro e w' ⟨rfl, hb⟩
              exact ⟨_, rfl, _, rfl, (by show Value.bool _ = _; rw [hP]), hb, below_next hG hb⟩
        · intro W hG hR
          rintro _ rfl _ rfl _ rfl _ rfl _ rfl _ rfl _ rfl _ rfl _ rfl _ rfl _ rfl _ rfl
          change wpList _ _ _ _ _ _
          simp only [Act.put, List.setIfInBounds_toArray, List.set_cons_zero, List.set_cons_succ, List.drop_succ_cons, List.drop_zero]
          have HR := Lib.hid (And.intro hP hG)
          clear hG hR hP y1 z1 m0 m1 n0 n1
          go_wp2_with fail
          go_ret
          refine ⟨?_, newer_trans HB5.out (newer_trans HBX.out.2.2.2 HR.out.2)⟩
          have hres : eachB s M P soak = false := by
            unfold eachB
            rw [List.all_eq_false]
            exact ⟨_, List.mem_of_getElem? HP.out.1, by rw [← HXL.out, HR.out.1]; decide⟩
          rw [hres]
          rfl
      · refine wp_words (by kernel_rfl) (region_told 12 (by kernel_rfl) (by kernel_rfl) (fun W => Below wv.heap.size wv W) newer (pickD [vIs (.func (.func F) #[] #[]), vIs (.slice (some ⟨q1, 0, none⟩) s.days.length cq), vIs (.pointer (some ⟨k8, 1, none⟩)), vIs (vi dn), vIs (.pointer (some ⟨q1, dn, none⟩)), vIs (.slice (some ⟨p1, o1, none⟩) s.l.length cy), vIs (.pointer (some ⟨k8, 0, none⟩)), vIs (vi cn), vIs (.pointer (some ⟨p1, o1 + cn, none⟩)), vIs (vi xl), vIs (.agg #[vi lo, vi hi]), vIs (.bool true)]) (fun h k => newer_trans h k) (pickD_stable _ ⟨vIs_st, vIs_st, vIs_st, vIs_st, vIs_st, vIs_st, vIs_st, vIs_st, vIs_st, vIs_st, vIs_st, vIs_st, trivial⟩) (Below.refl _ wv).drew (Below.refl _ _) ?_ ?_)
        · refine ⟨?_, ?_, ?_, ?_, ?_, ?_, ?_, ?_, ?_, ?_, ?_, ?_, trivial⟩
          · intro a W hG hR hO hp
            have h1 := hO.slot 1 (by kernel_rfl)
            refine wp_yields (v := .func (.func F) #[] #[]) ?_ ⟨_, rfl, rfl, Below.refl _ _, hG⟩
            simp [slotOf] at h1
            simp [execOp, go_sem, h1]
          · intro a W hG hR hO hp
            have h7 := hO.slot 7 (by kernel_rfl)
            refine wp_yields (v := .slice (some ⟨q1, 0, none⟩) s.days.length cq) ?_ ⟨_, rfl, rfl, Below.refl _ _, hG⟩
            simp [slotOf] at h7
            simp [execOp, go_sem, h7]
          · intro a W hG hR hO hp
            have h8 := hO.slot 8 (by kernel_rfl)
            refine wp_yields (v := .pointer (some ⟨k8, 1, none⟩)) ?_ ⟨_, rfl, rfl, Below.refl _ _, hG⟩
            simp [slotOf] at h8
            simp [execOp, go_sem, h8]
          · intro a W hG hR hO hp
            have h22 : slotOf a 22 = .pointer (some ⟨k8, 1, none⟩) := hp.1
            have c0 := keep_cell m1 hG
            refine wp_yields (v := vi dn) ?_ ⟨_, rfl, rfl, Below.refl _ _, hG⟩
            simp [slotOf] at h22
            simp [execOp, go_sem, h22, c0]
          · intro a W hG hR hO hp
            have h21 : slotOf a 21 = .slice (some ⟨q1, 0, none⟩) s.days.length cq := hp.1
            have h23 : slotOf a 23 = vi dn := hp.2.1
            refine wp_yields (v := .pointer (some ⟨q1, dn, none⟩)) ?_ ⟨_, rfl, rfl, Below.refl _ _, hG⟩
            simp [slotOf] at h21 h23
            simp [execOp, go_sem, h21, h23, hdi]
          · intro a W hG hR hO hp
            have h24 : slotOf a 24 = .pointer (some ⟨q1, dn, none⟩) := hp.1
            have c0 := keep_cell y1 hG
            refine wp_yields (v := .slice (some ⟨p1, o1, none⟩) s.l.length cy) ?_ ⟨_, rfl, rfl, Below.refl _ _, hG⟩
            simp [slotOf] at h24
            simp [execOp, go_sem, h24, c0]
          · intro a W hG hR hO hp
            have h8 := hO.slot 8 (by kernel_rfl)
            refine wp_yields (v := .pointer (some ⟨k8, 0, none⟩)) ?_ ⟨_, rfl, rfl, Below.refl _ _, hG⟩
            simp [slotOf] at h8
            simp [execOp, go_sem, h8]
          · intro a W hG hR hO hp
            have h26 : slotOf a 26 = .pointer (some ⟨k8, 0, none⟩) := hp.1
            have c0 := keep_cell m0 hG
            refine wp_yields (v := vi cn) ?_ ⟨_, rfl, rfl, Below.refl _ _, hG⟩
            simp [slotOf] at h26
            simp [execOp, go_sem, h26, c0]
          · intro a W hG hR hO hp
            have h25 : slotOf a 25 = .slice (some ⟨p1, o1, none⟩) s.l.length cy := hp.1
            have h27 : slotOf a 27 = vi cn := hp.2.1
            refine wp_yields (v := .pointer (some ⟨p1, o1 + cn, none⟩)) ?_ ⟨_, rfl, rfl, Below.refl _ _, hG⟩
            simp [slotOf] at h25 h27
            simp [execOp, go_sem, h25, h27, hci]
          · intro a W hG hR hO hp
            have h28 : slotOf a 28 = .pointer (some ⟨p1, o1 + cn, none⟩) := hp.1
            have c0 := keep_cell z1 hG
            refine wp_yields (v := vi xl) ?_ ⟨_, rfl, rfl, Below.refl _ _, hG⟩
            simp [slotOf] at h28
            simp [execOp, go_sem, h28, c0]
          · intro a W hG hR hO hp
            have h9 := hO.slot 9 (by kernel_rfl)
            have c0 := keep_cell n0 hG
            have c1 := keep_cell n1 hG
            refine wp_yields (v := .agg #[vi lo, vi hi]) ?_ ⟨_, rfl, rfl, Below.refl _ _, hG⟩
            simp [slotOf] at h9
            simp [execOp, go_sem, h9, c0, c1]
          · intro a W hG hR hO hp
            have h20 : slotOf a 20 = .func (.func F) #[] #[] := hp.1
            have h29 : slotOf a 29 = vi xl := hp.2.1
            have h30 : slotOf a 30 = .agg #[vi lo, vi hi] := hp.2.2.1
            refine wp_enters (f := F) (args := #[vi xl, .agg #[vi lo, vi hi]]) ?_ ((HF.out xl lo hi W).mono ?_)
            · simp [slotOf] at h20 h29 h30
              simp [execOp, go_sem, h20, h29, h30, HCF.out]
            · rintro e w' ⟨rfl, hb⟩
              exact ⟨_, rfl, _, rfl, (by show Value.bool _ = _; rw [hP]), hb, below_next hG hb⟩
        · intro W hG hR
          rintro _ rfl _ rfl _ rfl _ rfl _ rfl _ rfl _ rfl _ rfl _ rfl _ rfl _ rfl _ rfl
          change wpList _ _ _ _ _ _
          simp only [Act.put, List.setIfInBounds_toArray, List.set_cons_zero, List.set_cons_succ, List.drop_succ_cons, List.drop_zero]
          have HR := Lib.hid (And.intro hP hG)
          clear hG hR hP y1 z1 m0 m1 n0 n1
          go_wp2_with fail
          refine ⟨⟨seen.push j, HBX.out.2.2.1.next HR.out.2, newer_trans HBX.out.2.2.2 HR.out.2, fun i hi p hp => ?_⟩, ?_⟩
          · by_cases e : i = j
            · subst e
              rw [HP.out.1] at hp
              cases hp
              rw [← HXL.out]
              exact HR.out.1
            · refine HOK.out i ?_ p hp
              simpa [Array.contains_push, e] using hi
          · rw [(HBX.out.2.2.1.next HR.out.2).left, HIT.out.left]
            have := unseen_push (List.getElem?_eq_some_iff.1 HP.out.1).1 HP.out.2
            omega
    · have hres : eachB s M P soak = true := by
        unfold eachB
        rw [List.all_eq_true]
        intro p hp
        obtain ⟨j, hj⟩ := List.mem_iff_getElem?.1 hp
        exact HOK.out j (HALL.out j (List.getElem?_eq_some_iff.1 hj).1) p hj
      have HRES := Lib.hid hres
      clear hres
      go_ret
      exact ⟨by rw [HRES.out]; rfl, newer_trans HB5.out HNW.out⟩
end Go.Proofs.Yteonkhohloabfaa
