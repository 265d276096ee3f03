/- SlopeFactors returns true: whether a slope is valid, and the factor of a surface in a truth, are as the document says. -/
import Derived.Test.YtkenokpobbichaaBI
import Derived.Test.YtkenokpobbichaaAJ
import Derived.Test.YtkenokpobbichaaY
import Derived.Test.YtkenokpobbichaaBF
namespace Go.Proofs.Ytkenokpobbichaa
open Go.ChangeShapes Go.WideShapes Go.ChangeAt Go.RowKit Go.Deep

section
variable {H : Type} {enc : TypeId × Value → H} {w : World} {base : Nat} {spare : Nat → Bool} {held : Bool} {fuel : Nat} {cs : List Value} {x : DataW H × List MemPlace}
theorem Try.cells125 : Try.prog.cellsOf 125 = 3 := by kernel_rfl
theorem rl_cells (h : DataW.trod enc Try.prog w base spare held fuel 125 cs = some x) : ∃ y : Rl, cs = rlL y ∧ True := by
  obtain ⟨xs, m, _, _, hlen, hxl, hg⟩ := DataW.trod_struct Try.underlying125 h
  rw [Try.cells125] at hlen
  obtain ⟨c0, c1, c2, rfl⟩ := len3 hlen
  obtain ⟨y0, y1, y2, rfl⟩ := len3 (show xs.length = 3 from hxl)
  have h0 := hg 0 _ rfl
  have h1 := hg 1 _ rfl
  have h2 := hg 2 _ rfl
  simp [Try.cells3] at h0 h1 h2
  obtain ⟨a, ha, _⟩ := DataW.trod_int Try.underlying3 h0
  obtain ⟨b, hb, _⟩ := DataW.trod_int Try.underlying3 h1
  obtain ⟨c, hc, _⟩ := DataW.trod_int Try.underlying3 h2
  injection ha with ha
  injection hb with hb
  injection hc with hc
  exact ⟨⟨a, b, c⟩, by rw [ha, hb, hc], trivial⟩
theorem reals_open (h : DataW.trod enc Try.prog w base spare held fuel 80 cs = some x) : ∃ (D : Option Addr) (l : List Rl) (dp : Nat), cs = [.slice D l.length dp] ∧ l.length ≤ maxLen ∧ Row rlL 3 w w.heap.size D l := by
  obtain ⟨A, l, cp, e, hl, hr, _⟩ := open_rowP (ec := rlL) Try.underlying80 Try.cells125 (fun _ => rfl) (by omega) rl_cells h
  exact ⟨A, l, cp, e, hl, hr⟩
end
section
open Go.RowKit Go.Shelf Go.Deep
theorem fac_cases (s : Sd) (frm : Int) (l : List Int) (tl : List Rl) :
    (¬ checkUN s frm l = 0 ∧ facO s frm l tl = (0, checkUN s frm l)) ∨ (checkUN s frm l = 0 ∧ fitsA (bedsU s frm l) tl = false ∧ facO s frm l tl = (0, 9)) ∨ (checkUN s frm l = 0 ∧ fitsA (bedsU s frm l) tl = true ∧ facO s frm l tl = (0, 7) ∧ refF (hK (bedsU s frm l) (fun i => tl.getD i ⟨0, 0, 0⟩) (bedsU s frm l).length) (dK (bedsU s frm l) (bedsU s frm l).length) = -1) ∨
    (checkUN s frm l = 0 ∧ fitsA (bedsU s frm l) tl = true ∧ facO s frm l tl = (refF (hK (bedsU s frm l) (fun i => tl.getD i ⟨0, 0, 0⟩) (bedsU s frm l).length) (dK (bedsU s frm l) (bedsU s frm l).length), 0) ∧ ¬ dK (bedsU s frm l) (bedsU s frm l).length < 1) := by
  unfold facO refF
  by_cases h1 : checkUN s frm l = 0
  · cases h2 : fitsA (bedsU s frm l) tl with
    | false => simp [h1]
    | true =>
      by_cases h3 : dK (bedsU s frm l) (bedsU s frm l).length < 1
      · simp [h1, h3]
      · simp [h1, h3]
  · simp [h1]
theorem fac_ge {bs : List Bd} {tl : List Rl} (hb : ∀ b ∈ bs, bdB b = true) (hf : fitsA bs tl = true) (hd : ¬ dK bs bs.length < 1) : 0 ≤ refF (hK bs (fun i => tl.getD i ⟨0, 0, 0⟩) bs.length) (dK bs bs.length) := by
  unfold refF
  rw [if_neg hd]
  have h1 := hK_bd (l := bs) (tr := fun i => tl.getD i ⟨0, 0, 0⟩) bs.length (Nat.le_refl _) hb (fun i hi2 => by
    obtain ⟨b, hb2⟩ := get_of_lt hi2
    have h2 := (fitsA_iff.1 hf).2 i hi2
    have hge : bs.getD i zeroBd = b := by simp [List.getD, hb2]
    rw [hge] at h2
    exact fit_rlB (hb b (List.mem_of_getElem? hb2)) h2)
  exact (factor_bd h1.1 (by omega)).1
/-- A truth in memory. -/
def vTru (tl : List Rl) (v : Value) (W : World) : Prop := ∃ A c, v = .slice A tl.length c ∧ Row rlL 3 W W.heap.size A tl
theorem vTru_st {tl : List Rl} : ∀ v W W', vTru tl v W → newer W W' → vTru tl v W' := fun _ _ _ ⟨A, c, h1, h2⟩ hb => ⟨A, c, h1, (h2.below hb).more hb.size⟩
set_option maxRecDepth 100000 in
set_option maxHeartbeats 4000000 in
theorem slopeFactors_walk (s : Sm) (u : Su) (tl : List Rl) (A : Option Addr) (c : Nat) (w : World) (hok : SmOk s w) (hu : SuOk u w) (htr : Row rlL 3 w w.heap.size A tl) : Calls Try.prog 12 #[smV s, suV u, .slice A tl.length c] w fun e w' => e = .returned (.bool true) ∧ newer w w' := by
  have hnw : newer w ((w.alloc (.cells (smC s) 24)).alloc (.cells (suC u) 27)) := newer_trans (newer_allocH _ _) (newer_allocH _ _)
  have hxb := (Whole.made w 24 (smC s)).alloc (.cells (suC u) 27)
  have hub := Whole.made (w.alloc (.cells (smC s) 24)) 27 (suC u)
  rw [World.size_alloc] at hub
  have H1 := Lib.hid (And.intro (hnw) (And.intro (hxb) (hub)))
  have HTH := Lib.hid (lawThin s _ (hok.next hnw))
  have HOK := Lib.hid (And.intro hok (And.intro hu htr))
  clear hok hu htr hnw hxb hub
  have x0 := H1.out.2.1.at 0 (v := .slice s.a s.cs.length s.c) rfl
  have x1 := H1.out.2.1.at 1 (v := vi s.least) rfl
  have u0 := H1.out.2.2.at 0 (v := vi u.frm) rfl
  have u1 := H1.out.2.2.at 1 (v := .slice u.a u.beds.length u.c) rfl
  cases ht : thinS s.sd with
  | false =>
    rw [ht] at HTH
    clear ht
    go_enter Try.func12, Try.ntmps12
    go_wp2_with fail
    refine (HTH.out).mono ?_
    rintro e w2 ⟨rfl, hb⟩
    have H3 := Lib.hid (And.intro ((newer_trans H1.out.1 hb)) (And.intro ((H1.out.2.1.below hb H1.out.2.1.lt)) ((H1.out.2.2.below hb H1.out.2.2.lt))))
    clear hb HTH H1 x0 x1 u0 u1
    go_wp2_with fail
    refine (wakes_any _).mono ?_
    rintro e w4 ⟨rfl, hb⟩
    have H5 := Lib.hid (And.intro ((newer_trans H3.out.1 hb)) (And.intro ((H3.out.2.1.below hb H3.out.2.1.lt)) ((H3.out.2.2.below hb H3.out.2.2.lt))))
    clear hb H3
    go_wp2_with fail
    go_ret
    exact ⟨rfl, H5.out.1⟩
  | true =>
  by_cases h20 : 20 < u.beds.length
  · rw [ht] at HTH
    clear ht
    have h20i : (20 : Int) < u.beds.length := by omega
    go_enter Try.func12, Try.ntmps12
    go_wp2_with fail
    refine (HTH.out).mono ?_
    rintro e w6 ⟨rfl, hb⟩
    have H7 := Lib.hid (And.intro ((newer_trans H1.out.1 hb)) (And.intro ((H1.out.2.1.below hb H1.out.2.1.lt)) ((H1.out.2.2.below hb H1.out.2.2.lt))))
    clear hb HTH H1 x0 x1 u0 u1
    have u0 := H7.out.2.2.at 0 (v := vi u.frm) rfl
    have u1 := H7.out.2.2.at 1 (v := .slice u.a u.beds.length u.c) rfl
    go_wp2_with fail
    refine (wakes_any _).mono ?_
    rintro e w8 ⟨rfl, hb⟩
    have H9 := Lib.hid (And.intro ((newer_trans H7.out.1 hb)) (And.intro ((H7.out.2.1.below hb H7.out.2.1.lt)) ((H7.out.2.2.below hb H7.out.2.2.lt))))
    clear hb H7 u0 u1
    go_wp2_with fail
    go_ret
    exact ⟨rfl, H9.out.1⟩
  by_cases h21 : 20 < tl.length
  · rw [ht] at HTH
    clear ht
    have h20i : ¬ (20 : Int) < u.beds.length := by omega
    have h21i : (20 : Int) < tl.length := by omega
    go_enter Try.func12, Try.ntmps12
    go_wp2_with fail
    refine (HTH.out).mono ?_
    rintro e w10 ⟨rfl, hb⟩
    have H11 := Lib.hid (And.intro ((newer_trans H1.out.1 hb)) (And.intro ((H1.out.2.1.below hb H1.out.2.1.lt)) ((H1.out.2.2.below hb H1.out.2.2.lt))))
    clear hb HTH H1 x0 x1 u0 u1
    have u0 := H11.out.2.2.at 0 (v := vi u.frm) rfl
    have u1 := H11.out.2.2.at 1 (v := .slice u.a u.beds.length u.c) rfl
    go_wp2_with fail
    refine (wakes_any _).mono ?_
    rintro e w12 ⟨rfl, hb⟩
    have H13 := Lib.hid (And.intro ((newer_trans H11.out.1 hb)) (And.intro ((H11.out.2.1.below hb H11.out.2.1.lt)) ((H11.out.2.2.below hb H11.out.2.2.lt))))
    clear hb H11 u0 u1
    go_wp2_with fail
    go_ret
    exact ⟨rfl, H13.out.1⟩
  obtain ⟨few, hc15, hb8⟩ := thinS_few ht
  rw [ht] at HTH
  have HFW := Lib.hid few
  have h20i : ¬ (20 : Int) < u.beds.length := by omega
  have h21i : ¬ (20 : Int) < tl.length := by omega
  have HUL : Hid (u.beds.length ≤ 1000 ∧ tl.length ≤ 1000) := Lib.hid (by omega)
  clear ht h20 h21 hc15 hb8
  have HRI : Hid (∀ W, newer w W → Calls Try.prog 26 #[smV s] W fun e w' => e = .returned (.bool (slopeB s.sd)) ∧ newer W w') := Lib.hid (fun W hW => right_any s W (HOK.out.1.next hW) few)
  have HCK : Hid (∀ (s2 : Sm) W, s2.sd = s.sd → SmOk s2 W → Calls Try.prog 46 #[smV s2] W fun e w' => e = .returned (vi (if slopeB s.sd then 0 else 1)) ∧ newer W w') := Lib.hid (fun s2 W h1 h2 => by
    have h3 := check_any s2 W h2 (few_sd h1 few)
    rw [h1] at h3
    exact h3)
  have HFT : Hid (∀ W, newer w W → Calls Try.prog 21 #[smV s, suV u] W fun e w' => e = .returned (vi (checkUN s.sd u.frm u.beds)) ∧ newer W w') := Lib.hid (fun W hW => fault_any s u W (HOK.out.1.next hW) few (HOK.out.2.1.next hW) HUL.out.1)
  obtain ⟨p, hp⟩ : ∃ p, p = (facO s.sd u.frm u.beds tl).1 := ⟨_, rfl⟩
  obtain ⟨q, hq⟩ : ∃ q, q = (facO s.sd u.frm u.beds tl).2 := ⟨_, rfl⟩
  have HFP : Hid (∀ (s2 : Sm) (u2 : Su) (B : Option Addr) (d : Nat) W, s2.sd = s.sd → SmOk s2 W → u2.frm = u.frm → u2.beds = u.beds → SuOk u2 W → Row rlL 3 W W.heap.size B tl → Calls Try.prog 42 #[smV s2, suV u2, .slice B tl.length d] W fun e w' => e = .returned (.tuple #[vi p, vi q]) ∧ newer W w') := Lib.hid (fun s2 u2 B d W h1 h2 h3 h4 h5 h6 => by
    have h7 := factorP_any s2 u2 tl B d W h2 (few_sd h1 few) h5 (by rw [h4]; exact HUL.out.1) HUL.out.2 h6
    rw [h1, h3, h4, ← hp, ← hq] at h7
    exact h7)
  have hcase := fac_cases s.sd u.frm u.beds tl
  have HZ : Hid (checkUN s.sd u.frm u.beds = 0 → SdOk s.sd ∧ surfB s.sd u.frm u.beds = true) := Lib.hid checkU_zero
  have hck : slopeB s.sd = false → checkUN s.sd u.frm u.beds = 1 := fun h => by unfold checkUN; rw [h]; rfl
  obtain ⟨ck, hckk⟩ : ∃ ck, ck = checkUN s.sd u.frm u.beds := ⟨_, rfl⟩
  rw [← hckk] at HFT hcase HZ hck
  clear hckk few
  cases hv : slopeB s.sd with
  | false =>
    rw [hv] at HRI HCK
    rw [if_neg (by decide)] at HCK
    obtain rfl := hck hv
    rcases hcase with ⟨_, he⟩ | ⟨h1, _⟩ | ⟨h1, _⟩ | ⟨h1, _⟩
    · rw [he] at hp hq
      dsimp only at hp hq
      clear he hv HZ
      go_enter Try.func12, Try.ntmps12
      go_wp2_with fail
      refine (HTH.out).mono ?_
      rintro e w14 ⟨rfl, hb⟩
      have H15 := Lib.hid (And.intro ((newer_trans H1.out.1 hb)) (And.intro ((H1.out.2.1.below hb H1.out.2.1.lt)) ((H1.out.2.2.below hb H1.out.2.2.lt))))
      clear hb HTH H1 x0 x1 u0 u1
      have x0 := H15.out.2.1.at 0 (v := .slice s.a s.cs.length s.c) rfl
      have x1 := H15.out.2.1.at 1 (v := vi s.least) rfl
      have u0 := H15.out.2.2.at 0 (v := vi u.frm) rfl
      have u1 := H15.out.2.2.at 1 (v := .slice u.a u.beds.length u.c) rfl
      go_wp2_with fail
      refine (lawSlope s _ (HOK.out.1.next H15.out.1) HFW.out).mono ?_
      rintro e w16 ⟨s2, rfl, hd, hs2, hb⟩
      have HKK := Lib.hid (HCK.out s2 _ hd hs2)
      have H17 := Lib.hid (And.intro ((newer_trans H15.out.1 hb)) (And.intro ((H15.out.2.1.below hb H15.out.2.1.lt)) ((H15.out.2.2.below hb H15.out.2.2.lt))))
      clear hb hd hs2 HCK H15 x0 x1 u0 u1
      go_wp2_with fail
      refine (HKK.out).mono ?_
      rintro e w18 ⟨rfl, hb⟩
      have H19 := Lib.hid (And.intro ((newer_trans H17.out.1 hb)) (And.intro ((H17.out.2.1.below hb H17.out.2.1.lt)) ((H17.out.2.2.below hb H17.out.2.2.lt))))
      clear hb HKK H17
      have x0 := H19.out.2.1.at 0 (v := .slice s.a s.cs.length s.c) rfl
      have x1 := H19.out.2.1.at 1 (v := vi s.least) rfl
      have u0 := H19.out.2.2.at 0 (v := vi u.frm) rfl
      have u1 := H19.out.2.2.at 1 (v := .slice u.a u.beds.length u.c) rfl
      go_upto_region 4 with fail
      refine wp_words (by kernel_rfl) (region_told 11 (by kernel_rfl) (by kernel_rfl) (fun W => Below w18.heap.size w18 W) newer (pickD [vIs (smV s), vSlo s.sd, vIs (suV u), vSuf u.frm u.beds, vIs (.slice A tl.length c), vTru tl, vIs (.tuple #[vi p, vi q]), vIs (.tuple #[vi p, vi q]), vIs (vi p), vIs (vi q), vIs (vi p)]) (fun h k => newer_trans h k) (pickD_stable _ ⟨vIs_st, vSlo_st, vIs_st, vSuf_st, vIs_st, vTru_st, vIs_st, vIs_st, vIs_st, vIs_st, vIs_st, trivial⟩) (Below.refl _ w18).drew (Below.refl _ _) ?_ ?_)
      · refine ⟨?_, ?_, ?_, ?_, ?_, ?_, ?_, ?_, ?_, ?_, ?_, trivial⟩
        · intro a W hG hR hO hp
          have h3 := hO.slot 3 (by kernel_rfl)
          have c0 := keep_cell x0 hG
          have c1 := keep_cell x1 hG
          refine wp_yields (v := smV s) ?_ ⟨_, rfl, rfl, Below.refl _ _, hG⟩
          simp [slotOf] at h3
          simp [execOp, go_sem, h3, c0, c1]
        · intro a W hG hR hO hp
          have h31 : slotOf a 31 = smV s := hp.1
          refine wp_enters (f := 19) (args := #[smV s]) ?_ ((lawSlope s W (HOK.out.1.next (newer_trans H19.out.1 hG)) HFW.out).mono ?_)
          · simp [slotOf] at h31
            simp [go_sem, h31]
          · rintro e w' ⟨s2, rfl, h1, h2, hb⟩
            exact ⟨_, rfl, _, rfl, ⟨s2, rfl, h1, h2⟩, hb, below_next hG hb⟩
        · intro a W hG hR hO hp
          have h4 := hO.slot 4 (by kernel_rfl)
          have c0 := keep_cell u0 hG
          have c1 := keep_cell u1 hG
          refine wp_yields (v := suV u) ?_ ⟨_, rfl, rfl, Below.refl _ _, hG⟩
          simp [slotOf] at h4
          simp [execOp, go_sem, h4, c0, c1]
        · intro a W hG hR hO hp
          have h33 : slotOf a 33 = suV u := hp.1
          refine wp_enters (f := 20) (args := #[suV u]) ?_ ((lawSurface u W (HOK.out.2.1.next (newer_trans H19.out.1 hG)) HUL.out.1).mono ?_)
          · simp [slotOf] at h33
            simp [go_sem, h33]
          · rintro e w' ⟨u2, rfl, h1, h2, h3, hb⟩
            exact ⟨_, rfl, _, rfl, ⟨u2, rfl, h1, h2, h3⟩, hb, below_next hG hb⟩
        · intro a W hG hR hO hp
          have h2 := hO.slot 2 (by kernel_rfl)
          refine wp_yields (v := .slice A tl.length c) ?_ ⟨_, rfl, rfl, Below.refl _ _, hG⟩
          simp [slotOf] at h2
          simp [execOp, go_sem, h2]
        · intro a W hG hR hO hp
          have h35 : slotOf a 35 = .slice A tl.length c := hp.1
          refine wp_enters (f := 43) (args := #[.slice A tl.length c]) ?_ ((lawTruth tl A c W HUL.out.2 ((HOK.out.2.2.below (newer_trans H19.out.1 hG)).more (newer_trans H19.out.1 hG).size)).mono ?_)
          · simp [slotOf] at h35
            simp [go_sem, h35]
          · rintro e w' ⟨B, d, rfl, h1, hb⟩
            exact ⟨_, rfl, _, rfl, ⟨B, d, rfl, h1⟩, hb, below_next hG hb⟩
        · intro a W hG hR hO hp
          have h32 := hp.1
          have h34 := hp.2.1
          have h36 := hp.2.2.1
          obtain ⟨s2, h32, hd2, hs2⟩ := h32
          obtain ⟨u2, h34, hf2, hl2, hu2⟩ := h34
          obtain ⟨B, d, h36, hr2⟩ := h36
          have hfp := HFP.out s2 u2 B d W hd2 hs2 hf2 hl2 hu2 hr2
          refine wp_enters (f := 42) (args := #[smV s2, suV u2, .slice B tl.length d]) ?_ (hfp.mono ?_)
          · simp [slotOf] at h32 h34 h36
            simp [go_sem, h32, h34, h36]
          · rintro e w' ⟨rfl, hb⟩
            exact ⟨_, rfl, _, rfl, rfl, hb, below_next hG hb⟩
        · intro a W hG hR hO hp
          have h37 : slotOf a 37 = .tuple #[vi p, vi q] := hp.1
          refine wp_yields (v := .tuple #[vi p, vi q]) ?_ ⟨_, rfl, rfl, Below.refl _ _, hG⟩
          simp [slotOf] at h37
          simp [execOp, go_sem, h37]
        · intro a W hG hR hO hp
          have h30 : slotOf a 30 = .tuple #[vi p, vi q] := hp.1
          refine wp_yields (v := vi p) ?_ ⟨_, rfl, rfl, Below.refl _ _, hG⟩
          simp [slotOf] at h30
          simp [execOp, go_sem, h30]
        · intro a W hG hR hO hp
          have h30 : slotOf a 30 = .tuple #[vi p, vi q] := hp.1
          refine wp_yields (v := vi q) ?_ ⟨_, rfl, rfl, Below.refl _ _, hG⟩
          simp [slotOf] at h30
          simp [execOp, go_sem, h30]
        · intro a W hG hR hO hp
          have h38 : slotOf a 38 = vi p := hp.1
          refine wp_yields (v := vi p) ?_ ⟨_, rfl, rfl, Below.refl _ _, hG⟩
          simp [slotOf] at h38
          simp [execOp, go_sem, h38]
      · intro wz20 hG hR
        rintro _ rfl _ - _ rfl _ - _ rfl _ - _ rfl _ rfl _ rfl _ rfl _ rfl
        change wpList _ _ _ _ _ _
        simp only [Act.put, List.setIfInBounds_toArray, List.set_cons_zero, List.set_cons_succ, List.drop_succ_cons, List.drop_zero]
        have H21 := Lib.hid (And.intro ((newer_trans H19.out.1 hG)) (And.intro ((H19.out.2.1.below hG H19.out.2.1.lt)) ((H19.out.2.2.below hG H19.out.2.2.lt))))
        clear hG hR HFP H19 x0 x1 u0 u1
        have x0 := H21.out.2.1.at 0 (v := .slice s.a s.cs.length s.c) rfl
        have x1 := H21.out.2.1.at 1 (v := vi s.least) rfl
        go_wp2_with fail
        refine (HRI.out _ H21.out.1).mono ?_
        rintro e w22 ⟨rfl, hb⟩
        have H23 := Lib.hid (And.intro ((newer_trans H21.out.1 hb)) (And.intro ((H21.out.2.1.below hb H21.out.2.1.lt)) ((H21.out.2.2.below hb H21.out.2.2.lt))))
        clear hb HRI H21 x0 x1
        have x0 := H23.out.2.1.at 0 (v := .slice s.a s.cs.length s.c) rfl
        have x1 := H23.out.2.1.at 1 (v := vi s.least) rfl
        have u0 := H23.out.2.2.at 0 (v := vi u.frm) rfl
        have u1 := H23.out.2.2.at 1 (v := .slice u.a u.beds.length u.c) rfl
        go_wp2_with fail
        refine (HFT.out _ H23.out.1).mono ?_
        rintro e w24 ⟨rfl, hb⟩
        have H25 := Lib.hid (And.intro ((newer_trans H23.out.1 hb)) (And.intro ((H23.out.2.1.below hb H23.out.2.1.lt)) ((H23.out.2.2.below hb H23.out.2.2.lt))))
        clear hb HFT H23 x0 x1 u0 u1
        go_wp2_with fail
        refine (wakes_any _).mono ?_
        rintro e w26 ⟨rfl, hb⟩
        have H27 := Lib.hid (And.intro ((newer_trans H25.out.1 hb)) (And.intro ((H25.out.2.1.below hb H25.out.2.1.lt)) ((H25.out.2.2.below hb H25.out.2.2.lt))))
        clear hb H25
        go_wp2_with fail
        go_ret
        exact ⟨rfl, H27.out.1⟩
    · exact absurd h1 (by decide)
    · exact absurd h1 (by decide)
    · exact absurd h1 (by decide)
  | true =>
    rw [hv] at HRI HCK
    rw [if_pos rfl] at HCK
    clear hck hv
    rcases hcase with ⟨h1, he⟩ | ⟨rfl, hft, he⟩ | ⟨rfl, hft, he, hrf⟩ | ⟨rfl, hft, he, hrd⟩
    · rw [he] at hp hq
      dsimp only at hp hq
      have hz2 : (ck == 0) = false := by rw [beq_eq_false_iff_ne]; exact h1
      have hz3 : (ck != 0) = true := by simp [h1]
      clear he HZ h1
      go_enter Try.func12, Try.ntmps12
      go_wp2_with fail
      refine (HTH.out).mono ?_
      rintro e w28 ⟨rfl, hb⟩
      have H29 := Lib.hid (And.intro ((newer_trans H1.out.1 hb)) (And.intro ((H1.out.2.1.below hb H1.out.2.1.lt)) ((H1.out.2.2.below hb H1.out.2.2.lt))))
      clear hb HTH H1 x0 x1 u0 u1
      have x0 := H29.out.2.1.at 0 (v := .slice s.a s.cs.length s.c) rfl
      have x1 := H29.out.2.1.at 1 (v := vi s.least) rfl
      have u0 := H29.out.2.2.at 0 (v := vi u.frm) rfl
      have u1 := H29.out.2.2.at 1 (v := .slice u.a u.beds.length u.c) rfl
      go_wp2_with fail
      refine (lawSlope s _ (HOK.out.1.next H29.out.1) HFW.out).mono ?_
      rintro e w30 ⟨s2, rfl, hd, hs2, hb⟩
      have HKK := Lib.hid (HCK.out s2 _ hd hs2)
      have H31 := Lib.hid (And.intro ((newer_trans H29.out.1 hb)) (And.intro ((H29.out.2.1.below hb H29.out.2.1.lt)) ((H29.out.2.2.below hb H29.out.2.2.lt))))
      clear hb hd hs2 HCK H29 x0 x1 u0 u1
      go_wp2_with fail
      refine (HKK.out).mono ?_
      rintro e w32 ⟨rfl, hb⟩
      have H33 := Lib.hid (And.intro ((newer_trans H31.out.1 hb)) (And.intro ((H31.out.2.1.below hb H31.out.2.1.lt)) ((H31.out.2.2.below hb H31.out.2.2.lt))))
      clear hb HKK H31
      have x0 := H33.out.2.1.at 0 (v := .slice s.a s.cs.length s.c) rfl
      have x1 := H33.out.2.1.at 1 (v := vi s.least) rfl
      have u0 := H33.out.2.2.at 0 (v := vi u.frm) rfl
      have u1 := H33.out.2.2.at 1 (v := .slice u.a u.beds.length u.c) rfl
      go_upto_region 4 with fail
      refine wp_words (by kernel_rfl) (region_told 11 (by kernel_rfl) (by kernel_rfl) (fun W => Below w32.heap.size w32 W) newer (pickD [vIs (smV s), vSlo s.sd, vIs (suV u), vSuf u.frm u.beds, vIs (.slice A tl.length c), vTru tl, vIs (.tuple #[vi p, vi q]), vIs (.tuple #[vi p, vi q]), vIs (vi p), vIs (vi q), vIs (vi p)]) (fun h k => newer_trans h k) (pickD_stable _ ⟨vIs_st, vSlo_st, vIs_st, vSuf_st, vIs_st, vTru_st, vIs_st, vIs_st, vIs_st, vIs_st, vIs_st, trivial⟩) (Below.refl _ w32).drew (Below.refl _ _) ?_ ?_)
      · refine ⟨?_, ?_, ?_, ?_, ?_, ?_, ?_, ?_, ?_, ?_, ?_, trivial⟩
        · intro a W hG hR hO hp
          have h3 := hO.slot 3 (by kernel_rfl)
          have c0 := keep_cell x0 hG
          have c1 := keep_cell x1 hG
          refine wp_yields (v := smV s) ?_ ⟨_, rfl, rfl, Below.refl _ _, hG⟩
          simp [slotOf] at h3
          simp [execOp, go_sem, h3, c0, c1]
        · intro a W hG hR hO hp
          have h31 : slotOf a 31 = smV s := hp.1
          refine wp_enters (f := 19) (args := #[smV s]) ?_ ((lawSlope s W (HOK.out.1.next (newer_trans H33.out.1 hG)) HFW.out).mono ?_)
          · simp [slotOf] at h31
            simp [go_sem, h31]
          · rintro e w' ⟨s2, rfl, h1, h2, hb⟩
            exact ⟨_, rfl, _, rfl, ⟨s2, rfl, h1, h2⟩, hb, below_next hG hb⟩
        · intro a W hG hR hO hp
          have h4 := hO.slot 4 (by kernel_rfl)
          have c0 := keep_cell u0 hG
          have c1 := keep_cell u1 hG
          refine wp_yields (v := suV u) ?_ ⟨_, rfl, rfl, Below.refl _ _, hG⟩
          simp [slotOf] at h4
          simp [execOp, go_sem, h4, c0, c1]
        · intro a W hG hR hO hp
          have h33 : slotOf a 33 = suV u := hp.1
          refine wp_enters (f := 20) (args := #[suV u]) ?_ ((lawSurface u W (HOK.out.2.1.next (newer_trans H33.out.1 hG)) HUL.out.1).mono ?_)
          · simp [slotOf] at h33
            simp [go_sem, h33]
          · rintro e w' ⟨u2, rfl, h1, h2, h3, hb⟩
            exact ⟨_, rfl, _, rfl, ⟨u2, rfl, h1, h2, h3⟩, hb, below_next hG hb⟩
        · intro a W hG hR hO hp
          have h2 := hO.slot 2 (by kernel_rfl)
          refine wp_yields (v := .slice A tl.length c) ?_ ⟨_, rfl, rfl, Below.refl _ _, hG⟩
          simp [slotOf] at h2
          simp [execOp, go_sem, h2]
        · intro a W hG hR hO hp
          have h35 : slotOf a 35 = .slice A tl.length c := hp.1
          refine wp_enters (f := 43) (args := #[.slice A tl.length c]) ?_ ((lawTruth tl A c W HUL.out.2 ((HOK.out.2.2.below (newer_trans H33.out.1 hG)).more (newer_trans H33.out.1 hG).size)).mono ?_)
          · simp [slotOf] at h35
            simp [go_sem, h35]
          · rintro e w' ⟨B, d, rfl, h1, hb⟩
            exact ⟨_, rfl, _, rfl, ⟨B, d, rfl, h1⟩, hb, below_next hG hb⟩
        · intro a W hG hR hO hp
          have h32 := hp.1
          have h34 := hp.2.1
          have h36 := hp.2.2.1
          obtain ⟨s2, h32, hd2, hs2⟩ := h32
          obtain ⟨u2, h34, hf2, hl2, hu2⟩ := h34
          obtain ⟨B, d, h36, hr2⟩ := h36
          have hfp := HFP.out s2 u2 B d W hd2 hs2 hf2 hl2 hu2 hr2
          refine wp_enters (f := 42) (args := #[smV s2, suV u2, .slice B tl.length d]) ?_ (hfp.mono ?_)
          · simp [slotOf] at h32 h34 h36
            simp [go_sem, h32, h34, h36]
          · rintro e w' ⟨rfl, hb⟩
            exact ⟨_, rfl, _, rfl, rfl, hb, below_next hG hb⟩
        · intro a W hG hR hO hp
          have h37 : slotOf a 37 = .tuple #[vi p, vi q] := hp.1
          refine wp_yields (v := .tuple #[vi p, vi q]) ?_ ⟨_, rfl, rfl, Below.refl _ _, hG⟩
          simp [slotOf] at h37
          simp [execOp, go_sem, h37]
        · intro a W hG hR hO hp
          have h30 : slotOf a 30 = .tuple #[vi p, vi q] := hp.1
          refine wp_yields (v := vi p) ?_ ⟨_, rfl, rfl, Below.refl _ _, hG⟩
          simp [slotOf] at h30
          simp [execOp, go_sem, h30]
        · intro a W hG hR hO hp
          have h30 : slotOf a 30 = .tuple #[vi p, vi q] := hp.1
          refine wp_yields (v := vi q) ?_ ⟨_, rfl, rfl, Below.refl _ _, hG⟩
          simp [slotOf] at h30
          simp [execOp, go_sem, h30]
        · intro a W hG hR hO hp
          have h38 : slotOf a 38 = vi p := hp.1
          refine wp_yields (v := vi p) ?_ ⟨_, rfl, rfl, Below.refl _ _, hG⟩
          simp [slotOf] at h38
          simp [execOp, go_sem, h38]
      · intro wz34 hG hR
        rintro _ rfl _ - _ rfl _ - _ rfl _ - _ rfl _ rfl _ rfl _ rfl _ rfl
        change wpList _ _ _ _ _ _
        simp only [Act.put, List.setIfInBounds_toArray, List.set_cons_zero, List.set_cons_succ, List.drop_succ_cons, List.drop_zero]
        have H35 := Lib.hid (And.intro ((newer_trans H33.out.1 hG)) (And.intro ((H33.out.2.1.below hG H33.out.2.1.lt)) ((H33.out.2.2.below hG H33.out.2.2.lt))))
        clear hG hR HFP H33 x0 x1 u0 u1
        have x0 := H35.out.2.1.at 0 (v := .slice s.a s.cs.length s.c) rfl
        have x1 := H35.out.2.1.at 1 (v := vi s.least) rfl
        go_wp2_with fail
        refine (HRI.out _ H35.out.1).mono ?_
        rintro e w36 ⟨rfl, hb⟩
        have H37 := Lib.hid (And.intro ((newer_trans H35.out.1 hb)) (And.intro ((H35.out.2.1.below hb H35.out.2.1.lt)) ((H35.out.2.2.below hb H35.out.2.2.lt))))
        clear hb HRI H35 x0 x1
        have x0 := H37.out.2.1.at 0 (v := .slice s.a s.cs.length s.c) rfl
        have x1 := H37.out.2.1.at 1 (v := vi s.least) rfl
        have u0 := H37.out.2.2.at 0 (v := vi u.frm) rfl
        have u1 := H37.out.2.2.at 1 (v := .slice u.a u.beds.length u.c) rfl
        go_wp2_with fail
        refine (HFT.out _ H37.out.1).mono ?_
        rintro e w38 ⟨rfl, hb⟩
        have H39 := Lib.hid (And.intro ((newer_trans H37.out.1 hb)) (And.intro ((H37.out.2.1.below hb H37.out.2.1.lt)) ((H37.out.2.2.below hb H37.out.2.2.lt))))
        clear hb HFT H37 x0 x1 u0 u1
        go_wp2_with fail
        refine (wakes_any _).mono ?_
        rintro e w40 ⟨rfl, hb⟩
        have H41 := Lib.hid (And.intro ((newer_trans H39.out.1 hb)) (And.intro ((H39.out.2.1.below hb H39.out.2.1.lt)) ((H39.out.2.2.below hb H39.out.2.2.lt))))
        clear hb H39
        go_wp2_with fail
        go_ret
        exact ⟨rfl, H41.out.1⟩
    · rw [he] at hp hq
      dsimp only at hp hq
      obtain ⟨hs, hsf⟩ := HZ.out rfl
      obtain ⟨p1, p2, p3⟩ := surfB_parts hs hsf
      obtain ⟨k0, hk0⟩ : ∃ k0, k0 = u.frm.toNat := ⟨_, rfl⟩
      obtain ⟨l, hl⟩ : ∃ l, l = u.beds.map Int.toNat := ⟨_, rfl⟩
      rw [← hk0] at p1 p3
      rw [← hl] at p2 p3
      rw [sd_len] at p3
      have hbo := bedsL_ok hs p3.2.2 p3.2.1
      have eb : bedsU s.sd u.frm u.beds = bedsL s.sd.cols k0 l := by unfold bedsU; rw [← hk0, ← hl]
      rw [eb] at hft
      have HFI : Hid (∀ W, newer w W → Calls Try.prog 47 #[smV s, suV u, .slice A tl.length c] W fun e w' => e = .returned (.bool false) ∧ newer W w') := Lib.hid (fun W hW => by
        have h := fits_any s u k0 l tl A c W (HOK.out.1.next hW) hs (HOK.out.2.1.next hW) p1 p2 p3 ((HOK.out.2.2.below hW).more hW.size)
        rw [hft] at h
        exact h)
      clear he HZ hs hsf p1 p2 p3 hk0 hl hbo eb hft
      go_enter Try.func12, Try.ntmps12
      go_wp2_with fail
      refine (HTH.out).mono ?_
      rintro e w42 ⟨rfl, hb⟩
      have H43 := Lib.hid (And.intro ((newer_trans H1.out.1 hb)) (And.intro ((H1.out.2.1.below hb H1.out.2.1.lt)) ((H1.out.2.2.below hb H1.out.2.2.lt))))
      clear hb HTH H1 x0 x1 u0 u1
      have x0 := H43.out.2.1.at 0 (v := .slice s.a s.cs.length s.c) rfl
      have x1 := H43.out.2.1.at 1 (v := vi s.least) rfl
      have u0 := H43.out.2.2.at 0 (v := vi u.frm) rfl
      have u1 := H43.out.2.2.at 1 (v := .slice u.a u.beds.length u.c) rfl
      go_wp2_with fail
      refine (lawSlope s _ (HOK.out.1.next H43.out.1) HFW.out).mono ?_
      rintro e w44 ⟨s2, rfl, hd, hs2, hb⟩
      have HKK := Lib.hid (HCK.out s2 _ hd hs2)
      have H45 := Lib.hid (And.intro ((newer_trans H43.out.1 hb)) (And.intro ((H43.out.2.1.below hb H43.out.2.1.lt)) ((H43.out.2.2.below hb H43.out.2.2.lt))))
      clear hb hd hs2 HCK H43 x0 x1 u0 u1
      go_wp2_with fail
      refine (HKK.out).mono ?_
      rintro e w46 ⟨rfl, hb⟩
      have H47 := Lib.hid (And.intro ((newer_trans H45.out.1 hb)) (And.intro ((H45.out.2.1.below hb H45.out.2.1.lt)) ((H45.out.2.2.below hb H45.out.2.2.lt))))
      clear hb HKK H45
      have x0 := H47.out.2.1.at 0 (v := .slice s.a s.cs.length s.c) rfl
      have x1 := H47.out.2.1.at 1 (v := vi s.least) rfl
      have u0 := H47.out.2.2.at 0 (v := vi u.frm) rfl
      have u1 := H47.out.2.2.at 1 (v := .slice u.a u.beds.length u.c) rfl
      go_upto_region 4 with fail
      refine wp_words (by kernel_rfl) (region_told 11 (by kernel_rfl) (by kernel_rfl) (fun W => Below w46.heap.size w46 W) newer (pickD [vIs (smV s), vSlo s.sd, vIs (suV u), vSuf u.frm u.beds, vIs (.slice A tl.length c), vTru tl, vIs (.tuple #[vi p, vi q]), vIs (.tuple #[vi p, vi q]), vIs (vi p), vIs (vi q), vIs (vi p)]) (fun h k => newer_trans h k) (pickD_stable _ ⟨vIs_st, vSlo_st, vIs_st, vSuf_st, vIs_st, vTru_st, vIs_st, vIs_st, vIs_st, vIs_st, vIs_st, trivial⟩) (Below.refl _ w46).drew (Below.refl _ _) ?_ ?_)
      · refine ⟨?_, ?_, ?_, ?_, ?_, ?_, ?_, ?_, ?_, ?_, ?_, trivial⟩
        · intro a W hG hR hO hp
          have h3 := hO.slot 3 (by kernel_rfl)
          have c0 := keep_cell x0 hG
          have c1 := keep_cell x1 hG
          refine wp_yields (v := smV s) ?_ ⟨_, rfl, rfl, Below.refl _ _, hG⟩
          simp [slotOf] at h3
          simp [execOp, go_sem, h3, c0, c1]
        · intro a W hG hR hO hp
          have h31 : slotOf a 31 = smV s := hp.1
          refine wp_enters (f := 19) (args := #[smV s]) ?_ ((lawSlope s W (HOK.out.1.next (newer_trans H47.out.1 hG)) HFW.out).mono ?_)
          · simp [slotOf] at h31
            simp [go_sem, h31]
          · rintro e w' ⟨s2, rfl, h1, h2, hb⟩
            exact ⟨_, rfl, _, rfl, ⟨s2, rfl, h1, h2⟩, hb, below_next hG hb⟩
        · intro a W hG hR hO hp
          have h4 := hO.slot 4 (by kernel_rfl)
          have c0 := keep_cell u0 hG
          have c1 := keep_cell u1 hG
          refine wp_yields (v := suV u) ?_ ⟨_, rfl, rfl, Below.refl _ _, hG⟩
          simp [slotOf] at h4
          simp [execOp, go_sem, h4, c0, c1]
        · intro a W hG hR hO hp
          have h33 : slotOf a 33 = suV u := hp.1
          refine wp_enters (f := 20) (args := #[suV u]) ?_ ((lawSurface u W (HOK.out.2.1.next (newer_trans H47.out.1 hG)) HUL.out.1).mono ?_)
          · simp [slotOf] at h33
            simp [go_sem, h33]
          · rintro e w' ⟨u2, rfl, h1, h2, h3, hb⟩
            exact ⟨_, rfl, _, rfl, ⟨u2, rfl, h1, h2, h3⟩, hb, below_next hG hb⟩
        · intro a W hG hR hO hp
          have h2 := hO.slot 2 (by kernel_rfl)
          refine wp_yields (v := .slice A tl.length c) ?_ ⟨_, rfl, rfl, Below.refl _ _, hG⟩
          simp [slotOf] at h2
          simp [execOp, go_sem, h2]
        · intro a W hG hR hO hp
          have h35 : slotOf a 35 = .slice A tl.length c := hp.1
          refine wp_enters (f := 43) (args := #[.slice A tl.length c]) ?_ ((lawTruth tl A c W HUL.out.2 ((HOK.out.2.2.below (newer_trans H47.out.1 hG)).more (newer_trans H47.out.1 hG).size)).mono ?_)
          · simp [slotOf] at h35
            simp [go_sem, h35]
          · rintro e w' ⟨B, d, rfl, h1, hb⟩
            exact ⟨_, rfl, _, rfl, ⟨B, d, rfl, h1⟩, hb, below_next hG hb⟩
        · intro a W hG hR hO hp
          have h32 := hp.1
          have h34 := hp.2.1
          have h36 := hp.2.2.1
          obtain ⟨s2, h32, hd2, hs2⟩ := h32
          obtain ⟨u2, h34, hf2, hl2, hu2⟩ := h34
          obtain ⟨B, d, h36, hr2⟩ := h36
          have hfp := HFP.out s2 u2 B d W hd2 hs2 hf2 hl2 hu2 hr2
          refine wp_enters (f := 42) (args := #[smV s2, suV u2, .slice B tl.length d]) ?_ (hfp.mono ?_)
          · simp [slotOf] at h32 h34 h36
            simp [go_sem, h32, h34, h36]
          · rintro e w' ⟨rfl, hb⟩
            exact ⟨_, rfl, _, rfl, rfl, hb, below_next hG hb⟩
        · intro a W hG hR hO hp
          have h37 : slotOf a 37 = .tuple #[vi p, vi q] := hp.1
          refine wp_yields (v := .tuple #[vi p, vi q]) ?_ ⟨_, rfl, rfl, Below.refl _ _, hG⟩
          simp [slotOf] at h37
          simp [execOp, go_sem, h37]
        · intro a W hG hR hO hp
          have h30 : slotOf a 30 = .tuple #[vi p, vi q] := hp.1
          refine wp_yields (v := vi p) ?_ ⟨_, rfl, rfl, Below.refl _ _, hG⟩
          simp [slotOf] at h30
          simp [execOp, go_sem, h30]
        · intro a W hG hR hO hp
          have h30 : slotOf a 30 = .tuple #[vi p, vi q] := hp.1
          refine wp_yields (v := vi q) ?_ ⟨_, rfl, rfl, Below.refl _ _, hG⟩
          simp [slotOf] at h30
          simp [execOp, go_sem, h30]
        · intro a W hG hR hO hp
          have h38 : slotOf a 38 = vi p := hp.1
          refine wp_yields (v := vi p) ?_ ⟨_, rfl, rfl, Below.refl _ _, hG⟩
          simp [slotOf] at h38
          simp [execOp, go_sem, h38]
      · intro wz48 hG hR
        rintro _ rfl _ - _ rfl _ - _ rfl _ - _ rfl _ rfl _ rfl _ rfl _ rfl
        change wpList _ _ _ _ _ _
        simp only [Act.put, List.setIfInBounds_toArray, List.set_cons_zero, List.set_cons_succ, List.drop_succ_cons, List.drop_zero]
        have H49 := Lib.hid (And.intro ((newer_trans H47.out.1 hG)) (And.intro ((H47.out.2.1.below hG H47.out.2.1.lt)) ((H47.out.2.2.below hG H47.out.2.2.lt))))
        clear hG hR HFP H47 x0 x1 u0 u1
        have x0 := H49.out.2.1.at 0 (v := .slice s.a s.cs.length s.c) rfl
        have x1 := H49.out.2.1.at 1 (v := vi s.least) rfl
        go_wp2_with fail
        refine (HRI.out _ H49.out.1).mono ?_
        rintro e w50 ⟨rfl, hb⟩
        have H51 := Lib.hid (And.intro ((newer_trans H49.out.1 hb)) (And.intro ((H49.out.2.1.below hb H49.out.2.1.lt)) ((H49.out.2.2.below hb H49.out.2.2.lt))))
        clear hb HRI H49 x0 x1
        have x0 := H51.out.2.1.at 0 (v := .slice s.a s.cs.length s.c) rfl
        have x1 := H51.out.2.1.at 1 (v := vi s.least) rfl
        have u0 := H51.out.2.2.at 0 (v := vi u.frm) rfl
        have u1 := H51.out.2.2.at 1 (v := .slice u.a u.beds.length u.c) rfl
        go_wp2_with fail
        refine (HFT.out _ H51.out.1).mono ?_
        rintro e w52 ⟨rfl, hb⟩
        have H53 := Lib.hid (And.intro ((newer_trans H51.out.1 hb)) (And.intro ((H51.out.2.1.below hb H51.out.2.1.lt)) ((H51.out.2.2.below hb H51.out.2.2.lt))))
        clear hb HFT H51 x0 x1 u0 u1
        have x0 := H53.out.2.1.at 0 (v := .slice s.a s.cs.length s.c) rfl
        have x1 := H53.out.2.1.at 1 (v := vi s.least) rfl
        have u0 := H53.out.2.2.at 0 (v := vi u.frm) rfl
        have u1 := H53.out.2.2.at 1 (v := .slice u.a u.beds.length u.c) rfl
        go_wp2_with fail
        refine (HFI.out _ H53.out.1).mono ?_
        rintro e w54 ⟨rfl, hb⟩
        have H55 := Lib.hid (And.intro ((newer_trans H53.out.1 hb)) (And.intro ((H53.out.2.1.below hb H53.out.2.1.lt)) ((H53.out.2.2.below hb H53.out.2.2.lt))))
        clear hb HFI H53 x0 x1 u0 u1
        go_wp2_with fail
        refine (wakes_any _).mono ?_
        rintro e w56 ⟨rfl, hb⟩
        have H57 := Lib.hid (And.intro ((newer_trans H55.out.1 hb)) (And.intro ((H55.out.2.1.below hb H55.out.2.1.lt)) ((H55.out.2.2.below hb H55.out.2.2.lt))))
        clear hb H55
        go_wp2_with fail
        go_ret
        exact ⟨rfl, H57.out.1⟩
    · rw [he] at hp hq
      dsimp only at hp hq
      obtain ⟨hs, hsf⟩ := HZ.out rfl
      obtain ⟨p1, p2, p3⟩ := surfB_parts hs hsf
      obtain ⟨k0, hk0⟩ : ∃ k0, k0 = u.frm.toNat := ⟨_, rfl⟩
      obtain ⟨l, hl⟩ : ∃ l, l = u.beds.map Int.toNat := ⟨_, rfl⟩
      rw [← hk0] at p1 p3
      rw [← hl] at p2 p3
      rw [sd_len] at p3
      have hbo := bedsL_ok hs p3.2.2 p3.2.1
      have eb : bedsU s.sd u.frm u.beds = bedsL s.sd.cols k0 l := by unfold bedsU; rw [← hk0, ← hl]
      rw [eb] at hft
      rw [eb] at hrf
      have HFI : Hid (∀ W, newer w W → Calls Try.prog 47 #[smV s, suV u, .slice A tl.length c] W fun e w' => e = .returned (.bool true) ∧ newer W w') := Lib.hid (fun W hW => by
        have h := fits_any s u k0 l tl A c W (HOK.out.1.next hW) hs (HOK.out.2.1.next hW) p1 p2 p3 ((HOK.out.2.2.below hW).more hW.size)
        rw [hft] at h
        exact h)
      have hbl := bedsL_len s.sd.cols l k0
      have HRF : Hid (∀ W, newer w W → Calls Try.prog 48 #[smV s, suV u, .slice A tl.length c] W fun e w' => e = .returned (vi (-1)) ∧ newer W w') := Lib.hid (fun W hW => by
        have hfa := fitsA_iff.1 hft
        have h := refFactor_any s u k0 l tl A c W (HOK.out.1.next hW) hs (HOK.out.2.1.next hW) p1 p2 p3 ((HOK.out.2.2.below hW).more hW.size) (by rw [hfa.1]; exact hbl) (fun y hy => by
          obtain ⟨i, hi⟩ := List.mem_iff_getElem?.1 hy
          have hil := (List.getElem?_eq_some_iff.1 hi).1
          have h2 := hfa.2 i (by omega)
          obtain ⟨b, hb2⟩ := get_of_lt (l := bedsL s.sd.cols k0 l) (k := i) (by omega)
          have hge : (bedsL s.sd.cols k0 l).getD i zeroBd = b := by simp [List.getD, hb2]
          have hgy : tl.getD i ⟨0, 0, 0⟩ = y := by simp [List.getD, hi]
          rw [hge, hgy] at h2
          exact fit_rlB (hbo b (List.mem_of_getElem? hb2)) h2)
        rw [← hbl, hrf] at h
        exact h)
      clear he HZ hs hsf p1 p2 p3 hk0 hl hbo eb hft hbl hrf
      go_enter Try.func12, Try.ntmps12
      go_wp2_with fail
      refine (HTH.out).mono ?_
      rintro e w58 ⟨rfl, hb⟩
      have H59 := Lib.hid (And.intro ((newer_trans H1.out.1 hb)) (And.intro ((H1.out.2.1.below hb H1.out.2.1.lt)) ((H1.out.2.2.below hb H1.out.2.2.lt))))
      clear hb HTH H1 x0 x1 u0 u1
      have x0 := H59.out.2.1.at 0 (v := .slice s.a s.cs.length s.c) rfl
      have x1 := H59.out.2.1.at 1 (v := vi s.least) rfl
      have u0 := H59.out.2.2.at 0 (v := vi u.frm) rfl
      have u1 := H59.out.2.2.at 1 (v := .slice u.a u.beds.length u.c) rfl
      go_wp2_with fail
      refine (lawSlope s _ (HOK.out.1.next H59.out.1) HFW.out).mono ?_
      rintro e w60 ⟨s2, rfl, hd, hs2, hb⟩
      have HKK := Lib.hid (HCK.out s2 _ hd hs2)
      have H61 := Lib.hid (And.intro ((newer_trans H59.out.1 hb)) (And.intro ((H59.out.2.1.below hb H59.out.2.1.lt)) ((H59.out.2.2.below hb H59.out.2.2.lt))))
      clear hb hd hs2 HCK H59 x0 x1 u0 u1
      go_wp2_with fail
      refine (HKK.out).mono ?_
      rintro e w62 ⟨rfl, hb⟩
      have H63 := Lib.hid (And.intro ((newer_trans H61.out.1 hb)) (And.intro ((H61.out.2.1.below hb H61.out.2.1.lt)) ((H61.out.2.2.below hb H61.out.2.2.lt))))
      clear hb HKK H61
      have x0 := H63.out.2.1.at 0 (v := .slice s.a s.cs.length s.c) rfl
      have x1 := H63.out.2.1.at 1 (v := vi s.least) rfl
      have u0 := H63.out.2.2.at 0 (v := vi u.frm) rfl
      have u1 := H63.out.2.2.at 1 (v := .slice u.a u.beds.length u.c) rfl
      go_upto_region 4 with fail
      refine wp_words (by kernel_rfl) (region_told 11 (by kernel_rfl) (by kernel_rfl) (fun W => Below w62.heap.size w62 W) newer (pickD [vIs (smV s), vSlo s.sd, vIs (suV u), vSuf u.frm u.beds, vIs (.slice A tl.length c), vTru tl, vIs (.tuple #[vi p, vi q]), vIs (.tuple #[vi p, vi q]), vIs (vi p), vIs (vi q), vIs (vi p)]) (fun h k => newer_trans h k) (pickD_stable _ ⟨vIs_st, vSlo_st, vIs_st, vSuf_st, vIs_st, vTru_st, vIs_st, vIs_st, vIs_st, vIs_st, vIs_st, trivial⟩) (Below.refl _ w62).drew (Below.refl _ _) ?_ ?_)
      · refine ⟨?_, ?_, ?_, ?_, ?_, ?_, ?_, ?_, ?_, ?_, ?_, trivial⟩
        · intro a W hG hR hO hp
          have h3 := hO.slot 3 (by kernel_rfl)
          have c0 := keep_cell x0 hG
          have c1 := keep_cell x1 hG
          refine wp_yields (v := smV s) ?_ ⟨_, rfl, rfl, Below.refl _ _, hG⟩
          simp [slotOf] at h3
          simp [execOp, go_sem, h3, c0, c1]
        · intro a W hG hR hO hp
          have h31 : slotOf a 31 = smV s := hp.1
          refine wp_enters (f := 19) (args := #[smV s]) ?_ ((lawSlope s W (HOK.out.1.next (newer_trans H63.out.1 hG)) HFW.out).mono ?_)
          · simp [slotOf] at h31
            simp [go_sem, h31]
          · rintro e w' ⟨s2, rfl, h1, h2, hb⟩
            exact ⟨_, rfl, _, rfl, ⟨s2, rfl, h1, h2⟩, hb, below_next hG hb⟩
        · intro a W hG hR hO hp
          have h4 := hO.slot 4 (by kernel_rfl)
          have c0 := keep_cell u0 hG
          have c1 := keep_cell u1 hG
          refine wp_yields (v := suV u) ?_ ⟨_, rfl, rfl, Below.refl _ _, hG⟩
          simp [slotOf] at h4
          simp [execOp, go_sem, h4, c0, c1]
        · intro a W hG hR hO hp
          have h33 : slotOf a 33 = suV u := hp.1
          refine wp_enters (f := 20) (args := #[suV u]) ?_ ((lawSurface u W (HOK.out.2.1.next (newer_trans H63.out.1 hG)) HUL.out.1).mono ?_)
          · simp [slotOf] at h33
            simp [go_sem, h33]
          · rintro e w' ⟨u2, rfl, h1, h2, h3, hb⟩
            exact ⟨_, rfl, _, rfl, ⟨u2, rfl, h1, h2, h3⟩, hb, below_next hG hb⟩
        · intro a W hG hR hO hp
          have h2 := hO.slot 2 (by kernel_rfl)
          refine wp_yields (v := .slice A tl.length c) ?_ ⟨_, rfl, rfl, Below.refl _ _, hG⟩
          simp [slotOf] at h2
          simp [execOp, go_sem, h2]
        · intro a W hG hR hO hp
          have h35 : slotOf a 35 = .slice A tl.length c := hp.1
          refine wp_enters (f := 43) (args := #[.slice A tl.length c]) ?_ ((lawTruth tl A c W HUL.out.2 ((HOK.out.2.2.below (newer_trans H63.out.1 hG)).more (newer_trans H63.out.1 hG).size)).mono ?_)
          · simp [slotOf] at h35
            simp [go_sem, h35]
          · rintro e w' ⟨B, d, rfl, h1, hb⟩
            exact ⟨_, rfl, _, rfl, ⟨B, d, rfl, h1⟩, hb, below_next hG hb⟩
        · intro a W hG hR hO hp
          have h32 := hp.1
          have h34 := hp.2.1
          have h36 := hp.2.2.1
          obtain ⟨s2, h32, hd2, hs2⟩ := h32
          obtain ⟨u2, h34, hf2, hl2, hu2⟩ := h34
          obtain ⟨B, d, h36, hr2⟩ := h36
          have hfp := HFP.out s2 u2 B d W hd2 hs2 hf2 hl2 hu2 hr2
          refine wp_enters (f := 42) (args := #[smV s2, suV u2, .slice B tl.length d]) ?_ (hfp.mono ?_)
          · simp [slotOf] at h32 h34 h36
            simp [go_sem, h32, h34, h36]
          · rintro e w' ⟨rfl, hb⟩
            exact ⟨_, rfl, _, rfl, rfl, hb, below_next hG hb⟩
        · intro a W hG hR hO hp
          have h37 : slotOf a 37 = .tuple #[vi p, vi q] := hp.1
          refine wp_yields (v := .tuple #[vi p, vi q]) ?_ ⟨_, rfl, rfl, Below.refl _ _, hG⟩
          simp [slotOf] at h37
          simp [execOp, go_sem, h37]
        · intro a W hG hR hO hp
          have h30 : slotOf a 30 = .tuple #[vi p, vi q] := hp.1
          refine wp_yields (v := vi p) ?_ ⟨_, rfl, rfl, Below.refl _ _, hG⟩
          simp [slotOf] at h30
          simp [execOp, go_sem, h30]
        · intro a W hG hR hO hp
          have h30 : slotOf a 30 = .tuple #[vi p, vi q] := hp.1
          refine wp_yields (v := vi q) ?_ ⟨_, rfl, rfl, Below.refl _ _, hG⟩
          simp [slotOf] at h30
          simp [execOp, go_sem, h30]
        · intro a W hG hR hO hp
          have h38 : slotOf a 38 = vi p := hp.1
          refine wp_yields (v := vi p) ?_ ⟨_, rfl, rfl, Below.refl _ _, hG⟩
          simp [slotOf] at h38
          simp [execOp, go_sem, h38]
      · intro wz64 hG hR
        rintro _ rfl _ - _ rfl _ - _ rfl _ - _ rfl _ rfl _ rfl _ rfl _ rfl
        change wpList _ _ _ _ _ _
        simp only [Act.put, List.setIfInBounds_toArray, List.set_cons_zero, List.set_cons_succ, List.drop_succ_cons, List.drop_zero]
        have H65 := Lib.hid (And.intro ((newer_trans H63.out.1 hG)) (And.intro ((H63.out.2.1.below hG H63.out.2.1.lt)) ((H63.out.2.2.below hG H63.out.2.2.lt))))
        clear hG hR HFP H63 x0 x1 u0 u1
        have x0 := H65.out.2.1.at 0 (v := .slice s.a s.cs.length s.c) rfl
        have x1 := H65.out.2.1.at 1 (v := vi s.least) rfl
        go_wp2_with fail
        refine (HRI.out _ H65.out.1).mono ?_
        rintro e w66 ⟨rfl, hb⟩
        have H67 := Lib.hid (And.intro ((newer_trans H65.out.1 hb)) (And.intro ((H65.out.2.1.below hb H65.out.2.1.lt)) ((H65.out.2.2.below hb H65.out.2.2.lt))))
        clear hb HRI H65 x0 x1
        have x0 := H67.out.2.1.at 0 (v := .slice s.a s.cs.length s.c) rfl
        have x1 := H67.out.2.1.at 1 (v := vi s.least) rfl
        have u0 := H67.out.2.2.at 0 (v := vi u.frm) rfl
        have u1 := H67.out.2.2.at 1 (v := .slice u.a u.beds.length u.c) rfl
        go_wp2_with fail
        refine (HFT.out _ H67.out.1).mono ?_
        rintro e w68 ⟨rfl, hb⟩
        have H69 := Lib.hid (And.intro ((newer_trans H67.out.1 hb)) (And.intro ((H67.out.2.1.below hb H67.out.2.1.lt)) ((H67.out.2.2.below hb H67.out.2.2.lt))))
        clear hb HFT H67 x0 x1 u0 u1
        have x0 := H69.out.2.1.at 0 (v := .slice s.a s.cs.length s.c) rfl
        have x1 := H69.out.2.1.at 1 (v := vi s.least) rfl
        have u0 := H69.out.2.2.at 0 (v := vi u.frm) rfl
        have u1 := H69.out.2.2.at 1 (v := .slice u.a u.beds.length u.c) rfl
        go_wp2_with fail
        refine (HFI.out _ H69.out.1).mono ?_
        rintro e w70 ⟨rfl, hb⟩
        have H71 := Lib.hid (And.intro ((newer_trans H69.out.1 hb)) (And.intro ((H69.out.2.1.below hb H69.out.2.1.lt)) ((H69.out.2.2.below hb H69.out.2.2.lt))))
        clear hb HFI H69 x0 x1 u0 u1
        have x0 := H71.out.2.1.at 0 (v := .slice s.a s.cs.length s.c) rfl
        have x1 := H71.out.2.1.at 1 (v := vi s.least) rfl
        have u0 := H71.out.2.2.at 0 (v := vi u.frm) rfl
        have u1 := H71.out.2.2.at 1 (v := .slice u.a u.beds.length u.c) rfl
        go_wp2_with fail
        refine (HRF.out _ H71.out.1).mono ?_
        rintro e w72 ⟨rfl, hb⟩
        have H73 := Lib.hid (And.intro ((newer_trans H71.out.1 hb)) (And.intro ((H71.out.2.1.below hb H71.out.2.1.lt)) ((H71.out.2.2.below hb H71.out.2.2.lt))))
        clear hb HRF H71 x0 x1 u0 u1
        go_wp2_with fail
        refine (wakes_any _).mono ?_
        rintro e w74 ⟨rfl, hb⟩
        have H75 := Lib.hid (And.intro ((newer_trans H73.out.1 hb)) (And.intro ((H73.out.2.1.below hb H73.out.2.1.lt)) ((H73.out.2.2.below hb H73.out.2.2.lt))))
        clear hb H73
        go_wp2_with fail
        go_ret
        exact ⟨rfl, H75.out.1⟩
    · rw [he] at hp hq
      dsimp only at hp hq
      obtain ⟨hs, hsf⟩ := HZ.out rfl
      obtain ⟨p1, p2, p3⟩ := surfB_parts hs hsf
      obtain ⟨k0, hk0⟩ : ∃ k0, k0 = u.frm.toNat := ⟨_, rfl⟩
      obtain ⟨l, hl⟩ : ∃ l, l = u.beds.map Int.toNat := ⟨_, rfl⟩
      rw [← hk0] at p1 p3
      rw [← hl] at p2 p3
      rw [sd_len] at p3
      have hbo := bedsL_ok hs p3.2.2 p3.2.1
      have eb : bedsU s.sd u.frm u.beds = bedsL s.sd.cols k0 l := by unfold bedsU; rw [← hk0, ← hl]
      rw [eb] at hft
      rw [eb] at hrd hp
      have hp0 : 0 ≤ p := by rw [hp]; exact fac_ge hbo hft hrd
      have hp1 : ¬ p < 0 := by omega
      have HFI : Hid (∀ W, newer w W → Calls Try.prog 47 #[smV s, suV u, .slice A tl.length c] W fun e w' => e = .returned (.bool true) ∧ newer W w') := Lib.hid (fun W hW => by
        have h := fits_any s u k0 l tl A c W (HOK.out.1.next hW) hs (HOK.out.2.1.next hW) p1 p2 p3 ((HOK.out.2.2.below hW).more hW.size)
        rw [hft] at h
        exact h)
      have hbl := bedsL_len s.sd.cols l k0
      have HRF : Hid (∀ W, newer w W → Calls Try.prog 48 #[smV s, suV u, .slice A tl.length c] W fun e w' => e = .returned (vi p) ∧ newer W w') := Lib.hid (fun W hW => by
        have hfa := fitsA_iff.1 hft
        have h := refFactor_any s u k0 l tl A c W (HOK.out.1.next hW) hs (HOK.out.2.1.next hW) p1 p2 p3 ((HOK.out.2.2.below hW).more hW.size) (by rw [hfa.1]; exact hbl) (fun y hy => by
          obtain ⟨i, hi⟩ := List.mem_iff_getElem?.1 hy
          have hil := (List.getElem?_eq_some_iff.1 hi).1
          have h2 := hfa.2 i (by omega)
          obtain ⟨b, hb2⟩ := get_of_lt (l := bedsL s.sd.cols k0 l) (k := i) (by omega)
          have hge : (bedsL s.sd.cols k0 l).getD i zeroBd = b := by simp [List.getD, hb2]
          have hgy : tl.getD i ⟨0, 0, 0⟩ = y := by simp [List.getD, hi]
          rw [hge, hgy] at h2
          exact fit_rlB (hbo b (List.mem_of_getElem? hb2)) h2)
        rw [← hbl, ← hp] at h
        exact h)
      clear he HZ hs hsf p1 p2 p3 hk0 hl hbo eb hft hbl hrd hp hp0
      go_enter Try.func12, Try.ntmps12
      go_wp2_with fail
      refine (HTH.out).mono ?_
      rintro e w76 ⟨rfl, hb⟩
      have H77 := Lib.hid (And.intro ((newer_trans H1.out.1 hb)) (And.intro ((H1.out.2.1.below hb H1.out.2.1.lt)) ((H1.out.2.2.below hb H1.out.2.2.lt))))
      clear hb HTH H1 x0 x1 u0 u1
      have x0 := H77.out.2.1.at 0 (v := .slice s.a s.cs.length s.c) rfl
      have x1 := H77.out.2.1.at 1 (v := vi s.least) rfl
      have u0 := H77.out.2.2.at 0 (v := vi u.frm) rfl
      have u1 := H77.out.2.2.at 1 (v := .slice u.a u.beds.length u.c) rfl
      go_wp2_with fail
      refine (lawSlope s _ (HOK.out.1.next H77.out.1) HFW.out).mono ?_
      rintro e w78 ⟨s2, rfl, hd, hs2, hb⟩
      have HKK := Lib.hid (HCK.out s2 _ hd hs2)
      have H79 := Lib.hid (And.intro ((newer_trans H77.out.1 hb)) (And.intro ((H77.out.2.1.below hb H77.out.2.1.lt)) ((H77.out.2.2.below hb H77.out.2.2.lt))))
      clear hb hd hs2 HCK H77 x0 x1 u0 u1
      go_wp2_with fail
      refine (HKK.out).mono ?_
      rintro e w80 ⟨rfl, hb⟩
      have H81 := Lib.hid (And.intro ((newer_trans H79.out.1 hb)) (And.intro ((H79.out.2.1.below hb H79.out.2.1.lt)) ((H79.out.2.2.below hb H79.out.2.2.lt))))
      clear hb HKK H79
      have x0 := H81.out.2.1.at 0 (v := .slice s.a s.cs.length s.c) rfl
      have x1 := H81.out.2.1.at 1 (v := vi s.least) rfl
      have u0 := H81.out.2.2.at 0 (v := vi u.frm) rfl
      have u1 := H81.out.2.2.at 1 (v := .slice u.a u.beds.length u.c) rfl
      go_upto_region 4 with fail
      refine wp_words (by kernel_rfl) (region_told 11 (by kernel_rfl) (by kernel_rfl) (fun W => Below w80.heap.size w80 W) newer (pickD [vIs (smV s), vSlo s.sd, vIs (suV u), vSuf u.frm u.beds, vIs (.slice A tl.length c), vTru tl, vIs (.tuple #[vi p, vi q]), vIs (.tuple #[vi p, vi q]), vIs (vi p), vIs (vi q), vIs (vi p)]) (fun h k => newer_trans h k) (pickD_stable _ ⟨vIs_st, vSlo_st, vIs_st, vSuf_st, vIs_st, vTru_st, vIs_st, vIs_st, vIs_st, vIs_st, vIs_st, trivial⟩) (Below.refl _ w80).drew (Below.refl _ _) ?_ ?_)
      · refine ⟨?_, ?_, ?_, ?_, ?_, ?_, ?_, ?_, ?_, ?_, ?_, trivial⟩
        · intro a W hG hR hO hp
          have h3 := hO.slot 3 (by kernel_rfl)
          have c0 := keep_cell x0 hG
          have c1 := keep_cell x1 hG
          refine wp_yields (v := smV s) ?_ ⟨_, rfl, rfl, Below.refl _ _, hG⟩
          simp [slotOf] at h3
          simp [execOp, go_sem, h3, c0, c1]
        · intro a W hG hR hO hp
          have h31 : slotOf a 31 = smV s := hp.1
          refine wp_enters (f := 19) (args := #[smV s]) ?_ ((lawSlope s W (HOK.out.1.next (newer_trans H81.out.1 hG)) HFW.out).mono ?_)
          · simp [slotOf] at h31
            simp [go_sem, h31]
          · rintro e w' ⟨s2, rfl, h1, h2, hb⟩
            exact ⟨_, rfl, _, rfl, ⟨s2, rfl, h1, h2⟩, hb, below_next hG hb⟩
        · intro a W hG hR hO hp
          have h4 := hO.slot 4 (by kernel_rfl)
          have c0 := keep_cell u0 hG
          have c1 := keep_cell u1 hG
          refine wp_yields (v := suV u) ?_ ⟨_, rfl, rfl, Below.refl _ _, hG⟩
          simp [slotOf] at h4
          simp [execOp, go_sem, h4, c0, c1]
        · intro a W hG hR hO hp
          have h33 : slotOf a 33 = suV u := hp.1
          refine wp_enters (f := 20) (args := #[suV u]) ?_ ((lawSurface u W (HOK.out.2.1.next (newer_trans H81.out.1 hG)) HUL.out.1).mono ?_)
          · simp [slotOf] at h33
            simp [go_sem, h33]
          · rintro e w' ⟨u2, rfl, h1, h2, h3, hb⟩
            exact ⟨_, rfl, _, rfl, ⟨u2, rfl, h1, h2, h3⟩, hb, below_next hG hb⟩
        · intro a W hG hR hO hp
          have h2 := hO.slot 2 (by kernel_rfl)
          refine wp_yields (v := .slice A tl.length c) ?_ ⟨_, rfl, rfl, Below.refl _ _, hG⟩
          simp [slotOf] at h2
          simp [execOp, go_sem, h2]
        · intro a W hG hR hO hp
          have h35 : slotOf a 35 = .slice A tl.length c := hp.1
          refine wp_enters (f := 43) (args := #[.slice A tl.length c]) ?_ ((lawTruth tl A c W HUL.out.2 ((HOK.out.2.2.below (newer_trans H81.out.1 hG)).more (newer_trans H81.out.1 hG).size)).mono ?_)
          · simp [slotOf] at h35
            simp [go_sem, h35]
          · rintro e w' ⟨B, d, rfl, h1, hb⟩
            exact ⟨_, rfl, _, rfl, ⟨B, d, rfl, h1⟩, hb, below_next hG hb⟩
        · intro a W hG hR hO hp
          have h32 := hp.1
          have h34 := hp.2.1
          have h36 := hp.2.2.1
          obtain ⟨s2, h32, hd2, hs2⟩ := h32
          obtain ⟨u2, h34, hf2, hl2, hu2⟩ := h34
          obtain ⟨B, d, h36, hr2⟩ := h36
          have hfp := HFP.out s2 u2 B d W hd2 hs2 hf2 hl2 hu2 hr2
          refine wp_enters (f := 42) (args := #[smV s2, suV u2, .slice B tl.length d]) ?_ (hfp.mono ?_)
          · simp [slotOf] at h32 h34 h36
            simp [go_sem, h32, h34, h36]
          · rintro e w' ⟨rfl, hb⟩
            exact ⟨_, rfl, _, rfl, rfl, hb, below_next hG hb⟩
        · intro a W hG hR hO hp
          have h37 : slotOf a 37 = .tuple #[vi p, vi q] := hp.1
          refine wp_yields (v := .tuple #[vi p, vi q]) ?_ ⟨_, rfl, rfl, Below.refl _ _, hG⟩
          simp [slotOf] at h37
          simp [execOp, go_sem, h37]
        · intro a W hG hR hO hp
          have h30 : slotOf a 30 = .tuple #[vi p, vi q] := hp.1
          refine wp_yields (v := vi p) ?_ ⟨_, rfl, rfl, Below.refl _ _, hG⟩
          simp [slotOf] at h30
          simp [execOp, go_sem, h30]
        · intro a W hG hR hO hp
          have h30 : slotOf a 30 = .tuple #[vi p, vi q] := hp.1
          refine wp_yields (v := vi q) ?_ ⟨_, rfl, rfl, Below.refl _ _, hG⟩
          simp [slotOf] at h30
          simp [execOp, go_sem, h30]
        · intro a W hG hR hO hp
          have h38 : slotOf a 38 = vi p := hp.1
          refine wp_yields (v := vi p) ?_ ⟨_, rfl, rfl, Below.refl _ _, hG⟩
          simp [slotOf] at h38
          simp [execOp, go_sem, h38]
      · intro wz82 hG hR
        rintro _ rfl _ - _ rfl _ - _ rfl _ - _ rfl _ rfl _ rfl _ rfl _ rfl
        change wpList _ _ _ _ _ _
        simp only [Act.put, List.setIfInBounds_toArray, List.set_cons_zero, List.set_cons_succ, List.drop_succ_cons, List.drop_zero]
        have H83 := Lib.hid (And.intro ((newer_trans H81.out.1 hG)) (And.intro ((H81.out.2.1.below hG H81.out.2.1.lt)) ((H81.out.2.2.below hG H81.out.2.2.lt))))
        clear hG hR HFP H81 x0 x1 u0 u1
        have x0 := H83.out.2.1.at 0 (v := .slice s.a s.cs.length s.c) rfl
        have x1 := H83.out.2.1.at 1 (v := vi s.least) rfl
        go_wp2_with fail
        refine (HRI.out _ H83.out.1).mono ?_
        rintro e w84 ⟨rfl, hb⟩
        have H85 := Lib.hid (And.intro ((newer_trans H83.out.1 hb)) (And.intro ((H83.out.2.1.below hb H83.out.2.1.lt)) ((H83.out.2.2.below hb H83.out.2.2.lt))))
        clear hb HRI H83 x0 x1
        have x0 := H85.out.2.1.at 0 (v := .slice s.a s.cs.length s.c) rfl
        have x1 := H85.out.2.1.at 1 (v := vi s.least) rfl
        have u0 := H85.out.2.2.at 0 (v := vi u.frm) rfl
        have u1 := H85.out.2.2.at 1 (v := .slice u.a u.beds.length u.c) rfl
        go_wp2_with fail
        refine (HFT.out _ H85.out.1).mono ?_
        rintro e w86 ⟨rfl, hb⟩
        have H87 := Lib.hid (And.intro ((newer_trans H85.out.1 hb)) (And.intro ((H85.out.2.1.below hb H85.out.2.1.lt)) ((H85.out.2.2.below hb H85.out.2.2.lt))))
        clear hb HFT H85 x0 x1 u0 u1
        have x0 := H87.out.2.1.at 0 (v := .slice s.a s.cs.length s.c) rfl
        have x1 := H87.out.2.1.at 1 (v := vi s.least) rfl
        have u0 := H87.out.2.2.at 0 (v := vi u.frm) rfl
        have u1 := H87.out.2.2.at 1 (v := .slice u.a u.beds.length u.c) rfl
        go_wp2_with fail
        refine (HFI.out _ H87.out.1).mono ?_
        rintro e w88 ⟨rfl, hb⟩
        have H89 := Lib.hid (And.intro ((newer_trans H87.out.1 hb)) (And.intro ((H87.out.2.1.below hb H87.out.2.1.lt)) ((H87.out.2.2.below hb H87.out.2.2.lt))))
        clear hb HFI H87 x0 x1 u0 u1
        have x0 := H89.out.2.1.at 0 (v := .slice s.a s.cs.length s.c) rfl
        have x1 := H89.out.2.1.at 1 (v := vi s.least) rfl
        have u0 := H89.out.2.2.at 0 (v := vi u.frm) rfl
        have u1 := H89.out.2.2.at 1 (v := .slice u.a u.beds.length u.c) rfl
        go_wp2_with fail
        refine (HRF.out _ H89.out.1).mono ?_
        rintro e w90 ⟨rfl, hb⟩
        have H91 := Lib.hid (And.intro ((newer_trans H89.out.1 hb)) (And.intro ((H89.out.2.1.below hb H89.out.2.1.lt)) ((H89.out.2.2.below hb H89.out.2.2.lt))))
        clear hb HRF H89 x0 x1 u0 u1
        go_wp2_with fail
        refine (wakes_any _).mono ?_
        rintro e w92 ⟨rfl, hb⟩
        have H93 := Lib.hid (And.intro ((newer_trans H91.out.1 hb)) (And.intro ((H91.out.2.1.below hb H91.out.2.1.lt)) ((H91.out.2.2.below hb H91.out.2.2.lt))))
        clear hb H91
        go_wp2_with fail
        go_ret
        exact ⟨rfl, H93.out.1⟩
end
set_option maxRecDepth 100000 in
set_option maxHeartbeats 1000000 in
theorem slopeFactors_lifted (os : Os) (started : os.Started) (H : Type) (enc : TypeId × Value → H) :
    ReturnsInHanded {} Try.checked os 12 .any (Rows.slopeFactorsSpec.pre6 enc Try.prog Try.f12 Rows.slopeFactorsRow.domain false) (Rows.slopeFactorsSpec.post enc Try.prog Try.f12 false true false false) := by
  refine returnsInHanded_of_change (C := Try.checked) Try.own started (by kernel_rfl) Try.func12
    (ChangeSpec.witness6 (enc := enc) (C := Try.checked) false ⟨#[], #[.agg #[.slice none 0 0, .int .i64 0], .agg #[.int .i64 0, .slice none 0 0], .slice none 0 0], []⟩ 8 (by kernel_rfl) (by kernel_rfl) (by kernel_rfl) (by kernel_rfl)) ?_
  intro W base args ds gs before hval0 hW hcnd _
  have hval : ∀ (j : Nat) t v, Try.f12.params[j]? = some t → args[j]? = some v → Value.okWide Try.prog W .any base t v := hval0
  have hW' := hW
  obtain ⟨p, q, hA0, hV, rfl, hfz, hnd⟩ := hW
  have hA : DataW.TrodAll enc Try.prog W 0 (fun _ => true) true Try.f12.params.toList args.toList ds p := hA0
  rw [Try.params12] at hA hval
  obtain ⟨v0, vs0, d0, ds0, p0, q0, hargs, rfl, rfl, h0, r0⟩ := trodAll_cons hA
  obtain ⟨v1, vs1, d1, ds1, p1, q1, rfl, rfl, rfl, h1, r1⟩ := trodAll_cons r0
  obtain ⟨v2, vs2, d2, ds2, p2, q2, rfl, rfl, rfl, h2, r2⟩ := trodAll_cons r1
  obtain ⟨rfl, rfl, rfl⟩ := trodAll_nil r2
  obtain rfl : args = #[v0, v1, v2] := by cases args; simp_all
  obtain ⟨rfl, rfl⟩ := trodVars_none hV
  obtain ⟨c0, rfl, hs0⟩ := okWide_struct Try.underlying24 (hval 0 24 v0 rfl rfl)
  have k0 := h0
  have lt0 : ∀ x ∈ p0, x.block < W.heap.size := by obtain ⟨m, hm⟩ := k0; exact DataW.trod_lt m _ _ _ hm
  obtain ⟨g0, e0, hrow0⟩ : ∃ p : Sm, c0.toList = (smC p).toList ∧ SmOk p W := by
    obtain ⟨fuel, hf⟩ := h0
    exact slope_open hf
  obtain rfl : c0 = smC g0 := Array.toList_inj.1 e0
  obtain ⟨c1, rfl, hs1⟩ := okWide_struct Try.underlying27 (hval 1 27 v1 rfl rfl)
  have k1 := h1
  have lt1 : ∀ x ∈ p1, x.block < W.heap.size := by obtain ⟨m, hm⟩ := k1; exact DataW.trod_lt m _ _ _ hm
  obtain ⟨g1, e1, hrow1⟩ : ∃ p : Su, c1.toList = (suC p).toList ∧ SuOk p W := by
    obtain ⟨fuel, hf⟩ := h1
    exact surface_open hf
  obtain rfl : c1 = suC g1 := Array.toList_inj.1 e1
  obtain ⟨a2, len2, cap2, rfl⟩ := okWide_slice Try.underlying80 (hval 2 80 v2 rfl rfl)
  have k2 := h2
  have lt2 : ∀ x ∈ p2, x.block < W.heap.size := by obtain ⟨m, hm⟩ := k2; exact DataW.trod_lt m _ _ _ hm
  obtain ⟨D2, l2, dp2, e2, hl2, hrow2⟩ : ∃ (D : Option Addr) (l : List Rl) (dp : Nat), (Value.slice a2 len2 cap2).cells.toList = [.slice D l.length dp] ∧ l.length ≤ maxLen ∧ Row rlL 3 W W.heap.size D l := by
    obtain ⟨fuel, hf⟩ := h2
    exact reals_open hf
  simp [Value.cells] at e2
  obtain ⟨rfl, rfl, rfl⟩ := e2
  clear hA0 hval0
  refine (slopeFactors_walk g0 g1 l2 a2 cap2 W hrow0 hrow1 hrow2).mono fun e W' ⟨he, bel⟩ => ?_
  subst he
  exact ⟨_, rfl, _, _, _, [], _, [], hW', trodAll_mk1 (shut_bool Try.underlying4 _), (trodAll_cons_mk (Below.trod Try.laidOut (by kernel_rfl) (of_decide_eq_true (by kernel_rfl)) k0 bel lt0) (trodAll_cons_mk (Below.trod Try.laidOut (by kernel_rfl) (of_decide_eq_true (by kernel_rfl)) k1 bel lt1) (trodAll_cons_mk (Below.trod Try.laidOut (by kernel_rfl) (of_decide_eq_true (by kernel_rfl)) k2 bel lt2) trodAll_mk0))), rfl, bel.frame _, fun h => by cases h⟩

theorem slopeFactors_holds : Rows.SlopeFactorsSaid :=
  OpenClaim.holds_of_wide 12 Try.f12 rfl rfl rfl rfl rfl rfl rfl ⟨rfl, rfl, rfl, rfl, rfl⟩ rfl rfl rfl rfl rfl (by kernel_rfl) Try.func12 (by kernel_rfl)
    (of_decide_eq_true (by kernel_rfl)) (by unfold Func.isWrapper; first | (rw [if_pos (by decide +kernel)]; kernel_rfl) | (rw [if_neg (by decide +kernel)]; exact ⟨rfl, rfl⟩))
    (fun os started H enc _ => slopeFactors_lifted os started H enc)
#print axioms slopeFactors_holds

end Go.Proofs.Ytkenokpobbichaa
