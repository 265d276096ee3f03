/- SlopeFamily returns true: with a lesser Least, or one column more, the least factor is not greater. -/
import Derived.Test.YtkenokpobbichaaAW2
import Derived.Test.YtkenokpobbichaaBD
import Derived.Test.YtkenokpobbichaaY
import Derived.Test.YtkenokpobbichaaAJ
namespace Go.Proofs.Ytkenokpobbichaa
open Go.ChangeShapes Go.WideShapes Go.ChangeAt Go.RowKit Go.Deep

section
open Go.RowKit Go.Shelf Go.Deep
theorem worst_fam {s s' : Sd} (hs : SdOk s) (hs' : SdOk s') (hn : s'.n = s.n) (hc : s.cols.length ≤ s'.cols.length) (hK : s'.K ≤ s.K) (hb : ∀ k b, k < s.cols.length → bedAt s'.cols k b = bedAt s.cols k b) (he : wE s = 0) : wE s' = 0 ∧ wV s' ≤ wV s := by
  have ok := hd_ok hs false
  have ok' := hd_ok hs' false
  rcases worst_of _ (rfl : worstS s = worstS s) with ⟨_, h2, _⟩ | ⟨u, v, h1, h2, h3⟩
  · omega
  · have hh : ∀ k b, k < s.cols.length → hAt false s k b = hAt false s' k b := fun k b hk => by unfold hAt; rw [hb k b hk]
    have hd : ∀ k b, k < s.cols.length → dAt s k b = dAt s' k b := fun k b hk => by unfold dAt; rw [hb k b hk]
    obtain ⟨u', v', h4, h5⟩ := worst_le ok ok' (fun k l hsf hd1 => by
      have e1 := sumH_cut hh l k hsf.2.1
      have e2 := sumH_cut hd l k hsf.2.1
      refine ⟨⟨Nat.le_trans hK hsf.1, Nat.le_trans hsf.2.1 hc, by rw [hn]; exact hsf.2.2⟩, by omega, ?_⟩
      rw [e1, e2]
      exact Int.le_refl _) h1
    have h6 : worstS s' = some (u', v') := h4
    unfold wE wV
    rw [h6]
    unfold wV at h3
    refine ⟨rfl, ?_⟩
    have h7 : worstS s = some (u, v) := h1
    rw [h7]
    exact h5
/-- A column once more, with another drive. -/
def drvBd (d : Int) (b : Bd) : Bd := { b with drive := d }
def drvTo (d : Int) (bs : List Bd) (k : Nat) : List Bd := (bs.take k).map (drvBd d) ++ bs.drop k
theorem drvTo_zero (d : Int) (bs : List Bd) : drvTo d bs 0 = bs := by simp [drvTo]
theorem drvTo_all (d : Int) (bs : List Bd) : drvTo d bs bs.length = bs.map (drvBd d) := by simp [drvTo]
theorem drvTo_get {d : Int} {bs : List Bd} {k : Nat} {b : Bd} (h : bs[k]? = some b) : (drvTo d bs k)[k]? = some b := by
  have hk := (List.getElem?_eq_some_iff.1 h).1
  unfold drvTo
  rw [List.getElem?_append_right (by simp; omega), List.length_map, List.length_take, Nat.min_eq_left (by omega), Nat.sub_self, List.getElem?_drop]
  exact h
theorem drvTo_set {d : Int} {bs : List Bd} {k : Nat} {b : Bd} (h : bs[k]? = some b) : (drvTo d bs k).set k (drvBd d b) = drvTo d bs (k + 1) := by
  have hk := (List.getElem?_eq_some_iff.1 h).1
  unfold drvTo
  rw [List.set_append_right _ _ (by simp; omega), List.length_map, List.length_take, Nat.min_eq_left (by omega), Nat.sub_self, List.drop_eq_getElem_cons hk, List.set_cons_zero, List.take_add_one, h]
  simp
theorem flat_set0 : ∀ (l : List Bd) (k : Nat) (b : Bd) (v : Int), l[k]? = some b → (l.flatMap bdL).set (k * 8) (vi v) = (l.set k (drvBd v b)).flatMap bdL
  | [], k, b, v, h => by simp at h
  | x :: l, 0, b, v, h => by
    have e : x = b := by simpa using h
    subst e
    simp [List.flatMap_cons, bdL, drvBd]
  | x :: l, k + 1, b, v, h => by
    have ih := flat_set0 l k b v (by simpa using h)
    rw [List.flatMap_cons, List.set_cons_succ, List.flatMap_cons, ← ih, List.set_append_right _ _ (by simp; omega)]
    congr 2
    simp
    omega
theorem long_ok {s : Sd} (hs : SdOk s) (h11 : s.cols.length ≤ 11) {last : List Bd} (hl : last ∈ s.cols) {d : Int} (d0 : -100000 ≤ d) (d1 : d ≤ 100000) : SdOk ⟨s.cols ++ [last.map (drvBd d)], s.least⟩ ∧ Sd.n ⟨s.cols ++ [last.map (drvBd d)], s.least⟩ = s.n := by
  have hc := hs.cols
  have hn : Sd.n ⟨s.cols ++ [last.map (drvBd d)], s.least⟩ = s.n := by
    unfold Sd.n
    cases hcs : s.cols with
    | nil => rw [hcs] at hc; simp at hc
    | cons x t => rfl
  refine ⟨⟨?_, by rw [hn]; exact hs.beds, hs.least, fun l hm => ?_, fun l hm b hb => ?_⟩, hn⟩
  · show 1 ≤ (s.cols ++ [last.map (drvBd d)]).length ∧ (s.cols ++ [last.map (drvBd d)]).length ≤ 12
    rw [List.length_append, List.length_singleton]
    omega
  · rw [hn]
    rcases List.mem_append.1 hm with hm | hm
    · exact hs.len l hm
    · obtain rfl := List.mem_singleton.1 hm
      rw [List.length_map]
      exact hs.len last hl
  · rcases List.mem_append.1 hm with hm | hm
    · exact hs.bd l hm b hb
    · obtain rfl := List.mem_singleton.1 hm
      obtain ⟨x, hx, rfl⟩ := List.mem_map.1 hb
      have h1 := hs.bd last hl x hx
      unfold bdB at h1 ⊢
      simp only [Bool.and_eq_true] at h1 ⊢
      exact ⟨⟨⟨⟨(by show inB d (-100000) 100000 = true; simp only [inB, Bool.and_eq_true, decide_eq_true_eq]; omega), h1.1.1.1.2⟩, h1.1.1.2⟩, h1.1.2⟩, h1.2⟩
theorem SmOwn.push {w W W' : World} {s : Sm} {y : Cl} {g cp qb : Nat} {cs : Array Value} (h : SmOwn w.heap.size s W) (hn : newer w W) (hy : y.a = some ⟨g, 0, none⟩ ∧ y.cp = cp) (hc : W.ownsRow w.heap.size 69 8 (.slice (some ⟨g, 0, none⟩) y.beds.length cp) y.beds.length (y.beds.flatMap bdL)) (hq : Whole W qb 24 cs) (hlo : w.heap.size ≤ qb)
    {g2 c2 : Nat} (hown : W'.ownsRow w.heap.size 66 1 (.slice (some ⟨g2, 0, none⟩) (s.cs.length + 1) c2) (s.cs.length + 1) (s.cs.flatMap clL ++ [clV y])) (hw : (s.a = some ⟨g2, 0, none⟩ ∧ c2 = s.c ∧ W.grownBy W' (some g2)) ∨ (W.heap.size ≤ g2 ∧ W.grownBy W' none)) :
    Whole W' qb 24 cs ∧ ∀ v, newer w (W'.setCell ⟨qb, 0, none⟩ v) ∧ SmOk ⟨s.cs ++ [y], some ⟨g2, 0, none⟩, c2, s.least⟩ (W'.setCell ⟨qb, 0, none⟩ v) ∧ Whole (W'.setCell ⟨qb, 0, none⟩ v) qb 24 (cs.setIfInBounds 0 v) ∧ ∀ (b : Nat) (t : TypeId) (ct : Array Value), Whole W b t ct → t ≠ 66 → b ≠ qb → Whole (W'.setCell ⟨qb, 0, none⟩ v) b t ct := by
  have hgr : W.grownBy W' (Value.slice s.a s.cs.length s.c).ownBlock := by
    rcases hw with ⟨h1, _, h3⟩ | ⟨_, h3⟩
    · rw [h1]; exact h3
    · exact h3.but _
  have k3 := hq.grown hgr (fun e => own_ne h.own hq (by decide) e.symm)
  have k4 : ∀ (b n c : Nat) (xs : List Value), W.ownsRow w.heap.size 69 8 (.slice (some ⟨b, 0, none⟩) n c) n xs → W'.ownsRow w.heap.size 69 8 (.slice (some ⟨b, 0, none⟩) n c) n xs := fun b n c xs h2 => h2.kept hgr (.inr (fun e => own_own_ne h2 h.own (by decide) b rfl (e ▸ rfl)))
  have hnw : newer w W' := by
    rcases hw with ⟨h1, _, h3⟩ | ⟨_, h3⟩
    · exact Below.trans hn (below_of_grown h3 (own_ge h.own g2 (by rw [h1]; rfl)) hn.size)
    · exact newer_trans hn (below_grown h3 (fun q e => by cases e) (Nat.le_refl _))
  refine ⟨k3, fun v => ⟨hnw.setCell (p := ⟨qb, 0, none⟩) hlo v, ⟨?_, fun z hz => ?_⟩, k3.set 0 v, fun b t ct hb ht hne => (hb.grown hgr (fun e => own_ne h.own hb (fun e2 => ht e2.symm) e.symm)).far (p := ⟨qb, 0, none⟩) hne v⟩⟩
  · have h5 : (W'.setCell ⟨qb, 0, none⟩ v).ownsRow w.heap.size 66 1 (.slice (some ⟨g2, 0, none⟩) (s.cs ++ [y]).length c2) (s.cs ++ [y]).length ((s.cs ++ [y]).flatMap clL) := by
      rw [List.length_append, List.flatMap_append]
      exact own_set hown (own_ne hown k3 (by decide)) v
    exact row_of_own (by omega) (fun _ => rfl) h5
  · rcases List.mem_append.1 hz with hz | hz
    · obtain ⟨g', h1, h2⟩ := h.col z hz
      have h3 := k4 _ _ _ _ h2
      rw [h1]
      exact row_of_own (by omega) (fun _ => rfl) (own_set h3 (own_ne h3 k3 (by decide)) v)
    · obtain rfl := List.mem_singleton.1 hz
      have h3 := k4 _ _ _ _ hc
      rw [hy.1]
      exact row_of_own (enc := bdL) (size := 8) (by omega) (fun _ => rfl) (own_set h3 (own_ne h3 k3 (by decide)) v)
theorem SmOwn.more {B B' : Nat} {s : Sm} {W : World} (h : SmOwn B s W) (hb : B' ≤ B) : SmOwn B' s W := ⟨own_more h.own hb, fun x hx => by
  obtain ⟨g, h1, h2⟩ := h.col x hx
  exact ⟨g, h1, own_more h2 hb⟩, h.ap⟩
set_option maxRecDepth 100000 in
set_option maxHeartbeats 4000000 in
theorem slopeFamily_walk (s : Sm) (a1 : Int) (w : World) (h10 : -32768 ≤ a1) (h12 : a1 ≤ 32767) (hok : SmOk s w) : Calls Try.prog 10 #[smV s, .int .i16 a1] w fun e w' => e = .returned (.bool true) ∧ newer w w' := by
  have hnw := newer_allocH w (.cells (smC s) 24)
  have hxb := Whole.made w 24 (smC s)
  have H1 := Lib.hid (And.intro (hnw) (hxb))
  clear hnw hxb
  have HOK := Lib.hid hok
  have HRD := Lib.hid (ready_any s _ (hok.next H1.out.1))
  clear hok
  have x0 := H1.out.2.at 0 (v := .slice s.a s.cs.length s.c) rfl
  have x1 := H1.out.2.at 1 (v := vi s.least) rfl
  cases hr : readyB s.sd with
  | false =>
    rw [hr] at HRD
    clear hr
    go_enter Try.func10, Try.ntmps10
    go_wp2_with fail
    refine (HRD.out).mono ?_
    rintro e w2 ⟨rfl, hb⟩
    have H3 := Lib.hid (And.intro ((newer_trans H1.out.1 hb)) ((H1.out.2.below hb H1.out.2.lt)))
    clear hb HRD H1 x0 x1
    go_wp2_with fail
    refine (wakes_any _).mono ?_
    rintro e w4 ⟨rfl, hb⟩
    have H5 := Lib.hid (And.intro ((newer_trans H3.out.1 hb)) ((H3.out.2.below hb H3.out.2.lt)))
    clear hb H3
    go_wp2_with fail
    go_ret
    exact ⟨rfl, H5.out.1⟩
  | true =>
    rw [hr] at HRD
    obtain ⟨hs, few, hle⟩ := ready_ok hr
    by_cases h11 : 11 < s.cs.length
    · have h11i : (11 : Int) < s.cs.length := by omega
      clear hr hs few hle
      go_enter Try.func10, Try.ntmps10
      go_wp2_with fail
      refine (HRD.out).mono ?_
      rintro e w6 ⟨rfl, hb⟩
      have H7 := Lib.hid (And.intro ((newer_trans H1.out.1 hb)) ((H1.out.2.below hb H1.out.2.lt)))
      clear hb HRD H1 x0 x1
      have x0 := H7.out.2.at 0 (v := .slice s.a s.cs.length s.c) rfl
      have x1 := H7.out.2.at 1 (v := vi s.least) rfl
      go_wp2_with fail
      refine (wakes_any _).mono ?_
      rintro e w8 ⟨rfl, hb⟩
      have H9 := Lib.hid (And.intro ((newer_trans H7.out.1 hb)) ((H7.out.2.below hb H7.out.2.lt)))
      clear hb H7 x0 x1
      go_wp2_with fail
      go_ret
      exact ⟨rfl, H9.out.1⟩
    · have h11i : ¬ (11 : Int) < s.cs.length := by omega
      have HSD := Lib.hid hs
      have hls := hs.least
      have hlse : s.sd.least = s.least := rfl
      rw [hlse] at hls
      have hcl := hs.cols
      rw [sd_len] at hcl
      have HSL : Hid (∀ W, newer w W → Calls Try.prog 19 #[smV s] W fun e w' => ∃ s2 : Sm, e = .returned (smV s2) ∧ (∀ W2, newer w' W2 → Calls Try.prog 25 #[smV s2] W2 fun e w3 => ∃ (a : Int) (A : Option Addr) (n c : Nat), e = .returned (.tuple #[.agg #[vi a, .slice A n c], vi (wV s.sd), vi (wE s.sd)]) ∧ newer W2 w3) ∧ newer W w') := Lib.hid (fun W hW => slope_chain s _ W (HOK.out.next hW) rfl hs)
      have HWT : Hid (∀ W, newer w W → Calls Try.prog 39 #[smV s, vi 0] W fun e w' => ∃ s2 : Sm, e = .returned (smV s2) ∧ s2.sd = s.sd ∧ SmOwn W.heap.size s2 w' ∧ newer W w') := Lib.hid (fun W hW => by
        refine (wetterO_any s 0 W (HOK.out.next hW) hs (by omega) (by omega)).mono ?_
        rintro e w' ⟨s2, h1, h2, _, h3, h4⟩
        exact ⟨s2, h1, by rw [h2, wet_zero hs], h3, h4⟩)
      obtain ⟨K1, hK1⟩ : ∃ K1, K1 = mxI 1 (s.least - 1) := ⟨_, rfl⟩
      have hKb : 1 ≤ K1 ∧ K1 ≤ s.least := by rw [hK1]; unfold mxI; split <;> omega
      have hsx : SdOk ⟨s.sd.cols, K1⟩ := ⟨hs.cols, hs.beds, by show 1 ≤ K1 ∧ K1 ≤ 4; omega, hs.len, hs.bd⟩
      have hfx : wE s.sd = 0 → wE ⟨s.sd.cols, K1⟩ = 0 ∧ wV ⟨s.sd.cols, K1⟩ ≤ wV s.sd := fun he => worst_fam hs hsx rfl (Nat.le_refl _) (by show K1.toNat ≤ s.sd.least.toNat; rw [hlse]; omega) (fun _ _ _ => rfl) he
      obtain ⟨e0, he0⟩ : ∃ e, e = wE s.sd := ⟨_, rfl⟩
      obtain ⟨v0, hv0⟩ : ∃ v, v = wV s.sd := ⟨_, rfl⟩
      have h0 := wE_is s.sd
      rw [← he0] at h0
      rw [← he0, ← hv0] at HSL hfx
      have HEV := Lib.hid (And.intro he0 hv0)
      have HFX := Lib.hid (And.intro hsx hfx)
      have HK1 := Lib.hid hK1
      clear hK1 hKb hr few hle hs he0 hv0 hlse hsx hfx
      go_enter Try.func10, Try.ntmps10
      go_wp2_with fail
      refine (HRD.out).mono ?_
      rintro e w10 ⟨rfl, hb⟩
      have H11 := Lib.hid (And.intro ((newer_trans H1.out.1 hb)) ((H1.out.2.below hb H1.out.2.lt)))
      clear hb HRD H1 x0 x1
      have x0 := H11.out.2.at 0 (v := .slice s.a s.cs.length s.c) rfl
      have x1 := H11.out.2.at 1 (v := vi s.least) rfl
      go_wp2_with fail
      refine (HSL.out _ H11.out.1).mono ?_
      rintro e w12 ⟨s4, rfl, hc4, hb⟩
      have HC4 := Lib.hid (hc4 _ (newer_refl _))
      clear hc4
      have H13 := Lib.hid (And.intro ((newer_trans H11.out.1 hb)) ((H11.out.2.below hb H11.out.2.lt)))
      clear hb H11 x0 x1
      go_wp2_with fail
      refine (HC4.out).mono ?_
      rintro e w14 ⟨a_, A_, n_, c_, rfl, hb⟩
      have H15 := Lib.hid (And.intro ((newer_trans H13.out.1 hb)) ((H13.out.2.below hb H13.out.2.lt)))
      clear hb HC4 H13
      have e6 := newer_allocH w14 (.cells #[vi a_, .slice A_ n_ c_] 39)
      have H16 := Lib.hid (And.intro ((newer_trans H15.out.1 e6)) ((H15.out.2.below e6 H15.out.2.lt)))
      clear e6 H15
      rcases h0 with rfl | rfl
      · obtain ⟨hfx1, hfx2⟩ := HFX.out.2 rfl
        obtain ⟨v1, hv1⟩ : ∃ v, v = wV ⟨s.sd.cols, K1⟩ := ⟨_, rfl⟩
        rw [← hv1] at hfx2
        have HSX : Hid (∀ (s3 : Sm) W, s3.sd = ⟨s.sd.cols, K1⟩ → SmOk s3 W → Calls Try.prog 19 #[smV s3] W fun e w' => ∃ s2 : Sm, e = .returned (smV s2) ∧ (∀ W2, newer w' W2 → Calls Try.prog 25 #[smV s2] W2 fun e w3 => ∃ (a : Int) (A : Option Addr) (n c : Nat), e = .returned (.tuple #[.agg #[vi a, .slice A n c], vi v1, vi 0]) ∧ newer W2 w3) ∧ newer W w') := Lib.hid (fun s3 W h1 h2 => by
          have h3 := slope_chain s3 _ W h2 h1 HFX.out.1
          rw [hfx1, ← hv1] at h3
          exact h3)
        clear hfx1 hv1
        have x0 := H16.out.2.at 0 (v := .slice s.a s.cs.length s.c) rfl
        have x1 := H16.out.2.at 1 (v := vi s.least) rfl
        go_wp2_with fail
        refine (HWT.out _ H16.out.1).mono ?_
        rintro e w17 ⟨s3, rfl, hd3, ho3, hb⟩
        have H18 := Lib.hid (And.intro ((newer_trans H16.out.1 hb)) (And.intro ((H16.out.2.below hb H16.out.2.lt)) (ho3.ok)))
        clear hb ho3 H16 x0 x1
        have HD3 := Lib.hid hd3
        have hnA := newer_allocH w17 (.cells (smC s3) 24)
        have HA := Lib.hid (And.intro hnA (Whole.made w17 24 (smC s3)))
        clear hd3 hnA
        go_upto_region 7 with fail
        go_cut [] from 44 to 48 (fun wx => newer w wx ∧ Whole wx w.heap.size 24 (smC s) ∧ SmOk s3 wx ∧ Whole wx w17.heap.size 24 #[.slice s3.a s3.cs.length s3.c, vi K1])
        case first =>
          have x1 := (H18.out.2.1.below HA.out.1 H18.out.2.1.lt).at 1 (v := vi s.least) rfl
          have q1 := HA.out.2.at 1 (v := vi s3.least) rfl
          have qf := HA.out.2.free 1
          obtain ⟨hl1, hl4⟩ := hls
          have HF : Hid (∀ v, v = K1 → newer w (w17.alloc (.cells #[.slice s3.a s3.cs.length s3.c, vi v] 24)) ∧ Whole (w17.alloc (.cells #[.slice s3.a s3.cs.length s3.c, vi v] 24)) w.heap.size 24 (smC s) ∧ SmOk s3 (w17.alloc (.cells #[.slice s3.a s3.cs.length s3.c, vi v] 24)) ∧ Whole (w17.alloc (.cells #[.slice s3.a s3.cs.length s3.c, vi v] 24)) w17.heap.size 24 #[.slice s3.a s3.cs.length s3.c, vi K1]) := Lib.hid (fun v hv => by
            have e7 := newer_allocH w17 (.cells #[.slice s3.a s3.cs.length s3.c, vi v] 24)
            have h4 := Whole.made w17 24 #[.slice s3.a s3.cs.length s3.c, vi v]
            rw [hv] at h4 e7 ⊢
            exact ⟨newer_trans H18.out.1 e7, H18.out.2.1.below e7 H18.out.2.1.lt, H18.out.2.2.next e7, h4⟩)
          by_cases hmx : 1 < s.least - 1
          · have HV := Lib.hid (HF.out (s.least - 1) (by rw [HK1.out]; unfold mxI; split <;> omega))
            go_wp2_with fail
            go_meet
            exact HV.out
          · have HV := Lib.hid (HF.out 1 (by rw [HK1.out]; unfold mxI; split <;> omega))
            go_wp2_with fail
            go_meet
            exact HV.out
        case rest =>
          obtain ⟨g1, g2, g3, g4⟩ := hcut
          obtain ⟨qb, hqb⟩ : ∃ q, q = w17.heap.size := ⟨_, rfl⟩
          rw [← hqb] at g4 ⊢
          clear hqb HA
          have H19 := Lib.hid (And.intro (g1) (And.intro (g2) (And.intro (g3) (g4))))
          clear g1 g2 g3 g4 H18
          have q0 := H19.out.2.2.2.at 0 (v := .slice s3.a s3.cs.length s3.c) rfl
          have q1 := H19.out.2.2.2.at 1 (v := vi K1) rfl
          go_wp2_with fail
          refine (HSX.out ⟨s3.cs, s3.a, s3.c, K1⟩ wc (by have h := congrArg Sd.cols HD3.out; show (⟨s3.cs.map (fun x => x.beds), K1⟩ : Sd) = _; rw [show s3.cs.map (fun x => x.beds) = s.sd.cols from h]) ⟨H19.out.2.2.1.cs, H19.out.2.2.1.bd⟩).mono ?_
          rintro e w30 ⟨s4, rfl, hc4, hb⟩
          have HC4 := Lib.hid (hc4 _ (newer_refl _))
          clear hc4
          have H20 := Lib.hid (And.intro ((newer_trans H19.out.1 hb)) ((H19.out.2.1.below hb H19.out.2.1.lt)))
          clear hb HSX HD3 H19 q0 q1
          go_wp2_with fail
          refine (HC4.out).mono ?_
          rintro e w21 ⟨a_, A_, n_, c_, rfl, hb⟩
          have H22 := Lib.hid (And.intro ((newer_trans H20.out.1 hb)) ((H20.out.2.below hb H20.out.2.lt)))
          clear hb HC4 H20
          have e6 := newer_allocH w21 (.cells #[vi a_, .slice A_ n_ c_] 39)
          have H23 := Lib.hid (And.intro ((newer_trans H22.out.1 e6)) ((H22.out.2.below e6 H22.out.2.lt)))
          clear e6 H22
          have x0 := H23.out.2.at 0 (v := .slice s.a s.cs.length s.c) rfl
          have x1 := H23.out.2.at 1 (v := vi s.least) rfl
          go_wp2_with fail
          refine (HWT.out _ H23.out.1).mono ?_
          rintro e w24 ⟨s5, rfl, hd5, ho5, hb⟩
          have H25 := Lib.hid (And.intro ((newer_trans H23.out.1 hb)) (ho5.more H23.out.1.size))
          clear hb ho5 HWT H23 x0 x1
          have hl5 : s5.cs.length = s.cs.length := by have h := congrArg (fun d => d.cols.length) hd5; rw [sd_len, sd_len] at h; exact h
          have HD5 := Lib.hid (And.intro hd5 hl5)
          clear hd5 hl5
          have hnA := newer_allocH w24 (.cells (smC s5) 24)
          have hwA := Whole.made w24 24 (smC s5)
          go_upto_region 10 with fail
          have H26 := Lib.hid (And.intro ((newer_trans H25.out.1 hnA)) (And.intro ((H25.out.2.next hnA)) (And.intro (hwA) (H25.out.1.size))))
          clear hnA hwA H25
          refine genQ (fun X => newer w X ∧ SmOwn w.heap.size s5 X ∧ Whole X w24.heap.size 24 (smC s5) ∧ w.heap.size ≤ w24.heap.size) ⟨H26.out.1, H26.out.2.1, H26.out.2.2.1, H26.out.2.2.2⟩ ?_
          rintro w27 ⟨g0_, g1_, g2_, g3_⟩
          have H28 := Lib.hid (And.intro (g0_) (And.intro (g1_) (And.intro (g2_) (g3_))))
          clear g0_ g1_ g2_ g3_ H26
          obtain ⟨q2, hq2⟩ : ∃ q, q = w24.heap.size := ⟨_, rfl⟩
          rw [← hq2] at H28 ⊢
          clear hq2
          have HLW := Lib.hid H28.out.1.size
          obtain ⟨i5, hi5⟩ : ∃ i5, i5 = s5.cs.length - 1 := ⟨_, rfl⟩
          have hl5 := HD5.out.2
          obtain ⟨x, hx⟩ := get_of_lt (l := s5.cs) (k := i5) (by omega)
          obtain ⟨sa, so_, ea, _, cx⟩ := rowC H28.out.2.1.ok.cs hx
          have HEA := Lib.hid ea
          have hxm : x.beds ∈ s.sd.cols := by rw [← HD5.out.1]; exact List.mem_map.2 ⟨x, List.mem_of_getElem? hx, rfl⟩
          have hxn : x.beds.length ≤ 5 ∧ 1 ≤ x.beds.length := by have h1 := HSD.out.len _ hxm; have h2 := HSD.out.beds; omega
          have HX := Lib.hid (And.intro hxm (HSD.out.bd _ hxm))
          have e64 : IntKind.i64.wrap ((s5.cs.length : Int) - 1) = i5 := by rw [show (i5 : Int) = (s5.cs.length : Int) - 1 by omega]; exact IntWalk.i64_in _ (by omega)
          have hii : (i5 : Int) < s5.cs.length := by omega
          have hcne : ¬ (s5.cs = []) := by intro h; rw [h] at hx; simp at hx
          have hn0 := newer_allocH w27 (.cells #[] 69)
          have z0 := (H28.out.2.2.1.below hn0 H28.out.2.2.1.lt).at 0 (v := .slice s5.a s5.cs.length s5.c) rfl
          rw [ea] at z0
          have cxb := keep_cell cx hn0
          have HRO := Lib.hid (row_alloc (H28.out.2.1.ok.bd x (List.mem_of_getElem? hx)) (.cells #[] 69))
          have HWN := Lib.hid (Whole.made w27 69 #[])
          obtain ⟨i9, hj0, hj1, hj2, hj3⟩ := info_parts info_bd69q
          have HI9 := Lib.hid (And.intro hj0 (And.intro hj1 (And.intro hj2 hj3)))
          obtain ⟨i0, hi0, hz0, hz1, hz2⟩ := info_parts info_col66q
          have HI := Lib.hid (And.intro hi0 (And.intro hz0 (And.intro hz1 hz2)))
          clear hj0 hj1 hj2 hj3 hi0 hz0 hz1 hz2 hn0 cx ea hx hxm hi5 hl5
          go_wp2_with (at_builtin; go_loud ((refine wpList_plain rfl fun K hK => wp_append_owncopy (enc := bdL) (size := 8) w27.heap.size (.tmp 58) (.tmp 66) 66 69 i9 (.agg #[vi 0, vi 0, vi 0, vi 0, vi 0, vi 0, vi 0, vi 0]) 64 Try.underlying66 HI9.out.1 HI9.out.2.1 HI9.out.2.2.1 HI9.out.2.2.2 rfl (by omega) (by omega) (fun _ => rfl) rfl w27.heap.size rfl (Nat.le_refl _) HWN.out x.beds x.a x.cp rfl (by omega) HRO.out (by rw [World.size_alloc]; omega) fun B cp w3 hB hb hc => hK _ _ ?_); have HB := Lib.hid (And.intro hB (newer_trans (newer_allocH w27 (.cells #[] 69)) hb)); clear hB hb hc))
          obtain ⟨g, rfl, _⟩ := own_some HB.out.1 (by omega)
          have hgs := own_ge HB.out.1 g rfl
          have HGS := Lib.hid hgs
          clear z0 cxb HRO HWN hgs
          have ea1 : IntKind.i64.wrap a1 = a1 := IntWalk.i64_in _ (by omega)
          go_loopw [14] (fun s14 wr => ∃ k : Nat, k ≤ x.beds.length ∧ s14 = vi k ∧ newer w27 wr ∧ wr.ownsRow w27.heap.size 69 8 (.slice (some ⟨g, 0, none⟩) x.beds.length cp) x.beds.length ((drvTo a1 x.beds k).flatMap bdL)) (fun s14 _ => x.beds.length - (intOf s14).toNat)
          case atStart => exact ⟨0, Nat.zero_le _, rfl, HB.out.2, by rw [drvTo_zero]; exact HB.out.1⟩
          case round =>
            obtain ⟨k, hk, rfl, q1, q2_⟩ := hrel
            clear HB
            by_cases hlt2 : k < x.beds.length
            · obtain ⟨bd, hbd⟩ := get_of_lt hlt2
              obtain ⟨b2, o2, e2, _, d0, _, _, _, _, _, _, _⟩ := row8 (row_of_own (enc := bdL) (size := 8) (by omega) (fun _ => rfl) q2_) (drvTo_get hbd)
              obtain ⟨rfl, rfl⟩ : g = b2 ∧ 0 = o2 := by simpa using e2
              simp only [Nat.zero_add] at d0
              obtain ⟨cs, hcs⟩ := own_cells q2_
              have f0 := hcs.free (k * 8)
              have hki : (k : Int) < x.beds.length := by omega
              obtain ⟨wi, rfl⟩ : ∃ wi : World, wi = wr := ⟨_, rfl⟩
              have HE : Hid (newer w27 (wi.setCell ⟨g, k * 8, none⟩ (vi a1)) ∧ (wi.setCell ⟨g, k * 8, none⟩ (vi a1)).ownsRow w27.heap.size 69 8 (.slice (some ⟨g, 0, none⟩) x.beds.length cp) x.beds.length ((drvTo a1 x.beds (k + 1)).flatMap bdL)) := Lib.hid (by
                refine ⟨q1.setCell (p := ⟨g, k * 8, none⟩) HGS.out _, ?_⟩
                rw [← drvTo_set hbd, ← flat_set0 _ _ _ _ (drvTo_get hbd)]
                exact own_setAt q2_)
              clear q1 q2_ e2 hcs hbd
              go_wp2_with fail
              refine ⟨⟨k + 1, by omega, rfl, HE.out.1, HE.out.2⟩, ?_⟩
              simp [intOf]
              omega
            · obtain rfl : k = x.beds.length := by omega
              rw [drvTo_all] at q2_
              obtain ⟨y, hy⟩ : ∃ y : Cl, y = ⟨x.beds.map (drvBd a1), some ⟨g, 0, none⟩, cp⟩ := ⟨_, rfl⟩
              have hyl : y.beds.length = x.beds.length := by rw [hy]; simp
              have hyb : y.beds = x.beds.map (drvBd a1) := by rw [hy]
              have hcy : clV y = .slice (some ⟨g, 0, none⟩) x.beds.length cp := by rw [hy]; simp
              have H29 := Lib.hid (And.intro ((newer_trans H28.out.1 q1)) (And.intro ((H28.out.2.1.next q1)) (And.intro ((H28.out.2.2.1.below q1 H28.out.2.2.1.lt)) (H28.out.2.2.2))))
              clear q1
              have hn1 := newer_allocH wr (.cells #[.slice (some ⟨g, 0, none⟩) x.beds.length cp] 66)
              have HPU := Lib.hid (fun g2 c2 w5 => (H29.out.2.1.next hn1).push (W' := w5) (newer_trans H29.out.1 hn1) (y := y) (g := g) (cp := cp) (by rw [hy]; exact ⟨rfl, rfl⟩) (by rw [hyl, hyb]; exact own_more (own_below q2_ hn1) HLW.out) (H29.out.2.2.1.below hn1 H29.out.2.2.1.lt) H29.out.2.2.2 (g2 := g2) (c2 := c2))
              rw [hcy] at HPU
              have HSO := Lib.hid (H29.out.2.1.next hn1)
              have HNW := Lib.hid (newer_trans H29.out.1 hn1)
              have o0 := H29.out.2.2.1.at 0 (v := .slice s5.a s5.cs.length s5.c) rfl
              have HCW : Hid ((wr.alloc (.cells #[.slice (some ⟨g, 0, none⟩) x.beds.length cp] 66)).cell? ⟨wr.heap.size, 0, none⟩ = some (.slice (some ⟨g, 0, none⟩) x.beds.length cp)) := Lib.hid ((Whole.made wr 66 #[.slice (some ⟨g, 0, none⟩) x.beds.length cp]).at 0 rfl)
              have HLN := Lib.hid (show s5.cs.length ≤ 12 by have := HD5.out.2; omega)
              have HS6 : Hid (∀ (g2 c2 : Nat), Sm.sd ⟨s5.cs ++ [y], some ⟨g2, 0, none⟩, c2, s5.least⟩ = ⟨s.sd.cols ++ [x.beds.map (drvBd a1)], s.sd.least⟩) := Lib.hid (fun g2 c2 => by
                have h1 := congrArg Sd.cols HD5.out.1
                have h2 := congrArg Sd.least HD5.out.1
                show (⟨(s5.cs ++ [y]).map (fun x => x.beds), s5.least⟩ : Sd) = _
                rw [List.map_append, show s5.cs.map (fun x => x.beds) = s.sd.cols from h1, show s5.least = s.sd.least from h2, List.map_singleton, hyb])
              have hlg := long_ok HSD.out (by rw [sd_len]; omega) HX.out.1 (d := a1) (by omega) (by omega)
              have hwl := worst_fam HSD.out hlg.1 hlg.2 (by show s.sd.cols.length ≤ (s.sd.cols ++ [x.beds.map (drvBd a1)]).length; rw [List.length_append]; omega) (Nat.le_refl _) (fun k b hk => by show bedAt (s.sd.cols ++ [x.beds.map (drvBd a1)]) k b = bedAt s.sd.cols k b; unfold bedAt; rw [List.getElem?_append_left hk]) HEV.out.1.symm
              obtain ⟨d6, hd6⟩ : ∃ d : Sd, d = ⟨s.sd.cols ++ [x.beds.map (drvBd a1)], s.sd.least⟩ := ⟨_, rfl⟩
              rw [← hd6] at hlg hwl HS6
              rw [← HEV.out.2] at hwl
              obtain ⟨hw1, hw2⟩ := hwl
              obtain ⟨v6, hv6⟩ : ∃ v, v = wV d6 := ⟨_, rfl⟩
              rw [← hv6] at hw2
              have HC6 : Hid (∀ (s6 : Sm) W, s6.sd = d6 → SmOk s6 W → Calls Try.prog 19 #[smV s6] W fun e w' => ∃ s2 : Sm, e = .returned (smV s2) ∧ (∀ W2, newer w' W2 → Calls Try.prog 25 #[smV s2] W2 fun e w3 => ∃ (a : Int) (A : Option Addr) (n c : Nat), e = .returned (.tuple #[.agg #[vi a, .slice A n c], vi v6, vi 0]) ∧ newer W2 w3) ∧ newer W w') := Lib.hid (fun s6 W h1 h2 => by
                have h3 := slope_chain s6 _ W h2 h1 hlg.1
                rw [hw1, ← hv6] at h3
                exact h3)
              clear q2_ hyl hyb hn1 hcy hy hlg hd6 hw1 hv6
              go_wp2_with (at_builtin; go_loud ((refine wpList_plain rfl fun _ hK => wp_append_one (.tmp 81) (.tmp 83) 22 rfl w.heap.size 66 i0 (.slice none 0 0) 24 Try.underlying22 HI.out.1 HI.out.2.1 HI.out.2.2.1 HI.out.2.2.2 rfl s5.a s5.cs.length s5.c (s5.cs.flatMap clL) rfl HSO.out.own ⟨wr.heap.size, 0, none⟩ 1 (.slice (some ⟨g, 0, none⟩) x.beds.length cp) rfl HCW.out rfl (by have := HLN.out; unfold maxLen; omega) (by have := HLN.out; omega) HNW.out.size fun g2 c2 w5 hown hwh => hK _ _ ?_); have HE := Lib.hid (HPU.out g2 c2 w5 hown hwh); have p0 := HE.out.1.at 0 (v := .slice s5.a s5.cs.length s5.c) rfl; have pf0 := HE.out.1.free 0; have HE2 := Lib.hid (HE.out.2 (.slice (some ⟨g2, 0, none⟩) (s5.cs.length + 1) c2)); have z0 := HE2.out.2.2.1.at 0 (v := .slice (some ⟨g2, 0, none⟩) (s5.cs.length + 1) c2) rfl; have z1 := HE2.out.2.2.1.at 1 (v := vi s5.least) rfl; clear hown hwh))
              have hln6 : (s5.cs ++ [y]).length = s5.cs.length + 1 := by rw [List.length_append]; rfl
              have HC7 := Lib.hid (HC6.out ⟨s5.cs ++ [y], some ⟨g2, 0, none⟩, c2, s5.least⟩ _ (HS6.out g2 c2) HE2.out.2.1)
              simp only [smV, smC, hln6] at HC7
              refine (HC7.out).mono ?_
              rintro e w40 ⟨s4, rfl, hc4, hb⟩
              have HC4 := Lib.hid (hc4 _ (newer_refl _))
              have HN4 := Lib.hid (newer_trans HE2.out.1 hb)
              clear hc4 hb p0 pf0 z0 z1 o0 HPU HE HE2 HC7 hln6 HC6 HS6
              go_wp2_with fail
              refine (HC4.out).mono ?_
              rintro e w41 ⟨a_, A_, n_, c_, rfl, hb⟩
              have e6 := newer_allocH w41 (.cells #[vi a_, .slice A_ n_ c_] 39)
              have HN5 := Lib.hid (newer_trans HN4.out (newer_trans hb e6))
              clear hb e6 HC4 HN4
              go_wp2_with fail
              refine (wakes_any _).mono ?_
              rintro e wk ⟨rfl, hb⟩
              have HK := Lib.hid (newer_trans HN5.out hb)
              clear hb
              go_wp2_with fail
              go_ret
              exact ⟨rfl, HK.out⟩
      · go_wp2_with fail
        refine (wakes_any _).mono ?_
        rintro e w30 ⟨rfl, hb⟩
        have H31 := Lib.hid (And.intro ((newer_trans H16.out.1 hb)) ((H16.out.2.below hb H16.out.2.lt)))
        clear hb H16
        go_wp2_with fail
        go_ret
        exact ⟨rfl, H31.out.1⟩
end
set_option maxRecDepth 100000 in
set_option maxHeartbeats 1000000 in
theorem slopeFamily_lifted (os : Os) (started : os.Started) (H : Type) (enc : TypeId × Value → H) :
    ReturnsInHanded {} Try.checked os 10 .any (Rows.slopeFamilySpec.pre6 enc Try.prog Try.f10 Rows.slopeFamilyRow.domain false) (Rows.slopeFamilySpec.post enc Try.prog Try.f10 false true false false) := by
  refine returnsInHanded_of_change (C := Try.checked) Try.own started (by kernel_rfl) Try.func10
    (ChangeSpec.witness6 (enc := enc) (C := Try.checked) false ⟨#[], #[.agg #[.slice none 0 0, .int .i64 0], .int .i16 0], []⟩ 8 (by kernel_rfl) (by kernel_rfl) (by kernel_rfl) (by kernel_rfl)) ?_
  intro W base args ds gs before hval0 hW hcnd _
  have hval : ∀ (j : Nat) t v, Try.f10.params[j]? = some t → args[j]? = some v → Value.okWide Try.prog W .any base t v := hval0
  have hW' := hW
  obtain ⟨p, q, hA0, hV, rfl, hfz, hnd⟩ := hW
  have hA : DataW.TrodAll enc Try.prog W 0 (fun _ => true) true Try.f10.params.toList args.toList ds p := hA0
  rw [Try.params10] at hA hval
  obtain ⟨v0, vs0, d0, ds0, p0, q0, hargs, rfl, rfl, h0, r0⟩ := trodAll_cons hA
  obtain ⟨v1, vs1, d1, ds1, p1, q1, rfl, rfl, rfl, h1, r1⟩ := trodAll_cons r0
  obtain ⟨rfl, rfl, rfl⟩ := trodAll_nil r1
  obtain rfl : args = #[v0, v1] := by cases args; simp_all
  obtain ⟨rfl, rfl⟩ := trodVars_none hV
  obtain ⟨c0, rfl, hs0⟩ := okWide_struct Try.underlying24 (hval 0 24 v0 rfl rfl)
  have k0 := h0
  have lt0 : ∀ x ∈ p0, x.block < W.heap.size := by obtain ⟨m, hm⟩ := k0; exact DataW.trod_lt m _ _ _ hm
  obtain ⟨g0, e0, hrow0⟩ : ∃ p : Sm, c0.toList = (smC p).toList ∧ SmOk p W := by
    obtain ⟨fuel, hf⟩ := h0
    exact slope_open hf
  obtain rfl : c0 = smC g0 := Array.toList_inj.1 e0
  obtain ⟨a1, rfl, rfl, rfl, w1⟩ := open_int Try.underlying74 (hval 1 74 v1 rfl rfl) h1
  have hb1 := bounds_i16 w1
  clear hA0 hval0
  refine (slopeFamily_walk g0 a1 W hb1.1 hb1.2 hrow0).mono fun e W' ⟨he, bel⟩ => ?_
  subst he
  exact ⟨_, rfl, _, _, _, [], _, [], hW', trodAll_mk1 (shut_bool Try.underlying4 _), (trodAll_cons_mk (Below.trod Try.laidOut (by kernel_rfl) (of_decide_eq_true (by kernel_rfl)) k0 bel lt0) (trodAll_cons_mk (shut_int Try.underlying74 w1) trodAll_mk0)), rfl, bel.frame _, fun h => by cases h⟩

theorem slopeFamily_holds : Rows.SlopeFamilySaid :=
  OpenClaim.holds_of_wide 10 Try.f10 rfl rfl rfl rfl rfl rfl rfl ⟨rfl, rfl, rfl, rfl, rfl⟩ rfl rfl rfl rfl rfl (by kernel_rfl) Try.func10 (by kernel_rfl)
    (of_decide_eq_true (by kernel_rfl)) (by unfold Func.isWrapper; first | (rw [if_pos (by decide +kernel)]; kernel_rfl) | (rw [if_neg (by decide +kernel)]; exact ⟨rfl, rfl⟩))
    (fun os started H enc _ => slopeFamily_lifted os started H enc)
#print axioms slopeFamily_holds

end Go.Proofs.Ytkenokpobbichaa
