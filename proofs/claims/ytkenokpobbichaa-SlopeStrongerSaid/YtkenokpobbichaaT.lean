/- Surfaces: is one a surface of a slope? -/
import Derived.Test.YtkenokpobbichaaS
namespace Go.Proofs.Ytkenokpobbichaa
open Go.RowKit Go.Shelf Go.Deep

/-- A surface, in memory. -/
structure Su where
  frm : Int
  beds : List Int
  a : Option Addr
  c : Nat
abbrev suC (u : Su) : Array Value := #[vi u.frm, .slice u.a u.beds.length u.c]
abbrev suV (u : Su) : Value := .agg (suC u)
/-- A surface lies in memory. -/
def SuOk (u : Su) (W : World) : Prop := Row intL 1 W W.heap.size u.a u.beds
theorem SuOk.next {u : Su} {W W' : World} (h : SuOk u W) (hb : newer W W') : SuOk u W' := (Row.below h hb).more hb.size
/-- Is a bed of a surface right? -/
def okB (n : Nat) (l : List Int) (i : Nat) : Bool := inB (iAt l i) 0 ((n : Int) - 1) && (decide (i = 0) || inB (iAt l i - iAt l (i - 1)) (-1) 1)
def surfB (s : Sd) (frm : Int) (l : List Int) : Bool := decide (0 ≤ frm) && decide (s.least ≤ l.length) && decide (frm ≤ s.cols.length - l.length) && goodB l.length (okB s.n l)
theorem row1k {w : World} {B : Nat} {A : Option Addr} {l : List Int} (h : Row intL 1 w B A l) {k : Nat} (hk : k < l.length) : ∃ b off, A = some ⟨b, off, none⟩ ∧ w.cell? ⟨b, off + k, none⟩ = some (vi (iAt l k)) := by
  obtain ⟨c, hc⟩ := get_of_lt hk
  obtain ⟨b, off, e, _, h2⟩ := h (ne_nil_of_get hc)
  have h3 := h2 k c hc 0 (vi c) rfl
  have e2 : iAt l k = c := by simp [iAt, hc]
  exact ⟨b, off, e, by rw [e2]; simpa using h3⟩
set_option maxRecDepth 100000 in
set_option maxHeartbeats 1000000 in
theorem surface_any (s : Sm) (u : Su) (w : World) (hok : SmOk s w) (hu : SuOk u w) (hs : SdOk s.sd) (hul : u.beds.length ≤ 1000) : Calls Try.prog 88 #[smV s, suV u] w fun e w' => e = .returned (.bool (surfB s.sd u.frm u.beds)) ∧ newer w w' := by
  have hcl : s.cs.length ≤ 12 ∧ 1 ≤ s.cs.length := by have h1 := hs.cols; rw [sd_len] at h1; omega
  have hnw : newer w ((w.alloc (.cells (smC s) 37)).alloc (.cells (suC u) 39)) := newer_trans (newer_allocH _ _) (newer_allocH _ _)
  have hxb := (Whole.made w 37 (smC s)).alloc (.cells (suC u) 39)
  have hub := Whole.made (w.alloc (.cells (smC s) 37)) 39 (suC u)
  rw [World.size_alloc] at hub
  have H0 := Lib.hid (And.intro hnw (And.intro hxb hub))
  obtain ⟨y0, hy0⟩ := get_of_lt (l := s.cs) (k := 0) (by omega)
  have hyn : y0.beds.length = s.sd.n := (sd_n hy0).symm
  obtain ⟨b1, o1, ea, _, cy⟩ := rowC (hok.next hnw).cs hy0
  simp only [Nat.add_zero] at cy
  have x0 := hxb.at 0 (v := .slice s.a s.cs.length s.c) rfl
  rw [ea] at x0
  have HSA := Lib.hid ea
  have x1 := hxb.at 1 (v := vi s.least) rfl
  have u0 := hub.at 0 (v := vi u.frm) rfl
  have u1 := hub.at 1 (v := .slice u.a u.beds.length u.c) rfl
  obtain ⟨n, hn⟩ : ∃ n, n = s.sd.n := ⟨_, rfl⟩
  have hnb : 1 ≤ n ∧ n ≤ 5 := by rw [hn]; exact hs.beds
  rw [hyn, ← hn] at cy
  unfold surfB
  rw [sd_len, ← hn, show s.sd.least = s.least from rfl]
  have HU := Lib.hid (hu.next hnw)
  have c0 : (0 : Int) < s.cs.length := by omega
  have hls := hs.least
  have hls2 : s.sd.least = s.least := rfl
  rw [hls2] at hls
  clear hok hu hs hnw hxb hub hy0 hyn hn ea hls2
  by_cases h1 : u.frm < 0
  · rw [decide_eq_false (by omega : ¬ 0 ≤ u.frm)]
    go_enter Try.func88, Try.ntmps88
    go_wp2_with fail
    go_ret
    exact ⟨rfl, H0.out.1⟩
  · rw [decide_eq_true (by omega : 0 ≤ u.frm)]
    by_cases h2 : (u.beds.length : Int) < s.least
    · rw [decide_eq_false (by omega : ¬ s.least ≤ u.beds.length)]
      go_enter Try.func88, Try.ntmps88
      go_wp2_with fail
      go_ret
      exact ⟨rfl, H0.out.1⟩
    · rw [decide_eq_true (by omega : s.least ≤ u.beds.length)]
      by_cases h3 : (s.cs.length : Int) - u.beds.length < u.frm
      · rw [decide_eq_false (by omega : ¬ u.frm ≤ s.cs.length - u.beds.length)]
        go_enter Try.func88, Try.ntmps88
        go_wp2_with fail
        go_ret
        exact ⟨rfl, H0.out.1⟩
      · rw [decide_eq_true (by omega : u.frm ≤ s.cs.length - u.beds.length)]
        have hsim : ∀ b, (true && true && true && b) = b := fun b => by simp
        rw [hsim]
        clear hsim
        have HQ : Hid (∀ k, k < u.beds.length → okB n u.beds k = false → goodB u.beds.length (okB n u.beds) = false) := Lib.hid (fun k hk h => goodB_false hk h)
        have HQ2 : Hid (goodTo (okB n u.beds) u.beds.length → goodB u.beds.length (okB n u.beds) = true) := Lib.hid (fun h => goodB_true h)
        obtain ⟨r, hr⟩ : ∃ r, r = goodB u.beds.length (okB n u.beds) := ⟨_, rfl⟩
        rw [← hr] at HQ HQ2 ⊢
        clear hr
        obtain ⟨ub, uo, eu, _⟩ := row1k HU.out (k := 0) (by omega)
        rw [eu] at u1
        have HEU := Lib.hid eu
        have HCY := Lib.hid cy
        clear eu cy
        go_enter Try.func88, Try.ntmps88
        go_wp2_with fail
        go_loopw [33] (fun s33 wr => ∃ k : Nat, k ≤ u.beds.length ∧ s33 = vi k ∧ goodTo (okB n u.beds) k ∧ newer w wr ∧ Whole wr w.heap.size 37 (smC s) ∧ Whole wr (w.heap.size + 1) 39 (suC u) ∧ newer ((w.alloc (.cells (smC s) 37)).alloc (.cells (suC u) 39)) wr) (fun s33 _ => u.beds.length - (intOf s33).toNat)
        case atStart => exact ⟨0, Nat.zero_le _, rfl, goodTo_zero _, H0.out.1, H0.out.2.1, H0.out.2.2, Below.refl _ _⟩
        case round =>
          obtain ⟨k, hk, rfl, q2, q3, q4, q5, q6⟩ := hrel
          clear x0 x1 u0 u1 H0
          have x0 := q4.at 0 (v := .slice s.a s.cs.length s.c) rfl
          rw [HSA.out] at x0
          by_cases hlt : k < u.beds.length
          · obtain ⟨b2, o2, e2, d0⟩ := row1k (HU.out.below q6) hlt
            rw [HEU.out] at e2
            obtain ⟨rfl, rfl⟩ : ub = b2 ∧ uo = o2 := by simpa using e2
            have u1 := q5.at 1 (v := .slice u.a u.beds.length u.c) rfl
            rw [HEU.out] at u1
            have cy := keep_cell HCY.out q6
            have hki : (k : Int) < u.beds.length := by omega
            have HG := Lib.hid (And.intro q2 q3)
            have HW := Lib.hid (And.intro q4 (And.intro q5 q6))
            have hok : okB n u.beds k = (inB (iAt u.beds k) 0 ((n : Int) - 1) && (decide (k = 0) || inB (iAt u.beds k - iAt u.beds (k - 1)) (-1) 1)) := rfl
            clear e2 q2 q3 q4 q5 q6
            obtain ⟨p, hp⟩ : ∃ p, p = iAt u.beds k := ⟨_, rfl⟩
            rw [← hp] at d0 hok
            have HC1 := Lib.hid (fun W => within_any p 0 ((n : Int) - 1) W)
            cases hq : inB p 0 ((n : Int) - 1) with
            | false =>
              rw [hq] at HC1 hok
              have hr2 : r = false := HQ.out k hlt hok
              subst hr2
              clear hok hq hp
              go_wp2_with fail
              refine (HC1.out _).mono ?_
              rintro e w2 ⟨rfl, rfl⟩
              go_wp2_with fail
              go_ret
              exact ⟨rfl, HG.out.2⟩
            | true =>
              rw [hq] at HC1 hok
              have hpb : 0 ≤ p ∧ p ≤ (n : Int) - 1 := by simpa [inB] using hq
              by_cases hk0 : k = 0
              · subst hk0
                have HS := Lib.hid (goodTo_succ HG.out.1 (by rw [hok]; rfl))
                simp only [Nat.add_zero] at d0
                clear hok hq hp
                go_wp2_with fail
                refine (HC1.out _).mono ?_
                rintro e w2 ⟨rfl, rfl⟩
                go_wp2_with fail
                refine ⟨⟨1, by omega, rfl, HS.out, HG.out.2, HW.out.1, HW.out.2.1, HW.out.2.2⟩, ?_⟩
                simp [intOf]
                omega
              · have hg1 := HG.out.1 (k - 1) (by omega)
                obtain ⟨b3, o3, e3, d1⟩ := row1k (HU.out.below HW.out.2.2) (k := k - 1) (by omega)
                rw [HEU.out] at e3
                obtain ⟨rfl, rfl⟩ : ub = b3 ∧ uo = o3 := by simpa using e3
                unfold okB at hg1
                rw [Bool.and_eq_true] at hg1
                have hpb2 : 0 ≤ iAt u.beds (k - 1) ∧ iAt u.beds (k - 1) ≤ (n : Int) - 1 := by simpa [inB] using hg1.1
                obtain ⟨p2, hp2⟩ : ∃ p2, p2 = iAt u.beds (k - 1) := ⟨_, rfl⟩
                rw [← hp2] at d1 hok hpb2
                have HC2 := Lib.hid (fun W => beside_any p p2 W (by omega) (by omega))
                rw [decide_eq_false hk0, Bool.false_or, Bool.true_and] at hok
                have hkp : (0 : Int) < k := by omega
                have hkm : (k : Int) - 1 = ((k - 1 : Nat) : Int) := by omega
                have hkl : ((k - 1 : Nat) : Int) < u.beds.length := by omega
                clear hg1 e3 hp2 hp hq
                obtain ⟨r2, hr2⟩ : ∃ r2, r2 = inB (p - p2) (-1) 1 := ⟨_, rfl⟩
                rw [← hr2] at HC2 hok
                clear hr2
                go_wp2_with fail
                refine (HC1.out _).mono ?_
                rintro e w2 ⟨rfl, rfl⟩
                go_wp2_with fail
                refine (HC2.out _).mono ?_
                rintro e w2 ⟨rfl, rfl⟩
                cases r2 with
                | false =>
                  have hr2 : r = false := HQ.out k hlt hok
                  subst hr2
                  go_wp2_with fail
                  go_ret
                  exact ⟨rfl, HG.out.2⟩
                | true =>
                  have HS := Lib.hid (goodTo_succ HG.out.1 hok)
                  go_wp2_with fail
                  refine ⟨⟨k + 1, by omega, rfl, HS.out, HG.out.2, HW.out.1, HW.out.2.1, HW.out.2.2⟩, ?_⟩
                  simp [intOf]
                  omega
          · obtain rfl : k = u.beds.length := by omega
            have hr2 : r = true := HQ2.out q2
            subst hr2
            go_wp2_with fail
            go_ret
            exact ⟨rfl, q3⟩
/-- The error of a slope with a surface. -/
def checkUN (s : Sd) (frm : Int) (l : List Int) : Int := if slopeB s then (if surfB s frm l then 0 else 2) else 1
set_option maxRecDepth 100000 in
set_option maxHeartbeats 1000000 in
theorem checkU_any (s : Sm) (u : Su) (w : World) (hok : SmOk s w) (few : SmFew s) (hu : SuOk u w) (hul : u.beds.length ≤ 1000) : Calls Try.prog 57 #[smV s, suV u] w fun e w' => e = .returned (vi (checkUN s.sd u.frm u.beds)) ∧ newer w w' := by
  have hnw : newer w ((w.alloc (.cells (smC s) 37)).alloc (.cells (suC u) 39)) := newer_trans (newer_allocH _ _) (newer_allocH _ _)
  have hxb := (Whole.made w 37 (smC s)).alloc (.cells (suC u) 39)
  have hub := Whole.made (w.alloc (.cells (smC s) 37)) 39 (suC u)
  rw [World.size_alloc] at hub
  have H0 := Lib.hid (And.intro hnw (And.intro hxb hub))
  have HV := Lib.hid (valid_any s _ (hok.next hnw) few)
  have x0 := hxb.at 0 (v := .slice s.a s.cs.length s.c) rfl
  have x1 := hxb.at 1 (v := vi s.least) rfl
  have HSU : Hid (slopeB s.sd = true → ∀ W, newer w W → Calls Try.prog 88 #[smV s, suV u] W fun e w' => e = .returned (.bool (surfB s.sd u.frm u.beds)) ∧ newer W w') := Lib.hid (fun h W hW => surface_any s u W (hok.next hW) (hu.next hW) (sdOk_iff.1 h) hul)
  unfold checkUN
  obtain ⟨q, hq⟩ : ∃ q, q = slopeB s.sd := ⟨_, rfl⟩
  obtain ⟨r, hr⟩ : ∃ r, r = surfB s.sd u.frm u.beds := ⟨_, rfl⟩
  rw [← hq] at HV HSU ⊢
  rw [← hr] at HSU ⊢
  clear hq hr hok few hu hul hnw hxb hub
  cases q with
  | false =>
    go_enter Try.func57, Try.ntmps57
    go_wp2_with fail
    refine (HV.out).mono ?_
    rintro e w1 ⟨rfl, hb⟩
    have HE := Lib.hid (newer_trans H0.out.1 hb)
    clear hb HV H0
    go_wp2_with fail
    go_ret
    exact ⟨rfl, HE.out⟩
  | true =>
    have HS2 := Lib.hid (HSU.out rfl)
    clear HSU
    go_enter Try.func57, Try.ntmps57
    go_wp2_with fail
    refine (HV.out).mono ?_
    rintro e w1 ⟨rfl, hb⟩
    have H1 := Lib.hid (And.intro (newer_trans H0.out.1 hb) (And.intro (H0.out.2.1.below hb H0.out.2.1.lt) (H0.out.2.2.below hb H0.out.2.2.lt)))
    clear hb HV H0 x0 x1
    have x0 := H1.out.2.1.at 0 (v := .slice s.a s.cs.length s.c) rfl
    have x1 := H1.out.2.1.at 1 (v := vi s.least) rfl
    have u0 := H1.out.2.2.at 0 (v := vi u.frm) rfl
    have u1 := H1.out.2.2.at 1 (v := .slice u.a u.beds.length u.c) rfl
    go_wp2_with fail
    refine (HS2.out w1 H1.out.1).mono ?_
    rintro e w2 ⟨rfl, hb⟩
    have HE := Lib.hid (newer_trans H1.out.1 hb)
    clear hb HS2 H1 x0 x1 u0 u1
    cases r with
    | false =>
      go_wp2_with fail
      go_ret
      exact ⟨rfl, HE.out⟩
    | true =>
      go_wp2_with fail
      go_ret
      exact ⟨rfl, HE.out⟩

end Go.Proofs.Ytkenokpobbichaa
