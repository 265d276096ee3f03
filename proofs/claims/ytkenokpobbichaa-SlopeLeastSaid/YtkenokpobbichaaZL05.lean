/- What the last text of this chain needs: T, U, V, W, X, Y0, Y. -/
import Derived.Test.YtkenokpobbichaaZL04
namespace Go.Proofs.Ytkenokpobbichaa
section
open Go.RowKit Go.Shelf Go.Deep
/-- A surface, in memory. -/
structure Su where
  frm : Int
  beds : List Int
  a : Option Addr
  c : Nat
abbrev suC (u : Su) : Array Value := #[vi u.frm, .slice u.a u.beds.length u.c]
abbrev suV (u : Su) : Value := .agg (suC u)
/-- A surface lies in memory. -/
def SuOk (u : Su) (W : World) : Prop := Row intL 1 W W.heap.size u.a u.beds
theorem SuOk.next {u : Su} {W W' : World} (h : SuOk u W) (hb : newer W W') : SuOk u W' := (Row.below h hb).more hb.size
/-- Is a bed of a surface right? -/
def okB (n : Nat) (l : List Int) (i : Nat) : Bool := inB (iAt l i) 0 ((n : Int) - 1) && (decide (i = 0) || inB (iAt l i - iAt l (i - 1)) (-1) 1)
def surfB (s : Sd) (frm : Int) (l : List Int) : Bool := decide (0 ≤ frm) && decide (s.least ≤ l.length) && decide (frm ≤ s.cols.length - l.length) && goodB l.length (okB s.n l)
theorem row1k {w : World} {B : Nat} {A : Option Addr} {l : List Int} (h : Row intL 1 w B A l) {k : Nat} (hk : k < l.length) : ∃ b off, A = some ⟨b, off, none⟩ ∧ w.cell? ⟨b, off + k, none⟩ = some (vi (iAt l k)) := by
  obtain ⟨c, hc⟩ := get_of_lt hk
  obtain ⟨b, off, e, _, h2⟩ := h (ne_nil_of_get hc)
  have h3 := h2 k c hc 0 (vi c) rfl
  have e2 : iAt l k = c := by simp [iAt, hc]
  exact ⟨b, off, e, by rw [e2]; simpa using h3⟩
set_option maxRecDepth 100000 in
set_option maxHeartbeats 1000000 in
theorem surface_any (s : Sm) (u : Su) (w : World) (hok : SmOk s w) (hu : SuOk u w) (hs : SdOk s.sd) (hul : u.beds.length ≤ 1000) : Calls Try.prog 88 #[smV s, suV u] w fun e w' => e = .returned (.bool (surfB s.sd u.frm u.beds)) ∧ newer w w' := by
  have hcl : s.cs.length ≤ 12 ∧ 1 ≤ s.cs.length := by have h1 := hs.cols; rw [sd_len] at h1; omega
  have hnw : newer w ((w.alloc (.cells (smC s) 37)).alloc (.cells (suC u) 39)) := newer_trans (newer_allocH _ _) (newer_allocH _ _)
  have hxb := (Whole.made w 37 (smC s)).alloc (.cells (suC u) 39)
  have hub := Whole.made (w.alloc (.cells (smC s) 37)) 39 (suC u)
  rw [World.size_alloc] at hub
  have H0 := Lib.hid (And.intro hnw (And.intro hxb hub))
  obtain ⟨y0, hy0⟩ := get_of_lt (l := s.cs) (k := 0) (by omega)
  have hyn : y0.beds.length = s.sd.n := (sd_n hy0).symm
  obtain ⟨b1, o1, ea, _, cy⟩ := rowC (hok.next hnw).cs hy0
  simp only [Nat.add_zero] at cy
  have x0 := hxb.at 0 (v := .slice s.a s.cs.length s.c) rfl
  rw [ea] at x0
  have HSA := Lib.hid ea
  have x1 := hxb.at 1 (v := vi s.least) rfl
  have u0 := hub.at 0 (v := vi u.frm) rfl
  have u1 := hub.at 1 (v := .slice u.a u.beds.length u.c) rfl
  obtain ⟨n, hn⟩ : ∃ n, n = s.sd.n := ⟨_, rfl⟩
  have hnb : 1 ≤ n ∧ n ≤ 5 := by rw [hn]; exact hs.beds
  rw [hyn, ← hn] at cy
  unfold surfB
  rw [sd_len, ← hn, show s.sd.least = s.least from rfl]
  have HU := Lib.hid (hu.next hnw)
  have c0 : (0 : Int) < s.cs.length := by omega
  have hls := hs.least
  have hls2 : s.sd.least = s.least := rfl
  rw [hls2] at hls
  clear hok hu hs hnw hxb hub hy0 hyn hn ea hls2
  by_cases h1 : u.frm < 0
  · rw [decide_eq_false (by omega : ¬ 0 ≤ u.frm)]
    go_enter Try.func88, Try.ntmps88
    go_wp2_with fail
    go_ret
    exact ⟨rfl, H0.out.1⟩
  · rw [decide_eq_true (by omega : 0 ≤ u.frm)]
    by_cases h2 : (u.beds.length : Int) < s.least
    · rw [decide_eq_false (by omega : ¬ s.least ≤ u.beds.length)]
      go_enter Try.func88, Try.ntmps88
      go_wp2_with fail
      go_ret
      exact ⟨rfl, H0.out.1⟩
    · rw [decide_eq_true (by omega : s.least ≤ u.beds.length)]
      by_cases h3 : (s.cs.length : Int) - u.beds.length < u.frm
      · rw [decide_eq_false (by omega : ¬ u.frm ≤ s.cs.length - u.beds.length)]
        go_enter Try.func88, Try.ntmps88
        go_wp2_with fail
        go_ret
        exact ⟨rfl, H0.out.1⟩
      · rw [decide_eq_true (by omega : u.frm ≤ s.cs.length - u.beds.length)]
        have hsim : ∀ b, (true && true && true && b) = b := fun b => by simp
        rw [hsim]
        clear hsim
        have HQ : Hid (∀ k, k < u.beds.length → okB n u.beds k = false → goodB u.beds.length (okB n u.beds) = false) := Lib.hid (fun k hk h => goodB_false hk h)
        have HQ2 : Hid (goodTo (okB n u.beds) u.beds.length → goodB u.beds.length (okB n u.beds) = true) := Lib.hid (fun h => goodB_true h)
        obtain ⟨r, hr⟩ : ∃ r, r = goodB u.beds.length (okB n u.beds) := ⟨_, rfl⟩
        rw [← hr] at HQ HQ2 ⊢
        clear hr
        obtain ⟨ub, uo, eu, _⟩ := row1k HU.out (k := 0) (by omega)
        rw [eu] at u1
        have HEU := Lib.hid eu
        have HCY := Lib.hid cy
        clear eu cy
        go_enter Try.func88, Try.ntmps88
        go_wp2_with fail
        go_loopw [33] (fun s33 wr => ∃ k : Nat, k ≤ u.beds.length ∧ s33 = vi k ∧ goodTo (okB n u.beds) k ∧ newer w wr ∧ Whole wr w.heap.size 37 (smC s) ∧ Whole wr (w.heap.size + 1) 39 (suC u) ∧ newer ((w.alloc (.cells (smC s) 37)).alloc (.cells (suC u) 39)) wr) (fun s33 _ => u.beds.length - (intOf s33).toNat)
        case atStart => exact ⟨0, Nat.zero_le _, rfl, goodTo_zero _, H0.out.1, H0.out.2.1, H0.out.2.2, Below.refl _ _⟩
        case round =>
          obtain ⟨k, hk, rfl, q2, q3, q4, q5, q6⟩ := hrel
          clear x0 x1 u0 u1 H0
          have x0 := q4.at 0 (v := .slice s.a s.cs.length s.c) rfl
          rw [HSA.out] at x0
          by_cases hlt : k < u.beds.length
          · obtain ⟨b2, o2, e2, d0⟩ := row1k (HU.out.below q6) hlt
            rw [HEU.out] at e2
            obtain ⟨rfl, rfl⟩ : ub = b2 ∧ uo = o2 := by simpa using e2
            have u1 := q5.at 1 (v := .slice u.a u.beds.length u.c) rfl
            rw [HEU.out] at u1
            have cy := keep_cell HCY.out q6
            have hki : (k : Int) < u.beds.length := by omega
            have HG := Lib.hid (And.intro q2 q3)
            have HW := Lib.hid (And.intro q4 (And.intro q5 q6))
            have hok : okB n u.beds k = (inB (iAt u.beds k) 0 ((n : Int) - 1) && (decide (k = 0) || inB (iAt u.beds k - iAt u.beds (k - 1)) (-1) 1)) := rfl
            clear e2 q2 q3 q4 q5 q6
            obtain ⟨p, hp⟩ : ∃ p, p = iAt u.beds k := ⟨_, rfl⟩
            rw [← hp] at d0 hok
            have HC1 := Lib.hid (fun W => within_any p 0 ((n : Int) - 1) W)
            cases hq : inB p 0 ((n : Int) - 1) with
            | false =>
              rw [hq] at HC1 hok
              have hr2 : r = false := HQ.out k hlt hok
              subst hr2
              clear hok hq hp
              go_wp2_with fail
              refine (HC1.out _).mono ?_
              rintro e w2 ⟨rfl, rfl⟩
              go_wp2_with fail
              go_ret
              exact ⟨rfl, HG.out.2⟩
            | true =>
              rw [hq] at HC1 hok
              have hpb : 0 ≤ p ∧ p ≤ (n : Int) - 1 := by simpa [inB] using hq
              by_cases hk0 : k = 0
              · subst hk0
                have HS := Lib.hid (goodTo_succ HG.out.1 (by rw [hok]; rfl))
                simp only [Nat.add_zero] at d0
                clear hok hq hp
                go_wp2_with fail
                refine (HC1.out _).mono ?_
                rintro e w2 ⟨rfl, rfl⟩
                go_wp2_with fail
                refine ⟨⟨1, by omega, rfl, HS.out, HG.out.2, HW.out.1, HW.out.2.1, HW.out.2.2⟩, ?_⟩
                simp [intOf]
                omega
              · have hg1 := HG.out.1 (k - 1) (by omega)
                obtain ⟨b3, o3, e3, d1⟩ := row1k (HU.out.below HW.out.2.2) (k := k - 1) (by omega)
                rw [HEU.out] at e3
                obtain ⟨rfl, rfl⟩ : ub = b3 ∧ uo = o3 := by simpa using e3
                unfold okB at hg1
                rw [Bool.and_eq_true] at hg1
                have hpb2 : 0 ≤ iAt u.beds (k - 1) ∧ iAt u.beds (k - 1) ≤ (n : Int) - 1 := by simpa [inB] using hg1.1
                obtain ⟨p2, hp2⟩ : ∃ p2, p2 = iAt u.beds (k - 1) := ⟨_, rfl⟩
                rw [← hp2] at d1 hok hpb2
                have HC2 := Lib.hid (fun W => beside_any p p2 W (by omega) (by omega))
                rw [decide_eq_false hk0, Bool.false_or, Bool.true_and] at hok
                have hkp : (0 : Int) < k := by omega
                have hkm : (k : Int) - 1 = ((k - 1 : Nat) : Int) := by omega
                have hkl : ((k - 1 : Nat) : Int) < u.beds.length := by omega
                clear hg1 e3 hp2 hp hq
                obtain ⟨r2, hr2⟩ : ∃ r2, r2 = inB (p - p2) (-1) 1 := ⟨_, rfl⟩
                rw [← hr2] at HC2 hok
                clear hr2
                go_wp2_with fail
                refine (HC1.out _).mono ?_
                rintro e w2 ⟨rfl, rfl⟩
                go_wp2_with fail
                refine (HC2.out _).mono ?_
                rintro e w2 ⟨rfl, rfl⟩
                cases r2 with
                | false =>
                  have hr2 : r = false := HQ.out k hlt hok
                  subst hr2
                  go_wp2_with fail
                  go_ret
                  exact ⟨rfl, HG.out.2⟩
                | true =>
                  have HS := Lib.hid (goodTo_succ HG.out.1 hok)
                  go_wp2_with fail
                  refine ⟨⟨k + 1, by omega, rfl, HS.out, HG.out.2, HW.out.1, HW.out.2.1, HW.out.2.2⟩, ?_⟩
                  simp [intOf]
                  omega
          · obtain rfl : k = u.beds.length := by omega
            have hr2 : r = true := HQ2.out q2
            subst hr2
            go_wp2_with fail
            go_ret
            exact ⟨rfl, q3⟩
/-- The error of a slope with a surface. -/
def checkUN (s : Sd) (frm : Int) (l : List Int) : Int := if slopeB s then (if surfB s frm l then 0 else 2) else 1
set_option maxRecDepth 100000 in
set_option maxHeartbeats 1000000 in
theorem checkU_any (s : Sm) (u : Su) (w : World) (hok : SmOk s w) (few : SmFew s) (hu : SuOk u w) (hul : u.beds.length ≤ 1000) : Calls Try.prog 57 #[smV s, suV u] w fun e w' => e = .returned (vi (checkUN s.sd u.frm u.beds)) ∧ newer w w' := by
  have hnw : newer w ((w.alloc (.cells (smC s) 37)).alloc (.cells (suC u) 39)) := newer_trans (newer_allocH _ _) (newer_allocH _ _)
  have hxb := (Whole.made w 37 (smC s)).alloc (.cells (suC u) 39)
  have hub := Whole.made (w.alloc (.cells (smC s) 37)) 39 (suC u)
  rw [World.size_alloc] at hub
  have H0 := Lib.hid (And.intro hnw (And.intro hxb hub))
  have HV := Lib.hid (valid_any s _ (hok.next hnw) few)
  have x0 := hxb.at 0 (v := .slice s.a s.cs.length s.c) rfl
  have x1 := hxb.at 1 (v := vi s.least) rfl
  have HSU : Hid (slopeB s.sd = true → ∀ W, newer w W → Calls Try.prog 88 #[smV s, suV u] W fun e w' => e = .returned (.bool (surfB s.sd u.frm u.beds)) ∧ newer W w') := Lib.hid (fun h W hW => surface_any s u W (hok.next hW) (hu.next hW) (sdOk_iff.1 h) hul)
  unfold checkUN
  obtain ⟨q, hq⟩ : ∃ q, q = slopeB s.sd := ⟨_, rfl⟩
  obtain ⟨r, hr⟩ : ∃ r, r = surfB s.sd u.frm u.beds := ⟨_, rfl⟩
  rw [← hq] at HV HSU ⊢
  rw [← hr] at HSU ⊢
  clear hq hr hok few hu hul hnw hxb hub
  cases q with
  | false =>
    go_enter Try.func57, Try.ntmps57
    go_wp2_with fail
    refine (HV.out).mono ?_
    rintro e w1 ⟨rfl, hb⟩
    have HE := Lib.hid (newer_trans H0.out.1 hb)
    clear hb HV H0
    go_wp2_with fail
    go_ret
    exact ⟨rfl, HE.out⟩
  | true =>
    have HS2 := Lib.hid (HSU.out rfl)
    clear HSU
    go_enter Try.func57, Try.ntmps57
    go_wp2_with fail
    refine (HV.out).mono ?_
    rintro e w1 ⟨rfl, hb⟩
    have H1 := Lib.hid (And.intro (newer_trans H0.out.1 hb) (And.intro (H0.out.2.1.below hb H0.out.2.1.lt) (H0.out.2.2.below hb H0.out.2.2.lt)))
    clear hb HV H0 x0 x1
    have x0 := H1.out.2.1.at 0 (v := .slice s.a s.cs.length s.c) rfl
    have x1 := H1.out.2.1.at 1 (v := vi s.least) rfl
    have u0 := H1.out.2.2.at 0 (v := vi u.frm) rfl
    have u1 := H1.out.2.2.at 1 (v := .slice u.a u.beds.length u.c) rfl
    go_wp2_with fail
    refine (HS2.out w1 H1.out.1).mono ?_
    rintro e w2 ⟨rfl, hb⟩
    have HE := Lib.hid (newer_trans H1.out.1 hb)
    clear hb HS2 H1 x0 x1 u0 u1
    cases r with
    | false =>
      go_wp2_with fail
      go_ret
      exact ⟨rfl, HE.out⟩
    | true =>
      go_wp2_with fail
      go_ret
      exact ⟨rfl, HE.out⟩
end

section
open Go.RowKit Go.Shelf Go.Deep
def zeroBd : Bd := ⟨0, 0, ⟨0, 0⟩, ⟨0, 0⟩, ⟨0, 0⟩⟩
def bdAt (cols : List (List Bd)) (k b : Nat) : Bd := (bedAt cols k b).getD zeroBd
/-- The beds of a surface. -/
def bedsL (cols : List (List Bd)) : Nat → List Nat → List Bd
  | _, [] => []
  | k, b :: t => bdAt cols k b :: bedsL cols (k + 1) t
theorem bedsL_len (cols : List (List Bd)) : ∀ (l : List Nat) (k : Nat), (bedsL cols k l).length = l.length
  | [], _ => rfl
  | _ :: t, k => by simp [bedsL, bedsL_len cols t]
theorem bedsL_get (cols : List (List Bd)) : ∀ (l : List Nat) (k i b : Nat), l[i]? = some b → (bedsL cols k l)[i]? = some (bdAt cols (k + i) b)
  | [], _, _, _, h => by simp at h
  | x :: t, k, 0, b, h => by
    have e : x = b := by simpa using h
    subst e
    rfl
  | x :: t, k, i + 1, b, h => by
    have ih := bedsL_get cols t (k + 1) i b (by simpa using h)
    rw [show k + (i + 1) = k + 1 + i by omega, ← ih]
    simp [bedsL]
def hK (l : List Bd) (tr : Nat → Rl) : Nat → Int
  | 0 => 0
  | k + 1 => hK l tr k + holdsN (l.getD k zeroBd) (tr k)
def dK (l : List Bd) : Nat → Int
  | 0 => 0
  | k + 1 => dK l k + (l.getD k zeroBd).drive
/-- What is true of a bed lies where it may. -/
def rlB (x : Rl) : Bool := inB x.fr 0 2000 && inB x.co 0 100000 && inB x.wa 0 100000
theorem rlB_parts {x : Rl} (h : rlB x = true) : (0 ≤ x.fr ∧ x.fr ≤ 2000) ∧ (0 ≤ x.co ∧ x.co ≤ 100000) ∧ (0 ≤ x.wa ∧ x.wa ≤ 100000) := by
  simp only [rlB, inB, Bool.and_eq_true, decide_eq_true_eq] at h
  exact ⟨h.1.1, h.1.2, h.2⟩
theorem hK_bd {l : List Bd} {tr : Nat → Rl} : ∀ k, k ≤ l.length → (∀ b ∈ l, bdB b = true) → (∀ i, i < k → rlB (tr i) = true) → 0 ≤ hK l tr k ∧ hK l tr k ≤ 300000 * k
  | 0, _, _, _ => by simp [hK]
  | k + 1, hk, hb, ht => by
    have ih := hK_bd k (by omega) hb (fun i hi => ht i (by omega))
    obtain ⟨b, hbk⟩ := get_of_lt (l := l) (k := k) (by omega)
    have e : l.getD k zeroBd = b := by simp [List.getD, hbk]
    obtain ⟨h1, h2, h3⟩ := rlB_parts (ht k (by omega))
    have h4 := (holds_bd (b := b) (x := tr k) (bdB_parts (hb b (List.mem_of_getElem? hbk))).2.1 h1 h2 h3.1).2.2
    simp only [hK, e]
    omega
theorem dK_bd {l : List Bd} : ∀ k, k ≤ l.length → (∀ b ∈ l, bdB b = true) → -100000 * k ≤ dK l k ∧ dK l k ≤ 100000 * k
  | 0, _, _ => by simp [dK]
  | k + 1, hk, hb => by
    have ih := dK_bd k (by omega) hb
    obtain ⟨b, hbk⟩ := get_of_lt (l := l) (k := k) (by omega)
    have e : l.getD k zeroBd = b := by simp [List.getD, hbk]
    have h4 := (bdB_parts (hb b (List.mem_of_getElem? hbk))).1
    simp only [dK, e]
    omega
/-- The factor, and whether beds drive. -/
def facV (H D : Int) : Value := .tuple (if D < 1 then #[vi 0, .bool false] else #[vi (factorN H D), .bool true])
set_option maxRecDepth 100000 in
set_option maxHeartbeats 1000000 in
theorem factor_any (l : List Bd) (A : Option Addr) (c F : Nat) (cp : Array Value) (tr : Nat → Rl) (w : World) (hl : l.length ≤ 1000) (hr : Row bdL 8 w w.heap.size A l) (hbd : ∀ b ∈ l, bdB b = true) (htr : ∀ i, i < l.length → rlB (tr i) = true) (hF : ∀ (args : Array Value) (W : World), (callFunc F args).run Try.prog W = .ok (.enter F args) W)
    (hT : ∀ (i : Nat) (b : Bd) (W : World), l[i]? = some b → newer w W → Calls Try.prog F (#[vi i, bdV b] ++ cp) W fun e w' => e = .returned (rlV (tr i)) ∧ newer W w') :
    Calls Try.prog 59 #[.slice A l.length c, .func (.func F) #[] cp] w fun e w' => e = .returned (facV (hK l tr l.length) (dK l l.length)) ∧ newer w w' := by
  have HR := Lib.hid hr
  have HB := Lib.hid hbd
  have HTR := Lib.hid htr
  have HT0 := Lib.hid hT
  obtain ⟨H, hH⟩ : ∃ H, H = hK l tr l.length := ⟨_, rfl⟩
  obtain ⟨D, hD⟩ : ∃ D, D = dK l l.length := ⟨_, rfl⟩
  rw [← hH, ← hD]
  have HHD := Lib.hid (And.intro hH hD)
  clear hH hD
  clear hT htr hr hbd
  go_enter Try.func59, Try.ntmps59
  go_wp2_with fail
  go_loopw [6, 7, 12] (fun s6 s7 s12 wr => ∃ k : Nat, k ≤ l.length ∧ s12 = vi k ∧ s6 = vi (hK l tr k) ∧ s7 = vi (dK l k) ∧ newer w wr) (fun _ _ s12 _ => l.length - (intOf s12).toNat)
  case atStart => exact ⟨0, Nat.zero_le _, rfl, rfl, rfl, Below.refl _ _⟩
  case round =>
    obtain ⟨k, hk, rfl, rfl, rfl, hn⟩ := hrel
    have hh := hK_bd (tr := tr) k hk HB.out (fun i hi => HTR.out i (by omega))
    have hd := dK_bd k hk HB.out
    obtain ⟨w2, rfl⟩ : ∃ w2 : World, w2 = wr := ⟨_, rfl⟩
    by_cases hlt : k < l.length
    · obtain ⟨b, hbk⟩ := get_of_lt hlt
      obtain ⟨b1, o1, ea, _, d0, d1, d2, d3, d4, d5, d6, d7⟩ := row8 (HR.out.below hn) hbk
      have hge : l.getD k zeroBd = b := by simp [List.getD, hbk]
      have hbb := bdB_parts (HB.out b (List.mem_of_getElem? hbk))
      have HS : Hid (hK l tr (k + 1) = hK l tr k + holdsN b (tr k) ∧ dK l (k + 1) = dK l k + b.drive) := Lib.hid (by simp only [hK, dK, hge]; exact ⟨trivial, trivial⟩)
      obtain ⟨h, hhe⟩ : ∃ h, h = hK l tr k := ⟨_, rfl⟩
      obtain ⟨d, hde⟩ : ∃ d, d = dK l k := ⟨_, rfl⟩
      obtain ⟨y, hy⟩ : ∃ y, y = tr k := ⟨_, rfl⟩
      have hyb : rlB y = true := by rw [hy]; exact HTR.out k hlt
      obtain ⟨y1, y2, y3⟩ := rlB_parts hyb
      have hhb := (holds_bd (b := b) (x := y) hbb.2.1 y1 y2 y3.1).2.2
      have HH := Lib.hid (fun W => holds_any b y W hbb.2.1 y1 y2 y3)
      have HT1 := Lib.hid (HT0.out k b)
      rw [← hhe] at hh HS ⊢
      rw [← hde] at hd HS ⊢
      rw [← hy] at HS HT1
      obtain ⟨hb, hhb2⟩ : ∃ hb, hb = holdsN b y := ⟨_, rfl⟩
      rw [← hhb2] at HH HS hhb
      have hk1 : (k : Int) ≤ 1000 := by omega
      have HC : Hid (IntKind.i64.wrap (h + hb) = h + hb ∧ IntKind.i64.wrap (d + b.drive) = d + b.drive) := Lib.hid ⟨IntWalk.i64_in _ (by omega), IntWalk.i64_in _ (by omega)⟩
      have HN := Lib.hid (And.intro hn hbk)
      subst ea
      clear hhe hde hy hyb y1 y2 y3 hhb2 hge hn hbk hh hd hhb hbb
      go_upto_region 5 with fail
      have hn3 := newer_allocH w2 (.cells (bdC b) 104)
      have hw3 := Whole.made w2 104 (bdC b)
      refine genQ (fun X => newer w2 X ∧ Whole X w2.heap.size 104 (bdC b)) ⟨hn3, hw3⟩ ?_
      clear hn3 hw3 d0 d1 d2 d3 d4 d5 d6 d7
      rintro w3 ⟨hn3, hw3⟩
      have z0 := hw3.at 0 (v := vi b.drive) rfl
      have z1 := hw3.at 1 (v := vi b.normal) rfl
      have z2 := hw3.at 2 (v := vi b.fr.lo) rfl
      have z3 := hw3.at 3 (v := vi b.fr.hi) rfl
      have z4 := hw3.at 4 (v := vi b.co.lo) rfl
      have z5 := hw3.at 5 (v := vi b.co.hi) rfl
      have z6 := hw3.at 6 (v := vi b.wa.lo) rfl
      have z7 := hw3.at 7 (v := vi b.wa.hi) rfl
      have HN3 := Lib.hid (newer_trans HN.out.1 hn3)
      have HT := Lib.hid (fun W (hW : newer w3 W) => HT1.out W HN.out.2 (newer_trans HN3.out hW))
      clear hn3 hw3 HT1
      refine wp_words (by kernel_rfl) (region_told_e 13 (by kernel_rfl) (by kernel_rfl) (fun W => Below w3.heap.size w3 W) newer (pickD [vIs (vi h), vIs (bdV b), vIs (.func (.func F) #[] cp), vIs (vi k), vIs (bdV b), vIs (rlV y), vIs (vi hb), vIs (vi (h + hb)), vIs (vi d), vIs (.pointer (some ⟨w2.heap.size, 0, none⟩)), vIs (vi b.drive), vIs (vi (d + b.drive)), vIs (vi (h + hb))]) (pickD_stable _ ⟨vIs_st, vIs_st, vIs_st, vIs_st, vIs_st, vIs_st, vIs_st, vIs_st, vIs_st, vIs_st, vIs_st, vIs_st, vIs_st, trivial⟩) (Below.refl _ w3).drew ?_ ?_)
      · refine ⟨?_, ?_, ?_, ?_, ?_, ?_, ?_, ?_, ?_, ?_, ?_, ?_, ?_, trivial⟩
        · intro a W hG hO hE hp
          have h6 := hE 12 _ 6 (by decide) rfl rfl (by kernel_rfl)
          refine wp_yields (v := vi h) ?_ ⟨_, rfl, rfl, Below.refl _ _, hG⟩
          simp [slotOf] at h6
          simp [execOp, go_sem, h6]
        · intro a W hG hO hE hp
          have h9 := hO.slot 9 (by kernel_rfl)
          have c0 := keep_cell z0 hG
          have c1 := keep_cell z1 hG
          have c2 := keep_cell z2 hG
          have c3 := keep_cell z3 hG
          have c4 := keep_cell z4 hG
          have c5 := keep_cell z5 hG
          have c6 := keep_cell z6 hG
          have c7 := keep_cell z7 hG
          refine wp_yields (v := bdV b) ?_ ⟨_, rfl, rfl, Below.refl _ _, hG⟩
          simp [slotOf] at h9
          simp [execOp, go_sem, h9, c0, c1, c2, c3, c4, c5, c6, c7]
        · intro a W hG hO hE hp
          have h1 := hO.slot 1 (by kernel_rfl)
          refine wp_yields (v := .func (.func F) #[] cp) ?_ ⟨_, rfl, rfl, Below.refl _ _, hG⟩
          simp [slotOf] at h1
          simp [execOp, go_sem, h1]
        · intro a W hG hO hE hp
          have h8 := hO.slot 8 (by kernel_rfl)
          refine wp_yields (v := vi k) ?_ ⟨_, rfl, rfl, Below.refl _ _, hG⟩
          simp [slotOf] at h8
          simp [execOp, go_sem, h8]
        · intro a W hG hO hE hp
          have h9 := hO.slot 9 (by kernel_rfl)
          have c0 := keep_cell z0 hG
          have c1 := keep_cell z1 hG
          have c2 := keep_cell z2 hG
          have c3 := keep_cell z3 hG
          have c4 := keep_cell z4 hG
          have c5 := keep_cell z5 hG
          have c6 := keep_cell z6 hG
          have c7 := keep_cell z7 hG
          refine wp_yields (v := bdV b) ?_ ⟨_, rfl, rfl, Below.refl _ _, hG⟩
          simp [slotOf] at h9
          simp [execOp, go_sem, h9, c0, c1, c2, c3, c4, c5, c6, c7]
        · intro a W hG hO hE hp
          have h19 : slotOf a 19 = .func (.func F) #[] cp := hp.1
          have h20 : slotOf a 20 = vi k := hp.2.1
          have h21 : slotOf a 21 = bdV b := hp.2.2.1
          obtain ⟨ar, har⟩ : ∃ ar, ar = #[vi k, bdV b] ++ cp := ⟨_, rfl⟩
          have hcc := HT.out W hG
          rw [← har] at hcc
          refine wp_enters (f := F) (args := ar) ?_ (hcc.mono ?_)
          · simp [slotOf] at h19 h20 h21
            rw [har]
            simp [execOp, go_sem, h19, h20, h21, hF]
          · rintro e w' ⟨rfl, hb⟩
            exact ⟨_, rfl, _, rfl, rfl, hb, below_next hG hb⟩
        · intro a W hG hO hE hp
          have h18 : slotOf a 18 = bdV b := hp.1
          have h22 : slotOf a 22 = rlV y := hp.2.1
          refine wp_enters (f := 89) (args := #[bdV b, rlV y]) ?_ ((HH.out W).mono ?_)
          · simp [slotOf] at h18 h22
            simp [go_sem, h18, h22]
          · rintro e w' ⟨rfl, hb⟩
            exact ⟨_, rfl, _, rfl, rfl, hb, below_next hG hb⟩
        · intro a W hG hO hE hp
          have h17 : slotOf a 17 = vi h := hp.1
          have h23 : slotOf a 23 = vi hb := hp.2.1
          refine wp_yields (v := vi (h + hb)) ?_ ⟨_, rfl, rfl, Below.refl _ _, hG⟩
          simp [slotOf] at h17 h23
          simp [execOp, go_sem, h17, h23, HC.out.1]
        · intro a W hG hO hE hp
          have h7 := hO.slot 7 (by kernel_rfl)
          refine wp_yields (v := vi d) ?_ ⟨_, rfl, rfl, Below.refl _ _, hG⟩
          simp [slotOf] at h7
          simp [execOp, go_sem, h7]
        · intro a W hG hO hE hp
          have h9 := hO.slot 9 (by kernel_rfl)
          refine wp_yields (v := .pointer (some ⟨w2.heap.size, 0, none⟩)) ?_ ⟨_, rfl, rfl, Below.refl _ _, hG⟩
          simp [slotOf] at h9
          simp [execOp, go_sem, h9]
        · intro a W hG hO hE hp
          have h26 : slotOf a 26 = .pointer (some ⟨w2.heap.size, 0, none⟩) := hp.1
          have c0 := keep_cell z0 hG
          refine wp_yields (v := vi b.drive) ?_ ⟨_, rfl, rfl, Below.refl _ _, hG⟩
          simp [slotOf] at h26
          simp [execOp, go_sem, h26, c0]
        · intro a W hG hO hE hp
          have h25 : slotOf a 25 = vi d := hp.1
          have h27 : slotOf a 27 = vi b.drive := hp.2.1
          refine wp_yields (v := vi (d + b.drive)) ?_ ⟨_, rfl, rfl, Below.refl _ _, hG⟩
          simp [slotOf] at h25 h27
          simp [execOp, go_sem, h25, h27, HC.out.2]
        · intro a W hG hO hE hp
          have h24 : slotOf a 24 = vi (h + hb) := hp.1
          refine wp_yields (v := vi (h + hb)) ?_ ⟨_, rfl, rfl, Below.refl _ _, hG⟩
          simp [slotOf] at h24
          simp [execOp, go_sem, h24]
      · intro wz hG
        rintro _ rfl _ rfl _ rfl _ rfl _ rfl _ rfl _ rfl _ rfl _ rfl _ rfl _ rfl _ rfl _ rfl
        change wpList _ _ _ _ _ _
        simp only [Act.put, List.setIfInBounds_toArray, List.set_cons_zero, List.set_cons_succ, List.drop_succ_cons, List.drop_zero]
        have HE := Lib.hid (newer_trans HN3.out hG)
        clear hG z0 z1 z2 z3 z4 z5 z6 z7
        go_wp2_with fail
        refine ⟨⟨k + 1, by omega, rfl, by rw [HS.out.1], by rw [HS.out.2], HE.out⟩, ?_⟩
        simp [intOf]
        omega
    · obtain rfl : k = l.length := by omega
      rw [← HHD.out.1] at hh ⊢
      rw [← HHD.out.2] at hd ⊢
      by_cases hd1 : D < 1
      · have HF : Hid (facV H D = .tuple #[vi 0, .bool false]) := Lib.hid (by unfold facV; rw [if_pos hd1])
        go_wp2_with fail
        exact bodyPost_ret (v := .tuple #[vi 0, .bool false]) (by simp [results, Try.results59, go_sem]) rfl ⟨by rw [HF.out], hn⟩
      · have HF : Hid (facV H D = .tuple #[vi (factorN H D), .bool true]) := Lib.hid (by unfold facV; rw [if_neg hd1])
        by_cases hmn : 1000 * H / D < 10000
        · have HFN : Hid (factorN H D = 1000 * H / D) := Lib.hid (by unfold factorN mnI; rw [if_pos hmn])
          go_wp2_with fail
          exact bodyPost_ret (v := .tuple #[vi (1000 * H / D), .bool true]) (by simp [results, Try.results59, go_sem]) rfl ⟨by rw [HF.out, HFN.out], hn⟩
        · have HFN : Hid (factorN H D = 10000) := Lib.hid (by unfold factorN mnI; rw [if_neg hmn])
          go_wp2_with fail
          exact bodyPost_ret (v := .tuple #[vi 10000, .bool true]) (by simp [results, Try.results59, go_sem]) rfl ⟨by rw [HF.out, HFN.out], hn⟩
theorem way_lt {n : Nat} : ∀ (l : List Nat) (i b : Nat), wayB n l → l[i]? = some b → b < n
  | [], _, _, _, h => by simp at h
  | x :: t, 0, b, hw, h => by
    have e : x = b := by simpa using h
    exact e ▸ hw.1
  | x :: t, i + 1, b, hw, h => way_lt t i b hw.2.2 (by simpa using h)
theorem bdAt_is {s : Sm} (hs : SdOk s.sd) {k j : Nat} (hk : k < s.cs.length) (hj : j < s.sd.n) : ∃ x, s.cs[k]? = some x ∧ x.beds[j]? = some (bdAt s.sd.cols k j) ∧ x.beds.length = s.sd.n ∧ bdB (bdAt s.sd.cols k j) = true := by
  obtain ⟨x, b, h1, h2, h3, h4, h5⟩ := sm_bed hs hk hj
  have e : bdAt s.sd.cols k j = b := by unfold bdAt; rw [h4]; rfl
  rw [e]
  exact ⟨x, h1, h2, h3, h5⟩
theorem bedsL_ok {s : Sm} (hs : SdOk s.sd) {k : Nat} {l : List Nat} (hw : wayB s.sd.n l) (hk : k + l.length ≤ s.cs.length) : ∀ b ∈ bedsL s.sd.cols k l, bdB b = true := by
  intro b hb
  obtain ⟨i, hi⟩ := List.mem_iff_getElem?.1 hb
  have hil := (List.getElem?_eq_some_iff.1 hi).1
  rw [bedsL_len] at hil
  obtain ⟨x, hx⟩ := get_of_lt hil
  rw [bedsL_get _ _ _ _ _ hx] at hi
  obtain ⟨y, _, _, _, h⟩ := bdAt_is hs (k := k + i) (j := x) (by omega) (way_lt l i x hw hx)
  injection hi with hi
  rw [← hi]
  exact h
set_option maxRecDepth 100000 in
set_option maxHeartbeats 1000000 in
theorem bedsU_any (s : Sm) (u : Su) (k0 : Nat) (l : List Nat) (w : World) (hok : SmOk s w) (hs : SdOk s.sd) (hu : SuOk u w) (hf : u.frm = k0) (hl : u.beds = l.map fun x : Nat => (x : Int)) (hsf : SurfB s.sd.n s.cs.length s.sd.K k0 l) :
    Calls Try.prog 58 #[smV s, suV u] w fun e w' => ∃ A c, e = .returned (.slice A l.length c) ∧ w'.ownsRow w.heap.size 104 8 (.slice A l.length c) l.length ((bedsL s.sd.cols k0 l).flatMap bdL) ∧ newer w w' := by
  have hcl : s.cs.length ≤ 12 := by have h1 := hs.cols; rw [sd_len] at h1; omega
  have hul : u.beds.length = l.length := by rw [hl]; simp
  have hll : 1 ≤ l.length := by have h1 := hsf.1; have h2 := (hd_ok hs false).K0; omega
  obtain ⟨y0, hy0⟩ := get_of_lt (l := s.cs) (k := 0) (by have := hsf.2.1; omega)
  obtain ⟨b1, o1, ea, _, _⟩ := rowC hok.cs hy0
  obtain ⟨b2, o2, eu, _⟩ := row1k hu (k := 0) (by omega)
  have hnw : newer w ((w.alloc (.cells (smC s) 37)).alloc (.cells (suC u) 39)) := newer_trans (newer_allocH _ _) (newer_allocH _ _)
  have hxb := (Whole.made w 37 (smC s)).alloc (.cells (suC u) 39)
  have hub := Whole.made (w.alloc (.cells (smC s) 37)) 39 (suC u)
  rw [World.size_alloc] at hub
  have H0 := Lib.hid (And.intro hnw (And.intro hxb hub))
  have u1 := hub.at 1 (v := .slice u.a u.beds.length u.c) rfl
  rw [eu, hul] at u1
  have HEA := Lib.hid (And.intro ea eu)
  have HOK := Lib.hid hok
  have HU := Lib.hid hu
  have HSD := Lib.hid hs
  have HSF := Lib.hid (And.intro hsf (And.intro hf (And.intro hl hul)))
  have hkl : k0 + l.length ≤ s.cs.length := hsf.2.1
  obtain ⟨i0, hi0, hz0, hz1, hz2⟩ := info_parts info_bd
  have HI := Lib.hid (And.intro hi0 (And.intro hz0 (And.intro hz1 hz2)))
  clear hok hs hu hsf hf hl hul hnw hxb hub ea eu hy0 hi0 hz0 hz1 hz2
  go_enter Try.func58, Try.ntmps58
  go_wp2_with fail
  go_loopw [4, 10] (fun s4 s10 wr => ∃ (k : Nat) (A : Option Addr) (c : Nat), s10 = vi k ∧ k ≤ l.length ∧ s4 = .slice A k c ∧ wr.ownsRow w.heap.size 104 8 (.slice A k c) k (((bedsL s.sd.cols k0 l).take k).flatMap bdL) ∧ newer w wr ∧ Whole wr w.heap.size 37 (smC s) ∧ Whole wr (w.heap.size + 1) 39 (suC u)) (fun _ s10 _ => l.length - (intOf s10).toNat)
  case atStart => exact ⟨0, none, 0, rfl, Nat.zero_le _, rfl, ⟨rfl, .inl ⟨rfl, rfl⟩⟩, H0.out.1, H0.out.2.1, H0.out.2.2⟩
  case round =>
    obtain ⟨k, A, c, rfl, hk, rfl, hown, hn, hx, hu2⟩ := hrel
    clear u1 H0
    have HJ := Lib.hid (And.intro hown (And.intro hn (And.intro hx hu2)))
    by_cases hlt : k < l.length
    · obtain ⟨b, hb⟩ := get_of_lt hlt
      have hbn := way_lt l k b HSF.out.1.2.2 hb
      obtain ⟨kk, hkk0⟩ : ∃ kk, kk = k0 + k := ⟨_, rfl⟩
      obtain ⟨x, hx1, hx2, hx3, _⟩ := bdAt_is HSD.out (k := kk) (j := b) (by omega) hbn
      obtain ⟨bd, hbd⟩ : ∃ bd, bd = bdAt s.sd.cols kk b := ⟨_, rfl⟩
      rw [← hbd] at hx2
      have HG := Lib.hid (show (bedsL s.sd.cols k0 l)[k]? = some bd by rw [hbd, hkk0]; exact bedsL_get _ l k0 k b hb)
      obtain ⟨b3, o3, e3, _, cx⟩ := rowC (HOK.out.next hn).cs hx1
      rw [HEA.out.1] at e3
      obtain ⟨rfl, rfl⟩ : b1 = b3 ∧ o1 = o3 := by simpa using e3
      obtain ⟨b4, o4, e4, _, d0, d1, d2, d3, d4, d5, d6, d7⟩ := row8 ((HOK.out.next hn).bd x (List.mem_of_getElem? hx1)) hx2
      rw [e4] at cx
      obtain ⟨b5, o5, e5, p0⟩ := row1k (HU.out.next hn) (k := k) (by rw [HSF.out.2.2.2]; exact hlt)
      rw [HEA.out.2] at e5
      obtain ⟨rfl, rfl⟩ : b2 = b5 ∧ o2 = o5 := by simpa using e5
      have ep : iAt u.beds k = (b : Int) := by rw [HSF.out.2.2.1]; simp [iAt, hb]
      rw [ep] at p0
      have x0 := hx.at 0 (v := .slice s.a s.cs.length s.c) rfl
      rw [HEA.out.1] at x0
      have u0 := hu2.at 0 (v := vi u.frm) rfl
      rw [HSF.out.2.1] at u0
      have hkk : ((k0 : Int) + k) = (kk : Int) := by omega
      have hkc : (kk : Int) < s.cs.length := by omega
      have hbx : (b : Int) < x.beds.length := by omega
      have hk12 : k ≤ 12 := by omega
      have hk012 : k0 ≤ 12 := by omega
      have hn1 := newer_allocH wr (.cells (bdC bd) 104)
      have HO := Lib.hid (own_below hown hn1)
      have HNW : Hid (newer w (wr.alloc (.cells (bdC bd) 104))) := Lib.hid (newer_trans hn hn1)
      have HJ2 := Lib.hid (And.intro (hx.below hn1 hx.lt) (hu2.below hn1 hu2.lt))
      have HWN := Lib.hid (World.news_of_block (Whole.made wr 104 (bdC bd)))
      clear hkk0 hown hn hx hu2 hn1 hx1 hx2 hx3 hbd e3 e4 e5 ep hbn hb HJ
      go_wp2_with (at_builtin; go_loud ((refine wpList_append_lies _ rfl (.tmp 15) (.tmp 27) 105 rfl w.heap.size 104 i0 (.agg #[vi 0, vi 0, vi 0, vi 0, vi 0, vi 0, vi 0, vi 0]) 8 64 Try.underlying105 HI.out.1 HI.out.2.1 HI.out.2.2.1 HI.out.2.2.2 rfl (by omega) _ k _ rfl HO.out ⟨wr.heap.size, 0, none⟩ 1 1 (bdL bd) rfl rfl HWN.out (by simp [Value.oneCell']) (by omega) (by unfold maxLen; omega) (by omega) HNW.out.size (wr.alloc (.cells (bdC bd) 104)).heap.size rfl ?_); intro gg cp2 w2 hown2 hgrow2 hat2 hlt2; rw [← take_flat bdL _ k bd HG.out] at hown2; have HE := Lib.hid (And.intro hown2 (And.intro hgrow2 (own_ge HO.out))); clear hown2 hgrow2 hat2 hlt2))
      refine ⟨⟨k + 1, some ⟨gg, 0, none⟩, cp2, rfl, by omega, rfl, HE.out.1, ?_, ?_, ?_⟩, ?_⟩
      · exact below_grown (grown_trans' (grown_of_newer HNW.out _) HE.out.2.1) HE.out.2.2 (Nat.le_refl _)
      · exact HJ2.out.1.grown HE.out.2.1 (fun e => own_ne HO.out HJ2.out.1 (by decide) e.symm)
      · exact HJ2.out.2.grown HE.out.2.1 (fun e => own_ne HO.out HJ2.out.2 (by decide) e.symm)
      · simp [intOf]
        omega
    · obtain rfl : k = l.length := by omega
      have HE := Lib.hid (show wr.ownsRow w.heap.size 104 8 (.slice A l.length c) l.length ((bedsL s.sd.cols k0 l).flatMap bdL) by
        have h1 := HJ.out.1
        rw [List.take_of_length_le (by rw [bedsL_len]; omega)] at h1
        exact h1)
      go_wp2_with fail
      go_ret
      exact ⟨A, c, rfl, HE.out, hn⟩
end

section
open Go.RowKit Go.Shelf Go.Deep
theorem way_get {n : Nat} : ∀ (l : List Nat) (i b c : Nat), wayB n l → l[i]? = some b → l[i + 1]? = some c → b ≤ c + 1 ∧ c ≤ b + 1
  | [], _, _, _, _, h, _ => by simp at h
  | x :: t, 0, b, c, hw, h, h2 => by
    have e : x = b := by simpa using h
    have h3 : t[0]? = some c := by simpa using h2
    exact e ▸ hw.2.1 c (by rw [List.head?_eq_getElem?]; exact h3)
  | x :: t, i + 1, b, c, hw, h, h2 => way_get t i b c hw.2.2 (by simpa using h) (by simpa using h2)
theorem way_of {n : Nat} : ∀ (l : List Nat), (∀ (i b : Nat), l[i]? = some b → b < n) → (∀ (i b c : Nat), l[i]? = some b → l[i + 1]? = some c → b ≤ c + 1 ∧ c ≤ b + 1) → wayB n l
  | [], _, _ => trivial
  | x :: t, h1, h2 => ⟨h1 0 x rfl, fun c hc => h2 0 x c rfl (by rw [List.head?_eq_getElem?] at hc; simpa using hc), way_of t (fun i b h => h1 (i + 1) b (by simpa using h)) (fun i b c hb hc => h2 (i + 1) b c (by simpa using hb) (by simpa using hc))⟩
theorem natL_of {l : List Int} (h : ∀ i, i < l.length → 0 ≤ iAt l i) : (l.map Int.toNat).map (fun x : Nat => (x : Int)) = l := by
  rw [List.map_map]
  refine (List.map_congr_left fun x hx => ?_).trans (List.map_id l)
  obtain ⟨i, hi⟩ := List.mem_iff_getElem?.1 hx
  have h1 := h i (List.getElem?_eq_some_iff.1 hi).1
  rw [iAt_of hi] at h1
  show ((x.toNat : Nat) : Int) = x
  omega
theorem goodB_iff {n : Nat} {p : Nat → Bool} : goodB n p = true ↔ ∀ j, j < n → p j = true := by
  unfold goodB
  rw [List.all_eq_true]
  exact ⟨fun h j hj => h j (List.mem_range.2 hj), fun h x hx => h x (List.mem_range.1 hx)⟩
theorem surfB_nat {s : Sd} (hs : SdOk s) {k : Nat} {l : List Nat} : surfB s k (l.map fun x : Nat => (x : Int)) = true ↔ SurfB s.n s.cols.length s.K k l := by
  have hK : (s.K : Int) = s.least := by have := hs.least; unfold Sd.K; omega
  have hg : ∀ i, i < l.length → iAt (l.map fun x : Nat => (x : Int)) i = ((l.getD i 0 : Nat) : Int) := fun i hi => by
    obtain ⟨b, hb⟩ := get_of_lt hi
    simp [iAt, hb, List.getD]
  unfold surfB SurfB
  rw [List.length_map, Bool.and_eq_true, Bool.and_eq_true, Bool.and_eq_true, decide_eq_true_eq, decide_eq_true_eq, decide_eq_true_eq, goodB_iff]
  have hn := hs.beds
  constructor
  · rintro ⟨⟨⟨_, h2⟩, h3⟩, h4⟩
    have h5 : ∀ (i b : Nat), l[i]? = some b → b < s.n := fun i b hb => by
      have hi := (List.getElem?_eq_some_iff.1 hb).1
      have h6 := h4 i hi
      unfold okB at h6
      rw [Bool.and_eq_true, hg i hi] at h6
      have h7 := h6.1
      simp only [inB, Bool.and_eq_true, decide_eq_true_eq, List.getD, hb, Option.getD_some] at h7
      omega
    refine ⟨by omega, by omega, way_of l h5 fun i b c hb hc => ?_⟩
    have hi := (List.getElem?_eq_some_iff.1 hc).1
    have h6 := h4 (i + 1) hi
    unfold okB at h6
    rw [Bool.and_eq_true, hg (i + 1) hi, show i + 1 - 1 = i by omega, hg i (by omega)] at h6
    have h7 := h6.2
    simp only [inB, Bool.or_eq_true, Bool.and_eq_true, decide_eq_true_eq, List.getD, hb, hc, Option.getD_some] at h7
    omega
  · rintro ⟨h1, h2, h3⟩
    refine ⟨⟨⟨by omega, by omega⟩, by omega⟩, fun i hi => ?_⟩
    obtain ⟨b, hb⟩ := get_of_lt hi
    have hbn := way_lt l i b h3 hb
    unfold okB
    rw [Bool.and_eq_true, hg i hi]
    refine ⟨by simp only [inB, Bool.and_eq_true, decide_eq_true_eq, List.getD, hb, Option.getD_some]; omega, ?_⟩
    by_cases h0 : i = 0
    · simp [h0]
    · rw [hg (i - 1) (by omega)]
      obtain ⟨c, hc⟩ := get_of_lt (l := l) (k := i - 1) (by omega)
      have h4 := way_get l (i - 1) c b h3 hc (by rw [show i - 1 + 1 = i by omega]; exact hb)
      simp only [inB, Bool.or_eq_true, Bool.and_eq_true, decide_eq_true_eq, List.getD, hb, hc, Option.getD_some]
      omega
theorem surfB_parts {s : Sd} (hs : SdOk s) {frm : Int} {l : List Int} (h : surfB s frm l = true) : frm = (frm.toNat : Nat) ∧ l = (l.map Int.toNat).map (fun x : Nat => (x : Int)) ∧ SurfB s.n s.cols.length s.K frm.toNat (l.map Int.toNat) := by
  have h0 := h
  unfold surfB at h0
  rw [Bool.and_eq_true, Bool.and_eq_true, Bool.and_eq_true, decide_eq_true_eq, decide_eq_true_eq, decide_eq_true_eq, goodB_iff] at h0
  have e1 : frm = (frm.toNat : Nat) := by omega
  have e2 : l = (l.map Int.toNat).map (fun x : Nat => (x : Int)) := (natL_of fun i hi => by
    have h6 := h0.2 i hi
    unfold okB at h6
    rw [Bool.and_eq_true] at h6
    have h7 := h6.1
    simp only [inB, Bool.and_eq_true, decide_eq_true_eq] at h7
    exact h7.1).symm
  refine ⟨e1, e2, (surfB_nat hs).1 ?_⟩
  rw [← e1, ← e2]
  exact h
/-- The beds of a surface, and their factors. -/
def bedsU (s : Sd) (frm : Int) (l : List Int) : List Bd := bedsL s.cols frm.toNat (l.map Int.toNat)
def facE (bs : List Bd) (hi : Bool) : Int := factorN (hK bs (fun i => endR hi (bs.getD i zeroBd)) bs.length) (dK bs bs.length)
def spanV (s : Sd) (frm : Int) (l : List Int) : Value := .tuple (if checkUN s frm l = 0 then (if dK (bedsU s frm l) (bedsU s frm l).length < 1 then #[.agg #[vi 0, vi 0], vi 7] else #[.agg #[vi (facE (bedsU s frm l) false), vi (facE (bedsU s frm l) true)], vi 0]) else #[.agg #[vi 0, vi 0], vi (checkUN s frm l)])
theorem checkU_zero {s : Sd} {frm : Int} {l : List Int} (h : checkUN s frm l = 0) : SdOk s ∧ surfB s frm l = true := by
  unfold checkUN at h
  cases hv : slopeB s with
  | false => rw [hv] at h; simp at h
  | true =>
    rw [hv] at h
    cases hf : surfB s frm l with
    | false => rw [hf] at h; simp at h
    | true => exact ⟨sdOk_iff.1 hv, rfl⟩
set_option maxHeartbeats 1000000 in
theorem spanLo_any (i : Int) (b : Bd) (w : World) : Calls Try.prog 60 #[vi i, bdV b] w fun e w' => e = .returned (rlV (endR false b)) ∧ newer w w' := by
  have hnw := newer_trans (newer_allocH w (.cells (bdC b) 104)) (newer_allocH (w.alloc (.cells (bdC b) 104)) (.cells #[vi 0, vi 0, vi 0] 101))
  have hbx := (Whole.made w 104 (bdC b)).alloc (.cells #[vi 0, vi 0, vi 0] 101)
  have hrb := Whole.made (w.alloc (.cells (bdC b) 104)) 101 #[vi 0, vi 0, vi 0]
  simp only [World.size_alloc] at hrb
  obtain ⟨x, hx⟩ : ∃ x, x = endR false b := ⟨_, rfl⟩
  have HA := Lib.hid (fun W => least_any b W)
  rw [← hx] at HA ⊢
  clear hx
  have H1 := Lib.hid (And.intro (hnw) (And.intro (hbx) (hrb)))
  clear hnw hbx hrb
  have x0 := H1.out.2.1.at 0 (v := vi b.drive) rfl
  have x1 := H1.out.2.1.at 1 (v := vi b.normal) rfl
  have x2 := H1.out.2.1.at 2 (v := vi b.fr.lo) rfl
  have x3 := H1.out.2.1.at 3 (v := vi b.fr.hi) rfl
  have x4 := H1.out.2.1.at 4 (v := vi b.co.lo) rfl
  have x5 := H1.out.2.1.at 5 (v := vi b.co.hi) rfl
  have x6 := H1.out.2.1.at 6 (v := vi b.wa.lo) rfl
  have x7 := H1.out.2.1.at 7 (v := vi b.wa.hi) rfl
  go_enter Try.func60, Try.ntmps60
  go_wp2_with fail
  refine (HA.out _).mono ?_
  rintro e w2 ⟨rfl, hb⟩
  have H3 := Lib.hid (And.intro ((newer_trans H1.out.1 hb)) (And.intro ((H1.out.2.1.below hb H1.out.2.1.lt)) ((H1.out.2.2.below hb H1.out.2.2.lt))))
  clear hb HA H1 x0 x1 x2 x3 x4 x5 x6 x7
  have f0 := H3.out.2.2.free 0
  have f1 := H3.out.2.2.free 1
  have f2 := H3.out.2.2.free 2
  have r0 := H3.out.2.2.at 0 (v := vi 0) rfl
  have r1 := H3.out.2.2.at 1 (v := vi 0) rfl
  have r2 := H3.out.2.2.at 2 (v := vi 0) rfl
  go_wp2_with fail
  have HZ := Lib.hid (And.intro (((H3.out.1.setCell (p := ⟨w.heap.size + 1, 0, none⟩) (Nat.le_succ _) (vi x.fr)).setCell (p := ⟨w.heap.size + 1, 1, none⟩) (Nat.le_succ _) (vi x.co)).setCell (p := ⟨w.heap.size + 1, 2, none⟩) (Nat.le_succ _) (vi x.wa)) (((H3.out.2.2.set 0 (vi x.fr)).set 1 (vi x.co)).set 2 (vi x.wa)))
  have z0 := HZ.out.2.at 0 (v := vi x.fr) rfl
  have z1 := HZ.out.2.at 1 (v := vi x.co) rfl
  have z2 := HZ.out.2.at 2 (v := vi x.wa) rfl
  exact bodyPost_ret (v := .agg #[vi x.fr, vi x.co, vi x.wa]) (by simp [results, Try.results60, go_sem, z0, z1, z2]) rfl ⟨rfl, HZ.out.1⟩
set_option maxHeartbeats 1000000 in
theorem spanHi_any (i : Int) (b : Bd) (w : World) : Calls Try.prog 62 #[vi i, bdV b] w fun e w' => e = .returned (rlV (endR true b)) ∧ newer w w' := by
  have hnw := newer_trans (newer_allocH w (.cells (bdC b) 104)) (newer_allocH (w.alloc (.cells (bdC b) 104)) (.cells #[vi 0, vi 0, vi 0] 101))
  have hbx := (Whole.made w 104 (bdC b)).alloc (.cells #[vi 0, vi 0, vi 0] 101)
  have hrb := Whole.made (w.alloc (.cells (bdC b) 104)) 101 #[vi 0, vi 0, vi 0]
  simp only [World.size_alloc] at hrb
  obtain ⟨x, hx⟩ : ∃ x, x = endR true b := ⟨_, rfl⟩
  have HA := Lib.hid (fun W => most_any b W)
  rw [← hx] at HA ⊢
  clear hx
  have H1 := Lib.hid (And.intro (hnw) (And.intro (hbx) (hrb)))
  clear hnw hbx hrb
  have x0 := H1.out.2.1.at 0 (v := vi b.drive) rfl
  have x1 := H1.out.2.1.at 1 (v := vi b.normal) rfl
  have x2 := H1.out.2.1.at 2 (v := vi b.fr.lo) rfl
  have x3 := H1.out.2.1.at 3 (v := vi b.fr.hi) rfl
  have x4 := H1.out.2.1.at 4 (v := vi b.co.lo) rfl
  have x5 := H1.out.2.1.at 5 (v := vi b.co.hi) rfl
  have x6 := H1.out.2.1.at 6 (v := vi b.wa.lo) rfl
  have x7 := H1.out.2.1.at 7 (v := vi b.wa.hi) rfl
  go_enter Try.func62, Try.ntmps62
  go_wp2_with fail
  refine (HA.out _).mono ?_
  rintro e w2 ⟨rfl, hb⟩
  have H3 := Lib.hid (And.intro ((newer_trans H1.out.1 hb)) (And.intro ((H1.out.2.1.below hb H1.out.2.1.lt)) ((H1.out.2.2.below hb H1.out.2.2.lt))))
  clear hb HA H1 x0 x1 x2 x3 x4 x5 x6 x7
  have f0 := H3.out.2.2.free 0
  have f1 := H3.out.2.2.free 1
  have f2 := H3.out.2.2.free 2
  have r0 := H3.out.2.2.at 0 (v := vi 0) rfl
  have r1 := H3.out.2.2.at 1 (v := vi 0) rfl
  have r2 := H3.out.2.2.at 2 (v := vi 0) rfl
  go_wp2_with fail
  have HZ := Lib.hid (And.intro (((H3.out.1.setCell (p := ⟨w.heap.size + 1, 0, none⟩) (Nat.le_succ _) (vi x.fr)).setCell (p := ⟨w.heap.size + 1, 1, none⟩) (Nat.le_succ _) (vi x.co)).setCell (p := ⟨w.heap.size + 1, 2, none⟩) (Nat.le_succ _) (vi x.wa)) (((H3.out.2.2.set 0 (vi x.fr)).set 1 (vi x.co)).set 2 (vi x.wa)))
  have z0 := HZ.out.2.at 0 (v := vi x.fr) rfl
  have z1 := HZ.out.2.at 1 (v := vi x.co) rfl
  have z2 := HZ.out.2.at 2 (v := vi x.wa) rfl
  exact bodyPost_ret (v := .agg #[vi x.fr, vi x.co, vi x.wa]) (by simp [results, Try.results62, go_sem, z0, z1, z2]) rfl ⟨rfl, HZ.out.1⟩
theorem end_rlB {b : Bd} (h : bdB b = true) (hi : Bool) : rlB (endR hi b) = true := by
  obtain ⟨_, _, h3, h4, h5⟩ := bdB_parts h
  cases hi <;> simp [rlB, inB, endR] <;> omega
theorem facEnd_any (F : Nat) (hi : Bool) (hF : ∀ (args : Array Value) (W : World), (callFunc F args).run Try.prog W = .ok (.enter F args) W) (hC : ∀ (i : Int) (b : Bd) (W : World), Calls Try.prog F #[vi i, bdV b] W fun e w' => e = .returned (rlV (endR hi b)) ∧ newer W w')
    (l : List Bd) (A : Option Addr) (c : Nat) (w : World) (hl : l.length ≤ 1000) (hr : Row bdL 8 w w.heap.size A l) (hbd : ∀ b ∈ l, bdB b = true) :
    Calls Try.prog 59 #[.slice A l.length c, .func (.func F) #[] #[]] w fun e w' => e = .returned (facV (hK l (fun i => endR hi (l.getD i zeroBd)) l.length) (dK l l.length)) ∧ newer w w' := by
  refine factor_any l A c F #[] (fun i => endR hi (l.getD i zeroBd)) w hl hr hbd (fun i hi2 => ?_) hF (fun i b W hb _ => ?_)
  · obtain ⟨b, hb⟩ := get_of_lt hi2
    have e : l.getD i zeroBd = b := by simp [List.getD, hb]
    rw [e]
    exact end_rlB (hbd b (List.mem_of_getElem? hb)) hi
  · have e : l.getD i zeroBd = b := by simp [List.getD, hb]
    rw [e]
    exact hC i b W
set_option maxRecDepth 100000 in
set_option maxHeartbeats 1000000 in
theorem span_any (s : Sm) (u : Su) (w : World) (hok : SmOk s w) (few : SmFew s) (hu : SuOk u w) (hul : u.beds.length ≤ 1000) : Calls Try.prog 18 #[smV s, suV u] w fun e w' => e = .returned (spanV s.sd u.frm u.beds) ∧ newer w w' := by
  have hnw : newer w (((w.alloc (.cells (smC s) 37)).alloc (.cells (suC u) 39)).alloc (.cells #[vi 0, vi 0] 31)) := newer_trans (newer_trans (newer_allocH _ _) (newer_allocH _ _)) (newer_allocH _ _)
  have e3 := newer_allocH ((w.alloc (.cells (smC s) 37)).alloc (.cells (suC u) 39)) (.cells #[vi 0, vi 0] 31)
  have hxb0 := (Whole.made w 37 (smC s)).alloc (.cells (suC u) 39)
  have hub0 := Whole.made (w.alloc (.cells (smC s) 37)) 39 (suC u)
  have hrb := Whole.made ((w.alloc (.cells (smC s) 37)).alloc (.cells (suC u) 39)) 31 #[vi 0, vi 0]
  rw [World.size_alloc] at hub0
  rw [World.size_alloc, World.size_alloc] at hrb
  have hxb := hxb0.below e3 hxb0.lt
  have hub := hub0.below e3 hub0.lt
  have H0 := Lib.hid (And.intro hnw (And.intro hxb (And.intro hub hrb)))
  have HCU := Lib.hid (checkU_any s u _ (hok.next hnw) few (hu.next hnw) hul)
  have x0 := hxb.at 0 (v := .slice s.a s.cs.length s.c) rfl
  have x1 := hxb.at 1 (v := vi s.least) rfl
  have u0 := hub.at 0 (v := vi u.frm) rfl
  have u1 := hub.at 1 (v := .slice u.a u.beds.length u.c) rfl
  have HOK := Lib.hid (And.intro hok hu)
  have HZ : Hid (checkUN s.sd u.frm u.beds = 0 → SdOk s.sd ∧ surfB s.sd u.frm u.beds = true) := Lib.hid checkU_zero
  unfold spanV
  obtain ⟨a, ha⟩ : ∃ a, a = checkUN s.sd u.frm u.beds := ⟨_, rfl⟩
  rw [← ha] at HCU HZ ⊢
  clear ha hok few hu hul hnw hxb hub hxb0 hub0 hrb e3
  by_cases hz : a = 0
  · subst hz
    obtain ⟨hs, hsf⟩ := HZ.out rfl
    obtain ⟨p1, p2, p3⟩ := surfB_parts hs hsf
    rw [if_pos rfl]
    obtain ⟨k0, hk0⟩ : ∃ k0, k0 = u.frm.toNat := ⟨_, rfl⟩
    obtain ⟨l, hl⟩ : ∃ l, l = u.beds.map Int.toNat := ⟨_, rfl⟩
    rw [← hk0] at p1 p3
    rw [← hl] at p2 p3
    rw [sd_len] at p3
    have HBE : Hid (∀ W, newer w W → Calls Try.prog 58 #[smV s, suV u] W fun e w' => ∃ A c, e = .returned (.slice A l.length c) ∧ w'.ownsRow W.heap.size 104 8 (.slice A l.length c) l.length ((bedsL s.sd.cols k0 l).flatMap bdL) ∧ newer W w') := Lib.hid (fun W hW => bedsU_any s u k0 l W (HOK.out.1.next hW) hs (HOK.out.2.next hW) p1 p2 p3)
    have hll : l.length ≤ 12 := by have h1 := p3.2.1; have h2 := hs.cols; rw [sd_len] at h2; omega
    have HBO := Lib.hid (bedsL_ok hs p3.2.2 p3.2.1)
    have eb : bedsU s.sd u.frm u.beds = bedsL s.sd.cols k0 l := by unfold bedsU; rw [← hk0, ← hl]
    rw [eb]
    have hbl := bedsL_len s.sd.cols l k0
    obtain ⟨bs, hbs⟩ : ∃ bs, bs = bedsL s.sd.cols k0 l := ⟨_, rfl⟩
    rw [← hbs] at HBE HBO hbl ⊢
    have HFL : Hid (∀ (A : Option Addr) (c : Nat) W, Row bdL 8 W W.heap.size A bs → Calls Try.prog 59 #[.slice A l.length c, .func (.func 60) #[] #[]] W fun e w' => e = .returned (facV (hK bs (fun i => endR false (bs.getD i zeroBd)) bs.length) (dK bs bs.length)) ∧ newer W w') := Lib.hid (fun A c W hW => by
      have h := facEnd_any 60 false (fun args W => by simp [go_sem]) (fun i b W => spanLo_any i b W) bs A c W (by omega) hW HBO.out
      rw [hbl] at h ⊢
      exact h)
    have HFH : Hid (∀ (A : Option Addr) (c : Nat) W, Row bdL 8 W W.heap.size A bs → Calls Try.prog 59 #[.slice A l.length c, .func (.func 62) #[] #[]] W fun e w' => e = .returned (facV (hK bs (fun i => endR true (bs.getD i zeroBd)) bs.length) (dK bs bs.length)) ∧ newer W w') := Lib.hid (fun A c W hW => by
      have h := facEnd_any 62 true (fun args W => by simp [go_sem]) (fun i b W => spanHi_any i b W) bs A c W (by omega) hW HBO.out
      rw [hbl] at h ⊢
      exact h)
    unfold facE
    obtain ⟨H1, hH1⟩ : ∃ H, H = hK bs (fun i => endR false (bs.getD i zeroBd)) bs.length := ⟨_, rfl⟩
    obtain ⟨H2, hH2⟩ : ∃ H, H = hK bs (fun i => endR true (bs.getD i zeroBd)) bs.length := ⟨_, rfl⟩
    obtain ⟨D, hD⟩ : ∃ D, D = dK bs bs.length := ⟨_, rfl⟩
    rw [← hH1, ← hD] at HFL ⊢
    rw [← hH2, ← hD] at HFH
    rw [← hH2]
    obtain ⟨RV, hRV⟩ : ∃ RV : Array Value, RV = (if D < 1 then #[.agg #[vi 0, vi 0], vi 7] else #[.agg #[vi (factorN H1 D), vi (factorN H2 D)], vi 0]) := ⟨_, rfl⟩
    rw [← hRV]
    have HRV := Lib.hid hRV
    clear hRV hH1 hH2 hD eb hbs hk0 hl p1 p2 p3 hsf hs HZ
    go_enter Try.func18, Try.ntmps18
    go_wp2_with fail
    refine (HCU.out).mono ?_
    rintro e w1 ⟨rfl, hb⟩
    have HA1 := Lib.hid (And.intro (newer_trans H0.out.1 hb) (And.intro (H0.out.2.1.below hb H0.out.2.1.lt) (And.intro (H0.out.2.2.1.below hb H0.out.2.2.1.lt) (H0.out.2.2.2.below hb H0.out.2.2.2.lt))))
    clear H0 hb HCU x0 x1 u0 u1
    have x0 := HA1.out.2.1.at 0 (v := .slice s.a s.cs.length s.c) rfl
    have x1 := HA1.out.2.1.at 1 (v := vi s.least) rfl
    have u0 := HA1.out.2.2.1.at 0 (v := vi u.frm) rfl
    have u1 := HA1.out.2.2.1.at 1 (v := .slice u.a u.beds.length u.c) rfl
    go_wp2_with fail
    refine (HBE.out w1 HA1.out.1).mono ?_
    rintro e w2 ⟨A, c, rfl, hown, hb⟩
    have HA2 := Lib.hid (And.intro (newer_trans HA1.out.1 hb) (And.intro (HA1.out.2.2.2.below hb HA1.out.2.2.2.lt) (row_of_own (enc := bdL) (size := 8) (by omega) (fun _ => rfl) hown)))
    clear HA1 hb HBE x0 x1 u0 u1 hown
    go_wp2_with fail
    refine (HFL.out A c w2 HA2.out.2.2).mono ?_
    rintro e w3 ⟨rfl, hb⟩
    have HA3 := Lib.hid (And.intro (newer_trans HA2.out.1 hb) (And.intro (HA2.out.2.1.below hb HA2.out.2.1.lt) ((HA2.out.2.2.below hb).more hb.size)))
    clear HA2 hb HFL
    by_cases hd : D < 1
    · have HV1 := Lib.hid (show facV H1 D = .tuple #[vi 0, .bool false] by unfold facV; rw [if_pos hd])
      have HV2 := Lib.hid (show facV H2 D = .tuple #[vi 0, .bool false] by unfold facV; rw [if_pos hd])
      rw [HV1.out]
      rw [HV2.out] at HFH
      have HR2 := Lib.hid (HRV.out.trans (if_pos hd))
      go_wp2_with fail
      refine (HFH.out A c w3 HA3.out.2.2).mono ?_
      rintro e w4 ⟨rfl, hb⟩
      have hr := HA3.out.2.1.below hb HA3.out.2.1.lt
      have r0 := hr.at 0 (v := vi 0) rfl
      have r1 := hr.at 1 (v := vi 0) rfl
      have f0 := hr.free 0
      have f1 := hr.free 1
      have hs0 := setCell_same r0
      have hs1 := setCell_same r1
      have HN := Lib.hid (newer_trans HA3.out.1 hb)
      clear hr hb HA3
      go_wp2_with fail
      exact bodyPost_ret (v := .tuple #[.agg #[vi 0, vi 0], vi 7]) (by simp [results, Try.results18, go_sem, r0, r1]) rfl ⟨by rw [HR2.out], HN.out⟩
    · have HV1 := Lib.hid (show facV H1 D = .tuple #[vi (factorN H1 D), .bool true] by unfold facV; rw [if_neg hd])
      have HV2 := Lib.hid (show facV H2 D = .tuple #[vi (factorN H2 D), .bool true] by unfold facV; rw [if_neg hd])
      rw [HV1.out]
      rw [HV2.out] at HFH
      have hr2 := HRV.out.trans (if_neg hd)
      obtain ⟨g1, hg1⟩ : ∃ g1, g1 = factorN H1 D := ⟨_, rfl⟩
      obtain ⟨g2, hg2⟩ : ∃ g2, g2 = factorN H2 D := ⟨_, rfl⟩
      rw [← hg1, ← hg2] at hr2
      rw [← hg1]
      have HR2 := Lib.hid hr2
      rw [← hg2] at HFH
      clear hg1 hg2 HV1 HV2 hr2
      go_wp2_with fail
      refine (HFH.out A c w3 HA3.out.2.2).mono ?_
      rintro e w4 ⟨rfl, hb⟩
      have hr := HA3.out.2.1.below hb HA3.out.2.1.lt
      have r0 := hr.at 0 (v := vi 0) rfl
      have r1 := hr.at 1 (v := vi 0) rfl
      have f0 := hr.free 0
      have f1 := hr.free 1
      have hset := (hr.set 0 (vi g1)).set 1 (vi g2)
      have z0 := hset.at 0 (v := vi g1) rfl
      have z1 := hset.at 1 (v := vi g2) rfl
      have HN := Lib.hid (((newer_trans HA3.out.1 hb).setCell (p := ⟨w.heap.size + 1 + 1, 0, none⟩) (by show w.heap.size ≤ w.heap.size + 1 + 1; omega) (vi g1)).setCell (p := ⟨w.heap.size + 1 + 1, 1, none⟩) (by show w.heap.size ≤ w.heap.size + 1 + 1; omega) (vi g2))
      clear hr hb HA3 hset
      go_wp2_with fail
      exact bodyPost_ret (v := .tuple #[.agg #[vi g1, vi g2], vi 0]) (by simp [results, Try.results18, go_sem, z0, z1]) rfl ⟨by rw [HR2.out], HN.out⟩
  · rw [if_neg hz]
    have hz2 : (a == 0) = false := by rw [beq_eq_false_iff_ne]; exact hz
    have hz3 : (a != 0) = true := by simp [hz]
    clear HZ
    go_enter Try.func18, Try.ntmps18
    go_wp2_with fail
    refine (HCU.out).mono ?_
    rintro e w1 ⟨rfl, hb⟩
    have hr := H0.out.2.2.2.below hb H0.out.2.2.2.lt
    have r0 := hr.at 0 (v := vi 0) rfl
    have r1 := hr.at 1 (v := vi 0) rfl
    have f0 := hr.free 0
    have f1 := hr.free 1
    have hs0 := setCell_same r0
    have hs1 := setCell_same r1
    have HE := Lib.hid (newer_trans H0.out.1 hb)
    clear H0 hb HCU x0 x1 u0 u1 hr
    go_wp2_with fail
    exact bodyPost_ret (v := .tuple #[.agg #[vi 0, vi 0], vi a]) (by simp [results, Try.results18, go_sem, r0, r1]) rfl ⟨rfl, HE.out⟩
end

section
open Go.RowKit Go.Shelf Go.Deep
set_option maxRecDepth 100000 in
set_option maxHeartbeats 1000000 in
theorem lawList (l : List Int) (A : Option Addr) (cp : Nat) (w : World) (hl : l.length ≤ 1000) (hr : Row intL 1 w w.heap.size A l) : Calls Try.prog 29 #[.slice A l.length cp] w (copiedC w l) := by
  have HR := Lib.hid (row_alloc hr (.cells #[] 3))
  obtain ⟨i0, hi0, hz0, hz1, hz2⟩ := info_parts info_int
  have HI := Lib.hid (And.intro hi0 (And.intro hz0 (And.intro hz1 hz2)))
  clear hr hi0 hz0 hz1 hz2
  go_enter Try.func29, Try.ntmps29
  go_wp2_with (at_builtin; go_loud ((refine wpList_plain rfl fun K hK => wp_append_copy (enc := intL) (size := 1) (.tmp 3) (.tmp 4) 25 3 i0 (.int .i64 0) 8 Try.underlying25 HI.out.1 HI.out.2.1 HI.out.2.2.1 HI.out.2.2.2 rfl (by omega) (by omega) (fun _ => rfl) rfl w.heap.size rfl l A cp rfl hl HR.out fun B c w' hB hb hc hge => hK _ _ ?_); have HB := Lib.hid (And.intro hB (And.intro ((((Below.refl w.heap.size w).alloc (Nat.le_refl _) (.cells #[] 3))).trans (hb.mono (by simp))) (And.intro (show w.heap.size ≤ B.block by simp at hge; omega) hc))); clear hB hb hge hc))
  go_ret
  exact ⟨_, _, rfl, HB.out.2.2.2, HB.out.1, HB.out.2.1, fun a e => by cases e; exact HB.out.2.2.1⟩
set_option maxRecDepth 100000 in
set_option maxHeartbeats 1000000 in
theorem lawInts (l m : List Int) (A B : Option Addr) (cp dp : Nat) (w : World) (hl : l.length ≤ 1000) (_ : m.length ≤ 1000) (hr : Row intL 1 w w.heap.size A l) (hs : Row intL 1 w w.heap.size B m) :
    Calls Try.prog 36 #[.slice A l.length cp, .slice B m.length dp] w fun e w' => e = .returned (.bool (decide (l = m))) ∧ Below w.heap.size w w' := by
  have HR := Lib.hid hr
  have HS := Lib.hid hs
  clear hr hs
  by_cases hlen : l.length = m.length
  case neg =>
    have hb0 : (l.length == m.length) = false := by simpa using hlen
    have hb1 : (l.length != m.length) = true := by simpa using hlen
    have hb2 : ((l.length : Int) == (m.length : Int)) = false := by simp; omega
    have hb3 : ((l.length : Int) != (m.length : Int)) = true := by simp; omega
    have HF := Lib.hid (show decide (l = m) = false from decide_eq_false (fun e => hlen (by rw [e])))
    clear hlen
    go_enter Try.func36, Try.ntmps36
    go_wp2_with fail
    go_ret
    exact ⟨by rw [HF.out]; rfl, Below.refl _ _⟩
  case pos =>
    have HLE := Lib.hid hlen
    obtain ⟨n, hn⟩ : ∃ n, n = l.length := ⟨_, rfl⟩
    rw [← hlen, ← hn]
    have HN := Lib.hid hn
    rw [← hn] at hl
    clear hlen hn
    go_enter Try.func36, Try.ntmps36
    go_wp2_with fail
    go_loopw [5] (fun s5 wr => ∃ k : Nat, k ≤ n ∧ s5 = .int .i64 k ∧ newer w wr ∧ goodTo2 l m k) (fun s5 _ => n - (intOf s5).toNat)
    case atStart => exact ⟨0, Nat.zero_le _, rfl, Below.refl _ _, fun _ h => by omega⟩
    case round =>
      obtain ⟨k, hk, rfl, hnw, he⟩ := hrel
      have HE := Lib.hid he
      clear he
      by_cases hlt : k < n
      · obtain ⟨x, hx⟩ := get_of_lt (l := l) (k := k) (by have := HN.out; omega)
        obtain ⟨y, hy⟩ := get_of_lt (l := m) (k := k) (by have := HN.out; have := HLE.out; omega)
        obtain ⟨ab, ao, rfl, _, ha⟩ := row1 (HR.out.below hnw) hx
        obtain ⟨bb, bo, rfl, _, hb⟩ := row1 (HS.out.below hnw) hy
        have hkn : (k : Int) < n := by omega
        have HXY := Lib.hid (And.intro hx hy)
        have HNW := Lib.hid hnw
        clear hx hy hnw
        cases hxy : (x == y)
        · have hxn : (x != y) = true := by simp [bne, hxy]
          have HF := Lib.hid (show decide (l = m) = false from decide_eq_false (fun e => by
            have h1 := HXY.out.1
            rw [e, HXY.out.2] at h1
            injection h1 with h1
            rw [h1] at hxy
            simp at hxy))
          go_wp2_with fail
          go_quiet (fail)
          go_wp2_with fail
          go_ret
          exact ⟨by rw [HF.out]; rfl, newer_trans HNW.out (newer_drewN _ _)⟩
        · have hxn : (x != y) = false := by simp [bne, hxy]
          have HF := Lib.hid (show goodTo2 l m (k + 1) from goodTo2_succ HE.out (by rw [HXY.out.1, HXY.out.2]; simpa using hxy))
          go_wp2_with fail
          go_quiet (fail)
          go_wp2_with fail
          go_roundw
          case rel => exact ⟨k + 1, by omega, by go_num, newer_trans HNW.out (newer_drewN _ _), HF.out⟩
          case measure => simp [intOf]; omega
      · have HF := Lib.hid (show decide (l = m) = true from decide_eq_true (goodTo2_all (by have := HN.out; have := HLE.out; omega) (HE.out) (by have := HN.out; omega)))
        have HNW := Lib.hid hnw
        clear hnw
        go_wp2_with fail
        go_ret
        exact ⟨by rw [HF.out]; rfl, HNW.out⟩
set_option maxHeartbeats 1000000 in
theorem to_any (r : Rg) (w : World) : Calls Try.prog 23 #[rgV r] w fun e w' => e = .returned (rgV r) ∧ newer w w' := by
  have hnw : newer w ((w.alloc (.cells #[vi r.lo, vi r.hi] 42)).alloc (.cells #[vi r.lo, vi r.hi] 31)) := newer_trans (newer_allocH _ _) (newer_allocH _ _)
  have hxb := (Whole.made w 42 #[vi r.lo, vi r.hi]).alloc (.cells #[vi 0, vi 0] 31)
  have hrb := Whole.made (w.alloc (.cells #[vi r.lo, vi r.hi] 42)) 31 #[vi r.lo, vi r.hi]
  rw [World.size_alloc] at hrb
  have H0 := Lib.hid (And.intro hnw hrb)
  have x0 := hxb.at 0 (v := vi r.lo) rfl
  have x1 := hxb.at 1 (v := vi r.hi) rfl
  clear hnw hxb hrb
  go_enter Try.func23, Try.ntmps23
  go_wp2_with fail
  have z0 := H0.out.2.at 0 (v := vi r.lo) rfl
  have z1 := H0.out.2.at 1 (v := vi r.hi) rfl
  exact bodyPost_ret (v := .agg #[vi r.lo, vi r.hi]) (by simp [results, Try.results23, go_sem, z0, z1]) rfl ⟨rfl, H0.out.1⟩
set_option maxHeartbeats 1000000 in
theorem span56_any (lo hi : Int) (w : World) : Calls Try.prog 56 #[vi lo, vi hi] w fun e w' => e = .returned (rgV ⟨lo, hi⟩) ∧ newer w w' := by
  have H0 := Lib.hid (And.intro (newer_allocH w (.cells #[vi lo, vi hi] 31)) (Whole.made w 31 #[vi lo, vi hi]))
  go_enter Try.func56, Try.ntmps56
  go_wp2_with fail
  have z0 := H0.out.2.at 0 (v := vi lo) rfl
  have z1 := H0.out.2.at 1 (v := vi hi) rfl
  exact bodyPost_ret (v := .agg #[vi lo, vi hi]) (by simp [results, Try.results56, go_sem, z0, z1]) rfl ⟨rfl, H0.out.1⟩
set_option maxHeartbeats 1000000 in
theorem bed87_any (drive normal : Int) (fr co wa : Rg) (w : World) : Calls Try.prog 87 #[vi drive, vi normal, rgV fr, rgV co, rgV wa] w fun e w' => e = .returned (bdV ⟨drive, normal, fr, co, wa⟩) ∧ newer w w' := by
  obtain ⟨w3, hw3⟩ : ∃ w3, w3 = ((w.alloc (.cells #[vi fr.lo, vi fr.hi] 31)).alloc (.cells #[vi co.lo, vi co.hi] 31)).alloc (.cells #[vi wa.lo, vi wa.hi] 31) := ⟨_, rfl⟩
  have hn3 : newer w w3 := by rw [hw3]; exact newer_trans (newer_trans (newer_allocH _ _) (newer_allocH _ _)) (newer_allocH _ _)
  have e4 := newer_allocH w3 (.cells #[vi drive, vi normal, vi fr.lo, vi fr.hi, vi co.lo, vi co.hi, vi wa.lo, vi wa.hi] 104)
  have hs3 : w3.heap.size = w.heap.size + 1 + 1 + 1 := by rw [hw3]; simp
  have a1 : Whole w3 w.heap.size 31 #[vi fr.lo, vi fr.hi] := by rw [hw3]; exact ((Whole.made w 31 #[vi fr.lo, vi fr.hi]).alloc _).alloc _
  have a2 : Whole w3 (w.heap.size + 1) 31 #[vi co.lo, vi co.hi] := by rw [hw3]; have h := (Whole.made (w.alloc (.cells #[vi fr.lo, vi fr.hi] 31)) 31 #[vi co.lo, vi co.hi]).alloc (.cells #[vi wa.lo, vi wa.hi] 31); rw [World.size_alloc] at h; exact h
  have a3 : Whole w3 (w.heap.size + 1 + 1) 31 #[vi wa.lo, vi wa.hi] := by rw [hw3]; have h := Whole.made ((w.alloc (.cells #[vi fr.lo, vi fr.hi] 31)).alloc (.cells #[vi co.lo, vi co.hi] 31)) 31 #[vi wa.lo, vi wa.hi]; rw [World.size_alloc, World.size_alloc] at h; exact h
  have a4 := Whole.made w3 104 #[vi drive, vi normal, vi fr.lo, vi fr.hi, vi co.lo, vi co.hi, vi wa.lo, vi wa.hi]
  rw [hs3] at a4
  have b1 := a1.below e4 a1.lt
  have b2 := a2.below e4 a2.lt
  have b3 := a3.below e4 a3.lt
  have H0 := Lib.hid (And.intro (newer_trans hn3 e4) a4)
  rw [hw3] at b1 b2 b3 a4 H0
  clear a1 a2 a3 hs3 e4 hn3 hw3
  have x0 := b1.at 0 (v := vi fr.lo) rfl
  have x1 := b1.at 1 (v := vi fr.hi) rfl
  have y0 := b2.at 0 (v := vi co.lo) rfl
  have y1 := b2.at 1 (v := vi co.hi) rfl
  have u0 := b3.at 0 (v := vi wa.lo) rfl
  have u1 := b3.at 1 (v := vi wa.hi) rfl
  clear a4 b1 b2 b3
  go_enter Try.func87, Try.ntmps87
  go_wp2_with fail
  have z0 := H0.out.2.at 0 (v := vi drive) rfl
  have z1 := H0.out.2.at 1 (v := vi normal) rfl
  have z2 := H0.out.2.at 2 (v := vi fr.lo) rfl
  have z3 := H0.out.2.at 3 (v := vi fr.hi) rfl
  have z4 := H0.out.2.at 4 (v := vi co.lo) rfl
  have z5 := H0.out.2.at 5 (v := vi co.hi) rfl
  have z6 := H0.out.2.at 6 (v := vi wa.lo) rfl
  have z7 := H0.out.2.at 7 (v := vi wa.hi) rfl
  exact bodyPost_ret (v := .agg #[vi drive, vi normal, vi fr.lo, vi fr.hi, vi co.lo, vi co.hi, vi wa.lo, vi wa.hi]) (by simp [results, Try.results87, go_sem, z0, z1, z2, z3, z4, z5, z6, z7]) rfl ⟨rfl, H0.out.1⟩
set_option maxHeartbeats 1000000 in
theorem from0_any (A : Option Addr) (n c : Nat) (w : World) : Calls Try.prog 55 #[.slice A n c] w fun e w' => e = .returned (.agg #[vi 0, .slice A n c]) ∧ newer w w' := by
  have H0 := Lib.hid (And.intro (newer_allocH w (.cells #[vi 0, .slice A n c] 39)) (Whole.made w 39 #[vi 0, .slice A n c]))
  go_enter Try.func55, Try.ntmps55
  go_wp2_with fail
  have z0 := H0.out.2.at 0 (v := vi 0) rfl
  have z1 := H0.out.2.at 1 (v := .slice A n c) rfl
  exact bodyPost_ret (v := .agg #[vi 0, .slice A n c]) (by simp [results, Try.results55, go_sem, z0, z1]) rfl ⟨rfl, H0.out.1⟩
end

section
open Go.RowKit Go.Shelf Go.Deep
def valC (i : Nat) : List Bd := match i with
  | 0 => [⟨400, 900, ⟨300, 400⟩, ⟨50, 60⟩, ⟨100, 200⟩⟩, ⟨600, 1500, ⟨400, 500⟩, ⟨20, 40⟩, ⟨300, 500⟩⟩]
  | 1 => [⟨300, 1000, ⟨300, 400⟩, ⟨50, 60⟩, ⟨0, 200⟩⟩, ⟨500, 1600, ⟨400, 500⟩, ⟨20, 40⟩, ⟨200, 600⟩⟩]
  | _ => [⟨(-100), 1200, ⟨300, 400⟩, ⟨50, 60⟩, ⟨0, 100⟩⟩, ⟨100, 1800, ⟨400, 500⟩, ⟨20, 40⟩, ⟨0, 400⟩⟩]
def valleyD : Sd := ⟨[valC 0, valC 1, valC 2], 2⟩
def valX (i : Nat) : Array Value := match i with
  | 0 => #[vi 400, vi 900, vi 300, vi 400, vi 50, vi 60, vi 100, vi 200, vi 600, vi 1500, vi 400, vi 500, vi 20, vi 40, vi 300, vi 500]
  | 1 => #[vi 300, vi 1000, vi 300, vi 400, vi 50, vi 60, vi 0, vi 200, vi 500, vi 1600, vi 400, vi 500, vi 20, vi 40, vi 200, vi 600]
  | _ => #[vi (-100), vi 1200, vi 300, vi 400, vi 50, vi 60, vi 0, vi 100, vi 100, vi 1800, vi 400, vi 500, vi 20, vi 40, vi 0, vi 400]
/-- The example's slope, in memory from a block on. -/
structure VM (B q c0 c1 c2 : Nat) (W : World) : Prop where
  mq : Whole W q 105 #[.slice (some ⟨c0, 0, none⟩) 2 2, .slice (some ⟨c1, 0, none⟩) 2 2, .slice (some ⟨c2, 0, none⟩) 2 2]
  m0 : Whole W c0 104 (valX 0)
  m1 : Whole W c1 104 (valX 1)
  m2 : Whole W c2 104 (valX 2)
  ge : B ≤ q ∧ B ≤ c0 ∧ B ≤ c1 ∧ B ≤ c2
theorem VM.next {B q c0 c1 c2 : Nat} {W W' : World} (h : VM B q c0 c1 c2 W) (hb : newer W W') : VM B q c0 c1 c2 W' := ⟨h.mq.below hb h.mq.lt, h.m0.below hb h.m0.lt, h.m1.below hb h.m1.lt, h.m2.below hb h.m2.lt, h.ge⟩
abbrev valM (q c0 c1 c2 : Nat) : Sm := ⟨[⟨valC 0, some ⟨c0, 0, none⟩, 2⟩, ⟨valC 1, some ⟨c1, 0, none⟩, 2⟩, ⟨valC 2, some ⟨c2, 0, none⟩, 2⟩], some ⟨q, 0, none⟩, 3, 2⟩
theorem VM.ok {B q c0 c1 c2 : Nat} {W : World} (h : VM B q c0 c1 c2 W) : SmOk (valM q c0 c1 c2) W := by
  refine ⟨row_of_whole (enc := clL) (s := 1) (fun _ => rfl) h.mq rfl, fun x hx => ?_⟩
  simp only [List.mem_cons, List.not_mem_nil, or_false] at hx
  rcases hx with rfl | rfl | rfl
  · exact row_of_whole (enc := bdL) (s := 8) (fun _ => rfl) h.m0 rfl
  · exact row_of_whole (enc := bdL) (s := 8) (fun _ => rfl) h.m1 rfl
  · exact row_of_whole (enc := bdL) (s := 8) (fun _ => rfl) h.m2 rfl
theorem VM.sd (q c0 c1 c2 : Nat) : (valM q c0 c1 c2).sd = valleyD := rfl
theorem valM_few (q c0 c1 c2 : Nat) : SmFew (valM q c0 c1 c2) := ⟨by simp, fun x hx => by
  simp only [List.mem_cons, List.not_mem_nil, or_false] at hx
  rcases hx with rfl | rfl | rfl <;> simp [valC]⟩
/-- A column, its cells in a row made since. -/
def vCol (B i : Nat) (v : Value) (W : World) : Prop := ∃ g, v = .slice (some ⟨g, 0, none⟩) 2 2 ∧ B ≤ g ∧ Whole W g 104 (valX i)
theorem vCol_st {B i : Nat} : ∀ v W W', vCol B i v W → newer W W' → vCol B i v W' := fun _ _ _ ⟨g, h1, h2, h3⟩ hb => ⟨g, h1, h2, h3.below hb h3.lt⟩
def vCols (B : Nat) (v : Value) (W : World) : Prop := ∃ q c0 c1 c2, v = .slice (some ⟨q, 0, none⟩) 3 3 ∧ VM B q c0 c1 c2 W
theorem vCols_st {B : Nat} : ∀ v W W', vCols B v W → newer W W' → vCols B v W' := fun _ _ _ ⟨q, c0, c1, c2, h1, h2⟩ hb => ⟨q, c0, c1, c2, h1, h2.next hb⟩
def vVal (B : Nat) (v : Value) (W : World) : Prop := ∃ q c0 c1 c2, v = .agg #[.slice (some ⟨q, 0, none⟩) 3 3, vi 2] ∧ VM B q c0 c1 c2 W
theorem vVal_st {B : Nat} : ∀ v W W', vVal B v W → newer W W' → vVal B v W' := fun _ _ _ ⟨q, c0, c1, c2, h1, h2⟩ hb => ⟨q, c0, c1, c2, h1, h2.next hb⟩
set_option maxRecDepth 100000 in
set_option maxHeartbeats 2000000 in
theorem valley_any (w : World) : Calls Try.prog 54 #[] w fun e w' => ∃ q c0 c1 c2, e = .returned (smV (valM q c0 c1 c2)) ∧ VM w.heap.size q c0 c1 c2 w' ∧ newer w w' := by
  have H0 := Lib.hid (And.intro (newer_allocH w (.cells #[.slice none 0 0, vi 0] 37)) (Whole.made w 37 #[.slice none 0 0, vi 0]))
  go_enter Try.func54, Try.ntmps54
  go_wp2_with fail
  refine (span56_any 300 400 _).mono ?_
  rintro e w1 ⟨rfl, hb⟩
  have H1 := Lib.hid (And.intro (newer_trans H0.out.1 hb) (H0.out.2.below hb H0.out.2.lt))
  clear H0 hb
  go_wp2_with fail
  refine (span56_any 400 500 _).mono ?_
  rintro e w2 ⟨rfl, hb⟩
  have H2 := Lib.hid (And.intro (newer_trans H1.out.1 hb) (H1.out.2.below hb H1.out.2.lt))
  clear H1 hb
  go_wp2_with fail
  refine (span56_any 50 60 _).mono ?_
  rintro e w3 ⟨rfl, hb⟩
  have H3 := Lib.hid (And.intro (newer_trans H2.out.1 hb) (H2.out.2.below hb H2.out.2.lt))
  clear H2 hb
  go_wp2_with fail
  refine (span56_any 20 40 _).mono ?_
  rintro e w4 ⟨rfl, hb⟩
  have H4 := Lib.hid (And.intro (newer_trans H3.out.1 hb) (H3.out.2.below hb H3.out.2.lt))
  clear H3 hb
  have H9 : Hid (newer w ((((w4.alloc (.cells #[vi 300, vi 400] 31)).alloc (.cells #[vi 400, vi 500] 31)).alloc (.cells #[vi 50, vi 60] 31)).alloc (.cells #[vi 20, vi 40] 31)) ∧ Whole ((((w4.alloc (.cells #[vi 300, vi 400] 31)).alloc (.cells #[vi 400, vi 500] 31)).alloc (.cells #[vi 50, vi 60] 31)).alloc (.cells #[vi 20, vi 40] 31)) w.heap.size 37 #[.slice none 0 0, vi 0] ∧ Whole ((((w4.alloc (.cells #[vi 300, vi 400] 31)).alloc (.cells #[vi 400, vi 500] 31)).alloc (.cells #[vi 50, vi 60] 31)).alloc (.cells #[vi 20, vi 40] 31)) w4.heap.size 31 #[vi 300, vi 400] ∧ Whole ((((w4.alloc (.cells #[vi 300, vi 400] 31)).alloc (.cells #[vi 400, vi 500] 31)).alloc (.cells #[vi 50, vi 60] 31)).alloc (.cells #[vi 20, vi 40] 31)) (w4.heap.size + 1) 31 #[vi 400, vi 500] ∧ Whole ((((w4.alloc (.cells #[vi 300, vi 400] 31)).alloc (.cells #[vi 400, vi 500] 31)).alloc (.cells #[vi 50, vi 60] 31)).alloc (.cells #[vi 20, vi 40] 31)) (w4.heap.size + 1 + 1) 31 #[vi 50, vi 60] ∧ Whole ((((w4.alloc (.cells #[vi 300, vi 400] 31)).alloc (.cells #[vi 400, vi 500] 31)).alloc (.cells #[vi 50, vi 60] 31)).alloc (.cells #[vi 20, vi 40] 31)) (w4.heap.size + 1 + 1 + 1) 31 #[vi 20, vi 40]) := Lib.hid (by
    have m0 := (((Whole.made w4 31 #[vi 300, vi 400]).alloc (.cells #[vi 400, vi 500] 31)).alloc (.cells #[vi 50, vi 60] 31)).alloc (.cells #[vi 20, vi 40] 31)
    have m1 := ((Whole.made (w4.alloc (.cells #[vi 300, vi 400] 31)) 31 #[vi 400, vi 500]).alloc (.cells #[vi 50, vi 60] 31)).alloc (.cells #[vi 20, vi 40] 31)
    have m2 := (Whole.made ((w4.alloc (.cells #[vi 300, vi 400] 31)).alloc (.cells #[vi 400, vi 500] 31)) 31 #[vi 50, vi 60]).alloc (.cells #[vi 20, vi 40] 31)
    have m3 := Whole.made (((w4.alloc (.cells #[vi 300, vi 400] 31)).alloc (.cells #[vi 400, vi 500] 31)).alloc (.cells #[vi 50, vi 60] 31)) 31 #[vi 20, vi 40]
    simp only [World.size_alloc] at m1 m2 m3
    have e := newer_trans (newer_trans (newer_trans (newer_allocH w4 (.cells #[vi 300, vi 400] 31)) (newer_allocH _ (.cells #[vi 400, vi 500] 31))) (newer_allocH _ (.cells #[vi 50, vi 60] 31))) (newer_allocH _ (.cells #[vi 20, vi 40] 31))
    exact ⟨newer_trans H4.out.1 e, H4.out.2.below e H4.out.2.lt, m0, m1, m2, m3⟩)
  clear H4
  go_upto_region 2 with fail
  refine genQ (fun X => newer w X ∧ Whole X w.heap.size 37 #[.slice none 0 0, vi 0] ∧ Whole X w4.heap.size 31 #[vi 300, vi 400] ∧ Whole X (w4.heap.size + 1) 31 #[vi 400, vi 500] ∧ Whole X (w4.heap.size + 1 + 1) 31 #[vi 50, vi 60] ∧ Whole X (w4.heap.size + 1 + 1 + 1) 31 #[vi 20, vi 40]) H9.out ?_
  clear H9
  rintro w9 ⟨a1, a2, a3, a4, a5, a6⟩
  have s0 := a3.at 0 (v := vi 300) rfl
  have s1 := a3.at 1 (v := vi 400) rfl
  have f0 := a4.at 0 (v := vi 400) rfl
  have f1 := a4.at 1 (v := vi 500) rfl
  have n0 := a5.at 0 (v := vi 50) rfl
  have n1 := a5.at 1 (v := vi 60) rfl
  have k0 := a6.at 0 (v := vi 20) rfl
  have k1 := a6.at 1 (v := vi 40) rfl
  have H9 := Lib.hid (And.intro a1 a2)
  clear a1 a2 a3 a4 a5 a6
  refine wp_words (by kernel_rfl) (region_told 29 (by kernel_rfl) (by kernel_rfl) (fun W => Below w9.heap.size w9 W) newer (pickD [vIs (rgV ⟨300, 400⟩), vIs (rgV ⟨50, 60⟩), vIs (rgV ⟨100, 200⟩), vIs (bdV ⟨400, 900, ⟨300, 400⟩, ⟨50, 60⟩, ⟨100, 200⟩⟩), vIs (rgV ⟨400, 500⟩), vIs (rgV ⟨20, 40⟩), vIs (rgV ⟨300, 500⟩), vIs (bdV ⟨600, 1500, ⟨400, 500⟩, ⟨20, 40⟩, ⟨300, 500⟩⟩), vCol w9.heap.size 0, vIs (rgV ⟨300, 400⟩), vIs (rgV ⟨50, 60⟩), vIs (rgV ⟨0, 200⟩), vIs (bdV ⟨300, 1000, ⟨300, 400⟩, ⟨50, 60⟩, ⟨0, 200⟩⟩), vIs (rgV ⟨400, 500⟩), vIs (rgV ⟨20, 40⟩), vIs (rgV ⟨200, 600⟩), vIs (bdV ⟨500, 1600, ⟨400, 500⟩, ⟨20, 40⟩, ⟨200, 600⟩⟩), vCol w9.heap.size 1, vIs (rgV ⟨300, 400⟩), vIs (rgV ⟨50, 60⟩), vIs (rgV ⟨0, 100⟩), vIs (bdV ⟨(-100), 1200, ⟨300, 400⟩, ⟨50, 60⟩, ⟨0, 100⟩⟩), vIs (rgV ⟨400, 500⟩), vIs (rgV ⟨20, 40⟩), vIs (rgV ⟨0, 400⟩), vIs (bdV ⟨100, 1800, ⟨400, 500⟩, ⟨20, 40⟩, ⟨0, 400⟩⟩), vCol w9.heap.size 2, vCols w9.heap.size, vVal w9.heap.size]) (fun h k => newer_trans h k) (pickD_stable _ ⟨vIs_st, vIs_st, vIs_st, vIs_st, vIs_st, vIs_st, vIs_st, vIs_st, vCol_st, vIs_st, vIs_st, vIs_st, vIs_st, vIs_st, vIs_st, vIs_st, vIs_st, vCol_st, vIs_st, vIs_st, vIs_st, vIs_st, vIs_st, vIs_st, vIs_st, vIs_st, vCol_st, vCols_st, vVal_st, trivial⟩) (Below.refl _ w9).drew (Below.refl _ _) ?_ ?_)
  · refine ⟨?_, ?_, ?_, ?_, ?_, ?_, ?_, ?_, ?_, ?_, ?_, ?_, ?_, ?_, ?_, ?_, ?_, ?_, ?_, ?_, ?_, ?_, ?_, ?_, ?_, ?_, ?_, ?_, ?_, trivial⟩
    · intro a W hG hR hO hp
      have h1 := hO.slot 1 (by kernel_rfl)
      have c0 := keep_cell s0 hG
      have c1 := keep_cell s1 hG
      refine wp_yields (v := rgV ⟨300, 400⟩) ?_ ⟨_, rfl, rfl, Below.refl _ _, hG⟩
      simp [slotOf] at h1
      simp [execOp, go_sem, h1, c0, c1]
    · intro a W hG hR hO hp
      have h3 := hO.slot 3 (by kernel_rfl)
      have c0 := keep_cell n0 hG
      have c1 := keep_cell n1 hG
      refine wp_yields (v := rgV ⟨50, 60⟩) ?_ ⟨_, rfl, rfl, Below.refl _ _, hG⟩
      simp [slotOf] at h3
      simp [execOp, go_sem, h3, c0, c1]
    · intro a W hG hR hO hp
      refine wp_enters (f := 56) (args := #[vi 100, vi 200]) ?_ ((span56_any 100 200 W).mono ?_)
      · skip
        simp [go_sem]
      · rintro e w' ⟨rfl, hb⟩
        exact ⟨_, rfl, _, rfl, rfl, hb, below_next hG hb⟩
    · intro a W hG hR hO hp
      have h9 : slotOf a 9 = rgV ⟨300, 400⟩ := hp.1
      have h10 : slotOf a 10 = rgV ⟨50, 60⟩ := hp.2.1
      have h11 : slotOf a 11 = rgV ⟨100, 200⟩ := hp.2.2.1
      refine wp_enters (f := 87) (args := #[vi 400, vi 900, rgV ⟨300, 400⟩, rgV ⟨50, 60⟩, rgV ⟨100, 200⟩]) ?_ ((bed87_any 400 900 ⟨300, 400⟩ ⟨50, 60⟩ ⟨100, 200⟩ W).mono ?_)
      · simp [slotOf] at h9 h10 h11
        simp [go_sem, h9, h10, h11]
      · rintro e w' ⟨rfl, hb⟩
        exact ⟨_, rfl, _, rfl, rfl, hb, below_next hG hb⟩
    · intro a W hG hR hO hp
      have h2 := hO.slot 2 (by kernel_rfl)
      have c0 := keep_cell f0 hG
      have c1 := keep_cell f1 hG
      refine wp_yields (v := rgV ⟨400, 500⟩) ?_ ⟨_, rfl, rfl, Below.refl _ _, hG⟩
      simp [slotOf] at h2
      simp [execOp, go_sem, h2, c0, c1]
    · intro a W hG hR hO hp
      have h4 := hO.slot 4 (by kernel_rfl)
      have c0 := keep_cell k0 hG
      have c1 := keep_cell k1 hG
      refine wp_yields (v := rgV ⟨20, 40⟩) ?_ ⟨_, rfl, rfl, Below.refl _ _, hG⟩
      simp [slotOf] at h4
      simp [execOp, go_sem, h4, c0, c1]
    · intro a W hG hR hO hp
      refine wp_enters (f := 56) (args := #[vi 300, vi 500]) ?_ ((span56_any 300 500 W).mono ?_)
      · skip
        simp [go_sem]
      · rintro e w' ⟨rfl, hb⟩
        exact ⟨_, rfl, _, rfl, rfl, hb, below_next hG hb⟩
    · intro a W hG hR hO hp
      have h13 : slotOf a 13 = rgV ⟨400, 500⟩ := hp.1
      have h14 : slotOf a 14 = rgV ⟨20, 40⟩ := hp.2.1
      have h15 : slotOf a 15 = rgV ⟨300, 500⟩ := hp.2.2.1
      refine wp_enters (f := 87) (args := #[vi 600, vi 1500, rgV ⟨400, 500⟩, rgV ⟨20, 40⟩, rgV ⟨300, 500⟩]) ?_ ((bed87_any 600 1500 ⟨400, 500⟩ ⟨20, 40⟩ ⟨300, 500⟩ W).mono ?_)
      · simp [slotOf] at h13 h14 h15
        simp [go_sem, h13, h14, h15]
      · rintro e w' ⟨rfl, hb⟩
        exact ⟨_, rfl, _, rfl, rfl, hb, below_next hG hb⟩
    · intro a W hG hR hO hp
      have h12 : slotOf a 12 = bdV ⟨400, 900, ⟨300, 400⟩, ⟨50, 60⟩, ⟨100, 200⟩⟩ := hp.1
      have h16 : slotOf a 16 = bdV ⟨600, 1500, ⟨400, 500⟩, ⟨20, 40⟩, ⟨300, 500⟩⟩ := hp.2.1
      refine wp_makes (v := .slice (some ⟨W.heap.size, 0, none⟩) 2 2) (W' := W.alloc (.cells (valX 0) 104)) ?_ ⟨_, rfl, ⟨_, rfl, hG.size, Whole.made _ _ _⟩, newer_allocH _ _, below_next hG (newer_allocH _ _)⟩
      simp [slotOf] at h12 h16
      simp [execOp, go_sem, h12, h16, valX]
    · intro a W hG hR hO hp
      have h1 := hO.slot 1 (by kernel_rfl)
      have c0 := keep_cell s0 hG
      have c1 := keep_cell s1 hG
      refine wp_yields (v := rgV ⟨300, 400⟩) ?_ ⟨_, rfl, rfl, Below.refl _ _, hG⟩
      simp [slotOf] at h1
      simp [execOp, go_sem, h1, c0, c1]
    · intro a W hG hR hO hp
      have h3 := hO.slot 3 (by kernel_rfl)
      have c0 := keep_cell n0 hG
      have c1 := keep_cell n1 hG
      refine wp_yields (v := rgV ⟨50, 60⟩) ?_ ⟨_, rfl, rfl, Below.refl _ _, hG⟩
      simp [slotOf] at h3
      simp [execOp, go_sem, h3, c0, c1]
    · intro a W hG hR hO hp
      refine wp_enters (f := 56) (args := #[vi 0, vi 200]) ?_ ((span56_any 0 200 W).mono ?_)
      · skip
        simp [go_sem]
      · rintro e w' ⟨rfl, hb⟩
        exact ⟨_, rfl, _, rfl, rfl, hb, below_next hG hb⟩
    · intro a W hG hR hO hp
      have h18 : slotOf a 18 = rgV ⟨300, 400⟩ := hp.1
      have h19 : slotOf a 19 = rgV ⟨50, 60⟩ := hp.2.1
      have h20 : slotOf a 20 = rgV ⟨0, 200⟩ := hp.2.2.1
      refine wp_enters (f := 87) (args := #[vi 300, vi 1000, rgV ⟨300, 400⟩, rgV ⟨50, 60⟩, rgV ⟨0, 200⟩]) ?_ ((bed87_any 300 1000 ⟨300, 400⟩ ⟨50, 60⟩ ⟨0, 200⟩ W).mono ?_)
      · simp [slotOf] at h18 h19 h20
        simp [go_sem, h18, h19, h20]
      · rintro e w' ⟨rfl, hb⟩
        exact ⟨_, rfl, _, rfl, rfl, hb, below_next hG hb⟩
    · intro a W hG hR hO hp
      have h2 := hO.slot 2 (by kernel_rfl)
      have c0 := keep_cell f0 hG
      have c1 := keep_cell f1 hG
      refine wp_yields (v := rgV ⟨400, 500⟩) ?_ ⟨_, rfl, rfl, Below.refl _ _, hG⟩
      simp [slotOf] at h2
      simp [execOp, go_sem, h2, c0, c1]
    · intro a W hG hR hO hp
      have h4 := hO.slot 4 (by kernel_rfl)
      have c0 := keep_cell k0 hG
      have c1 := keep_cell k1 hG
      refine wp_yields (v := rgV ⟨20, 40⟩) ?_ ⟨_, rfl, rfl, Below.refl _ _, hG⟩
      simp [slotOf] at h4
      simp [execOp, go_sem, h4, c0, c1]
    · intro a W hG hR hO hp
      refine wp_enters (f := 56) (args := #[vi 200, vi 600]) ?_ ((span56_any 200 600 W).mono ?_)
      · skip
        simp [go_sem]
      · rintro e w' ⟨rfl, hb⟩
        exact ⟨_, rfl, _, rfl, rfl, hb, below_next hG hb⟩
    · intro a W hG hR hO hp
      have h22 : slotOf a 22 = rgV ⟨400, 500⟩ := hp.1
      have h23 : slotOf a 23 = rgV ⟨20, 40⟩ := hp.2.1
      have h24 : slotOf a 24 = rgV ⟨200, 600⟩ := hp.2.2.1
      refine wp_enters (f := 87) (args := #[vi 500, vi 1600, rgV ⟨400, 500⟩, rgV ⟨20, 40⟩, rgV ⟨200, 600⟩]) ?_ ((bed87_any 500 1600 ⟨400, 500⟩ ⟨20, 40⟩ ⟨200, 600⟩ W).mono ?_)
      · simp [slotOf] at h22 h23 h24
        simp [go_sem, h22, h23, h24]
      · rintro e w' ⟨rfl, hb⟩
        exact ⟨_, rfl, _, rfl, rfl, hb, below_next hG hb⟩
    · intro a W hG hR hO hp
      have h21 : slotOf a 21 = bdV ⟨300, 1000, ⟨300, 400⟩, ⟨50, 60⟩, ⟨0, 200⟩⟩ := hp.1
      have h25 : slotOf a 25 = bdV ⟨500, 1600, ⟨400, 500⟩, ⟨20, 40⟩, ⟨200, 600⟩⟩ := hp.2.1
      refine wp_makes (v := .slice (some ⟨W.heap.size, 0, none⟩) 2 2) (W' := W.alloc (.cells (valX 1) 104)) ?_ ⟨_, rfl, ⟨_, rfl, hG.size, Whole.made _ _ _⟩, newer_allocH _ _, below_next hG (newer_allocH _ _)⟩
      simp [slotOf] at h21 h25
      simp [execOp, go_sem, h21, h25, valX]
    · intro a W hG hR hO hp
      have h1 := hO.slot 1 (by kernel_rfl)
      have c0 := keep_cell s0 hG
      have c1 := keep_cell s1 hG
      refine wp_yields (v := rgV ⟨300, 400⟩) ?_ ⟨_, rfl, rfl, Below.refl _ _, hG⟩
      simp [slotOf] at h1
      simp [execOp, go_sem, h1, c0, c1]
    · intro a W hG hR hO hp
      have h3 := hO.slot 3 (by kernel_rfl)
      have c0 := keep_cell n0 hG
      have c1 := keep_cell n1 hG
      refine wp_yields (v := rgV ⟨50, 60⟩) ?_ ⟨_, rfl, rfl, Below.refl _ _, hG⟩
      simp [slotOf] at h3
      simp [execOp, go_sem, h3, c0, c1]
    · intro a W hG hR hO hp
      refine wp_enters (f := 56) (args := #[vi 0, vi 100]) ?_ ((span56_any 0 100 W).mono ?_)
      · skip
        simp [go_sem]
      · rintro e w' ⟨rfl, hb⟩
        exact ⟨_, rfl, _, rfl, rfl, hb, below_next hG hb⟩
    · intro a W hG hR hO hp
      have h27 : slotOf a 27 = rgV ⟨300, 400⟩ := hp.1
      have h28 : slotOf a 28 = rgV ⟨50, 60⟩ := hp.2.1
      have h29 : slotOf a 29 = rgV ⟨0, 100⟩ := hp.2.2.1
      refine wp_enters (f := 87) (args := #[vi (-100), vi 1200, rgV ⟨300, 400⟩, rgV ⟨50, 60⟩, rgV ⟨0, 100⟩]) ?_ ((bed87_any (-100) 1200 ⟨300, 400⟩ ⟨50, 60⟩ ⟨0, 100⟩ W).mono ?_)
      · simp [slotOf] at h27 h28 h29
        simp [go_sem, h27, h28, h29]
      · rintro e w' ⟨rfl, hb⟩
        exact ⟨_, rfl, _, rfl, rfl, hb, below_next hG hb⟩
    · intro a W hG hR hO hp
      have h2 := hO.slot 2 (by kernel_rfl)
      have c0 := keep_cell f0 hG
      have c1 := keep_cell f1 hG
      refine wp_yields (v := rgV ⟨400, 500⟩) ?_ ⟨_, rfl, rfl, Below.refl _ _, hG⟩
      simp [slotOf] at h2
      simp [execOp, go_sem, h2, c0, c1]
    · intro a W hG hR hO hp
      have h4 := hO.slot 4 (by kernel_rfl)
      have c0 := keep_cell k0 hG
      have c1 := keep_cell k1 hG
      refine wp_yields (v := rgV ⟨20, 40⟩) ?_ ⟨_, rfl, rfl, Below.refl _ _, hG⟩
      simp [slotOf] at h4
      simp [execOp, go_sem, h4, c0, c1]
    · intro a W hG hR hO hp
      refine wp_enters (f := 56) (args := #[vi 0, vi 400]) ?_ ((span56_any 0 400 W).mono ?_)
      · skip
        simp [go_sem]
      · rintro e w' ⟨rfl, hb⟩
        exact ⟨_, rfl, _, rfl, rfl, hb, below_next hG hb⟩
    · intro a W hG hR hO hp
      have h31 : slotOf a 31 = rgV ⟨400, 500⟩ := hp.1
      have h32 : slotOf a 32 = rgV ⟨20, 40⟩ := hp.2.1
      have h33 : slotOf a 33 = rgV ⟨0, 400⟩ := hp.2.2.1
      refine wp_enters (f := 87) (args := #[vi 100, vi 1800, rgV ⟨400, 500⟩, rgV ⟨20, 40⟩, rgV ⟨0, 400⟩]) ?_ ((bed87_any 100 1800 ⟨400, 500⟩ ⟨20, 40⟩ ⟨0, 400⟩ W).mono ?_)
      · simp [slotOf] at h31 h32 h33
        simp [go_sem, h31, h32, h33]
      · rintro e w' ⟨rfl, hb⟩
        exact ⟨_, rfl, _, rfl, rfl, hb, below_next hG hb⟩
    · intro a W hG hR hO hp
      have h30 : slotOf a 30 = bdV ⟨(-100), 1200, ⟨300, 400⟩, ⟨50, 60⟩, ⟨0, 100⟩⟩ := hp.1
      have h34 : slotOf a 34 = bdV ⟨100, 1800, ⟨400, 500⟩, ⟨20, 40⟩, ⟨0, 400⟩⟩ := hp.2.1
      refine wp_makes (v := .slice (some ⟨W.heap.size, 0, none⟩) 2 2) (W' := W.alloc (.cells (valX 2) 104)) ?_ ⟨_, rfl, ⟨_, rfl, hG.size, Whole.made _ _ _⟩, newer_allocH _ _, below_next hG (newer_allocH _ _)⟩
      simp [slotOf] at h30 h34
      simp [execOp, go_sem, h30, h34, valX]
    · intro a W hG hR hO hp
      have h17 := hp.1
      have h26 := hp.2.1
      have h35 := hp.2.2.1
      obtain ⟨g0, h17, ha0, hw0⟩ := h17
      obtain ⟨g1, h26, ha1, hw1⟩ := h26
      obtain ⟨g2, h35, ha2, hw2⟩ := h35
      refine wp_makes (v := .slice (some ⟨W.heap.size, 0, none⟩) 3 3) (W' := W.alloc (.cells #[.slice (some ⟨g0, 0, none⟩) 2 2, .slice (some ⟨g1, 0, none⟩) 2 2, .slice (some ⟨g2, 0, none⟩) 2 2] 105)) ?_ ⟨_, rfl, ⟨_, g0, g1, g2, rfl, Whole.made _ _ _, hw0.alloc _, hw1.alloc _, hw2.alloc _, hG.size, ha0, ha1, ha2⟩, newer_allocH _ _, below_next hG (newer_allocH _ _)⟩
      simp [slotOf] at h17 h26 h35
      simp [execOp, go_sem, h17, h26, h35]
    · intro a W hG hR hO hp
      have h36 := hp.1
      obtain ⟨q, g0, g1, g2, h36, hvm⟩ := h36
      refine wp_yields (v := .agg #[.slice (some ⟨q, 0, none⟩) 3 3, vi 2]) ?_ ⟨_, rfl, ⟨q, g0, g1, g2, rfl, hvm⟩, Below.refl _ _, hG⟩
      simp [slotOf] at h36
      simp [execOp, go_sem, h36]
  · intro wz hG hR
    rintro _ rfl _ rfl _ rfl _ rfl _ rfl _ rfl _ rfl _ rfl _ - _ rfl _ rfl _ rfl _ rfl _ rfl _ rfl _ rfl _ rfl _ - _ rfl _ rfl _ rfl _ rfl _ rfl _ rfl _ rfl _ rfl _ - _ - _ ⟨q, c0, c1, c2, rfl, hvm⟩
    change wpList _ _ _ _ _ _
    simp only [Act.put, List.setIfInBounds_toArray, List.set_cons_zero, List.set_cons_succ, List.drop_succ_cons, List.drop_zero]
    have hr := H9.out.2.below hG H9.out.2.lt
    have r0 := hr.at 0 (v := .slice none 0 0) rfl
    have r1 := hr.at 1 (v := vi 0) rfl
    have rf0 := hr.free 0
    have rf1 := hr.free 1
    have hset := (hr.set 0 (.slice (some ⟨q, 0, none⟩) 3 3)).set 1 (vi 2)
    have z0 := hset.at 0 (v := .slice (some ⟨q, 0, none⟩) 3 3) rfl
    have z1 := hset.at 1 (v := vi 2) rfl
    have HF : Hid (VM w.heap.size q c0 c1 c2 ((wz.setCell ⟨w.heap.size, 0, none⟩ (.slice (some ⟨q, 0, none⟩) 3 3)).setCell ⟨w.heap.size, 1, none⟩ (vi 2)) ∧ newer w ((wz.setCell ⟨w.heap.size, 0, none⟩ (.slice (some ⟨q, 0, none⟩) 3 3)).setCell ⟨w.heap.size, 1, none⟩ (vi 2))) := Lib.hid (by
      have h9 := H9.out.1.size
      have hl := H9.out.2.lt
      obtain ⟨p1, p2, p3, p4⟩ := hvm.ge
      refine ⟨⟨(hvm.mq.far (by dsimp only; omega) _).far (by dsimp only; omega) _, (hvm.m0.far (by dsimp only; omega) _).far (by dsimp only; omega) _, (hvm.m1.far (by dsimp only; omega) _).far (by dsimp only; omega) _, (hvm.m2.far (by dsimp only; omega) _).far (by dsimp only; omega) _, by omega, by omega, by omega, by omega⟩, ((newer_trans H9.out.1 hG).setCell (p := ⟨w.heap.size, 0, none⟩) (Nat.le_refl _) _).setCell (p := ⟨w.heap.size, 1, none⟩) (Nat.le_refl _) _⟩)
    clear hr hset hvm hG hR s0 s1 f0 f1 n0 n1 k0 k1
    go_wp2_with fail
    exact bodyPost_ret (v := .agg #[.slice (some ⟨q, 0, none⟩) 3 3, vi 2]) (by simp [results, Try.results54, go_sem, z0, z1]) rfl ⟨q, c0, c1, c2, rfl, HF.out.1, HF.out.2⟩
end

section
open Go.RowKit Go.Shelf Go.Deep
theorem val_span : checkUN valleyD 0 [0, 0] = 0 ∧ dK (bedsU valleyD 0 [0, 0]) (bedsU valleyD 0 [0, 0]).length = 700 ∧ facE (bedsU valleyD 0 [0, 0]) false = 785 ∧ facE (bedsU valleyD 0 [0, 0]) true = 1200 := by decide +kernel
theorem val_ok : slopeB valleyD = true := by decide +kernel
theorem val_worst : worstS valleyD = some ((0, [0, 1]), 755) := by decide +kernel
theorem val_enough : enoughN valleyD 700 = 0 := by decide +kernel
theorem val_margin : marginS valleyD 700 = 70 := by decide +kernel
theorem val_moves : askedN valleyD 1300 = 0 ∧ movesL valleyD 1300 (some true) = [0, 1] ∧ movesL valleyD 1300 (some false) = [0, 1, 2] := by decide +kernel
end

section
open Go.RowKit Go.Shelf Go.Deep
theorem exec_eq31 {o : Oper} {a : Act} {W : World} {x y : Operand} {lo hi : Int} (ho : o.op = .binOp .eql 31 x y 31) (hx : a.eval x = .agg #[vi lo, vi hi]) (hy : a.eval y = .agg #[vi lo, vi hi]) : (execOp a.eval o).run Try.prog W = .ok (.value (.bool true)) W := by
  unfold execOp
  rw [ho]
  dsimp only
  rw [hx, hy]
  simp [go_sem]
/-- The examples' answers, in any world. -/
theorem val_span_any (q c0 c1 c2 ub cc : Nat) (w : World) {B : Nat} (h : VM B q c0 c1 c2 w) (hu : Whole w ub 3 #[vi 0, vi 0]) : Calls Try.prog 18 #[smV (valM q c0 c1 c2), .agg #[vi 0, .slice (some ⟨ub, 0, none⟩) 2 cc]] w fun e w' => e = .returned (.tuple #[.agg #[vi 785, vi 1200], vi 0]) ∧ newer w w' := by
  have h1 := span_any (valM q c0 c1 c2) ⟨0, [0, 0], some ⟨ub, 0, none⟩, cc⟩ w h.ok (valM_few _ _ _ _) (row_of_whole (enc := intL) (s := 1) (fun _ => rfl) hu rfl) (by simp)
  have e : spanV (valM q c0 c1 c2).sd 0 [0, 0] = .tuple #[.agg #[vi 785, vi 1200], vi 0] := by
    rw [VM.sd]
    unfold spanV
    obtain ⟨e1, e2, e3, e4⟩ := val_span
    rw [if_pos e1, e2, if_neg (by decide), e3, e4]
  rw [e] at h1
  exact h1
theorem worst_says (s : Sm) (w : World) (hok : SmOk s w) (few : SmFew s) {k : Nat} {l : List Nat} {v : Int} (hv : slopeB s.sd = true) (hw : worstS s.sd = some ((k, l), v)) : Calls Try.prog 25 #[smV s] w fun e w' => ∃ A c, e = .returned (.tuple #[.agg #[vi k, .slice A l.length c], vi v, vi 0]) ∧ w'.ownsRow w.heap.size 3 1 (.slice A l.length c) l.length (l.map fun x : Nat => vi x) ∧ newer w w' := by
  refine (worst_any s w hok few).mono ?_
  rintro e w' ⟨h1, h2⟩
  unfold worstOut at h1
  rw [hv, hw] at h1
  obtain ⟨A, c, h3, h4⟩ := h1
  exact ⟨A, c, h3, h4, h2⟩
theorem val_worst_any (q c0 c1 c2 : Nat) (w : World) {B : Nat} (h : VM B q c0 c1 c2 w) : Calls Try.prog 25 #[smV (valM q c0 c1 c2)] w fun e w' => ∃ A c, e = .returned (.tuple #[.agg #[vi 0, .slice A 2 c], vi 755, vi 0]) ∧ Row intL 1 w' w'.heap.size A [0, 1] ∧ newer w w' := by
  refine (worst_says (valM q c0 c1 c2) w h.ok (valM_few _ _ _ _) (k := 0) (l := [0, 1]) (v := 755) val_ok val_worst).mono ?_
  rintro e w' ⟨A, c, h3, h4, h2⟩
  exact ⟨A, c, h3, row_of_own (enc := intL) (size := 1) (l := [0, 1]) (by omega) (fun _ => rfl) h4, h2⟩
theorem val_margin_any (q c0 c1 c2 : Nat) (w : World) {B : Nat} (h : VM B q c0 c1 c2 w) : Calls Try.prog 31 #[smV (valM q c0 c1 c2), vi 700] w fun e w' => e = .returned (.tuple #[vi 70, vi 0]) ∧ newer w w' := by
  have h1 := margin_any (valM q c0 c1 c2) 700 w h.ok (valM_few _ _ _ _)
  have e : marginOut (valM q c0 c1 c2).sd 700 = .tuple #[vi 70, vi 0] := by
    rw [VM.sd]
    unfold marginOut
    rw [if_pos val_enough, val_margin]
    rfl
  rw [e] at h1
  exact h1
theorem val_moves_any (q c0 c1 c2 : Nat) (w : World) {B : Nat} (h : VM B q c0 c1 c2 w) : Calls Try.prog 35 #[smV (valM q c0 c1 c2), vi 1300] w fun e w' => ∃ A c D d, e = .returned (.tuple #[.slice A 2 c, .slice D 3 d, vi 0]) ∧ Row intL 1 w' w'.heap.size A [0, 1] ∧ Row intL 1 w' w'.heap.size D [0, 1, 2] ∧ newer w w' := by
  refine (moves35_any (valM q c0 c1 c2) 1300 w h.ok (valM_few _ _ _ _)).mono ?_
  rintro e w' ⟨h1, h2⟩
  unfold movesOut at h1
  rw [VM.sd, val_moves.1, val_moves.2.1, val_moves.2.2] at h1
  obtain ⟨A, c, D, d, h3, h4, h5⟩ := h1
  exact ⟨A, c, D, d, h3, row_of_own (enc := intL) (size := 1) (l := [0, 1]) (by omega) (fun _ => rfl) h4, row_of_own (enc := intL) (size := 1) (l := [0, 1, 2]) (by omega) (fun _ => rfl) h5, h2⟩
set_option maxRecDepth 100000 in
set_option maxHeartbeats 8000000 in
theorem wakes_any (w : World) : Calls Try.prog 17 #[] w fun e w' => e = .returned (.bool true) ∧ newer w w' := by
  go_enter Try.func17, Try.ntmps17
  go_wp2_with fail
  refine (valley_any w).mono ?_
  rintro e w1 ⟨q1, a1, b1, c1, rfl, hv1, hb1⟩
  have e2 := newer_allocH w1 (.cells #[vi 0, vi 0] 3)
  have HV1 := Lib.hid (And.intro (hv1.next e2) (And.intro (Whole.made w1 3 #[vi 0, vi 0]) (newer_trans hb1 e2)))
  clear hv1 hb1 e2
  go_wp2_with fail
  refine (from0_any _ _ _ _).mono ?_
  rintro e w2 ⟨rfl, hb⟩
  have HV2 := Lib.hid (And.intro (HV1.out.1.next hb) (And.intro (HV1.out.2.1.below hb HV1.out.2.1.lt) (newer_trans HV1.out.2.2 hb)))
  clear hb HV1
  go_wp2_with fail
  refine (val_span_any q1 a1 b1 c1 _ _ w2 HV2.out.1 HV2.out.2.1).mono ?_
  rintro e w3 ⟨rfl, hb⟩
  have e4 := newer_allocH w3 (.cells #[vi 785, vi 1200] 31)
  have H3 := Lib.hid (And.intro (newer_trans (newer_trans HV2.out.2.2 hb) e4) (Whole.made w3 31 #[vi 785, vi 1200]))
  clear hb HV2 e4
  go_wp2_with fail
  obtain ⟨qb, hqb⟩ : ∃ qb, qb = w3.heap.size := ⟨_, rfl⟩
  rw [← hqb] at H3 ⊢
  clear hqb
  refine (valley_any _).mono ?_
  rintro e w4 ⟨q2, a2, b2, c2, rfl, hv, hb⟩
  have H4 := Lib.hid (And.intro (newer_trans H3.out.1 hb) (And.intro (H3.out.2.below hb H3.out.2.lt) hv))
  clear hv hb H3
  go_wp2_with fail
  refine (val_worst_any q2 a2 b2 c2 w4 H4.out.2.2).mono ?_
  rintro e w5 ⟨A1, d1, rfl, hr, hb⟩
  have e6 := newer_allocH w5 (.cells #[vi 0, .slice A1 2 d1] 39)
  have H5 := Lib.hid (And.intro (newer_trans (newer_trans H4.out.1 hb) e6) (And.intro ((H4.out.2.1.below hb H4.out.2.1.lt).below e6 ((H4.out.2.1.below hb H4.out.2.1.lt).lt)) (And.intro (Whole.made w5 39 #[vi 0, .slice A1 2 d1]) ((hr.below e6).more e6.size))))
  clear hb hr e6 H4
  go_wp2_with fail
  obtain ⟨ub, hub⟩ : ∃ ub, ub = w5.heap.size := ⟨_, rfl⟩
  rw [← hub] at H5 ⊢
  clear hub
  refine (valley_any _).mono ?_
  rintro e w6 ⟨q3, a3, b3, c3, rfl, hv, hb⟩
  have H6 := Lib.hid (And.intro (newer_trans H5.out.1 hb) (And.intro (H5.out.2.1.below hb H5.out.2.1.lt) (And.intro (H5.out.2.2.1.below hb H5.out.2.2.1.lt) (And.intro ((H5.out.2.2.2.below hb).more hb.size) hv))))
  clear hv hb H5
  go_wp2_with fail
  refine (val_margin_any q3 a3 b3 c3 w6 H6.out.2.2.2.2).mono ?_
  rintro e w7 ⟨rfl, hb⟩
  have H7 := Lib.hid (And.intro (newer_trans H6.out.1 hb) (And.intro (H6.out.2.1.below hb H6.out.2.1.lt) (And.intro (H6.out.2.2.1.below hb H6.out.2.2.1.lt) ((H6.out.2.2.2.1.below hb).more hb.size))))
  clear hb H6
  go_wp2_with fail
  refine (valley_any _).mono ?_
  rintro e w8 ⟨q4, a4, b4, c4, rfl, hv, hb⟩
  have H8 := Lib.hid (And.intro (newer_trans H7.out.1 hb) (And.intro (H7.out.2.1.below hb H7.out.2.1.lt) (And.intro (H7.out.2.2.1.below hb H7.out.2.2.1.lt) (And.intro ((H7.out.2.2.2.below hb).more hb.size) hv))))
  clear hv hb H7
  go_wp2_with fail
  refine (val_moves_any q4 a4 b4 c4 w8 H8.out.2.2.2.2).mono ?_
  rintro e w9 ⟨A2, d2, A3, d3, rfl, hr2, hr3, hb⟩
  have H9 := Lib.hid (And.intro (newer_trans H8.out.1 hb) (And.intro (H8.out.2.1.below hb H8.out.2.1.lt) (H8.out.2.2.1.below hb H8.out.2.2.1.lt)))
  have HR := Lib.hid (And.intro ((H8.out.2.2.2.1.below hb).more hb.size) (And.intro hr2 hr3))
  clear hb hr2 hr3 H8
  have q0 := H9.out.2.1.at 0 (v := vi 785) rfl
  have q1 := H9.out.2.1.at 1 (v := vi 1200) rfl
  have u0 := H9.out.2.2.at 0 (v := vi 0) rfl
  have u1 := H9.out.2.2.at 1 (v := .slice A1 2 d1) rfl
  go_upto_region 5 with fail
  refine wp_words (by kernel_rfl) (region_told_g 48 (by kernel_rfl) (by kernel_rfl) (fun W => Below w9.heap.size w9 W) newer (pickD [vIs (vi 0), vIs (.bool true), vIs (.bool true), vIs (vi 0), vIs (.bool true), vIs (.bool true), vIs (.bool true), vIs (vi 0), vIs (.bool true), vIs (.bool true), vIs (.bool true), vIs (vi 0), vIs (.bool true), vIs (.bool true), vIs (.bool true), vIs (.agg #[vi 785, vi 1200]), vIs (.agg #[vi 785, vi 1200]), vIs (.bool true), vIs (.bool true), vIs (.bool true), vIs (.pointer (some ⟨ub, 0, none⟩)), vIs (vi 0), vIs (.bool true), vIs (.bool true), vIs (.bool true), vIs (.pointer (some ⟨ub, 1, none⟩)), vIs (.slice A1 2 d1), vArr w9.heap.size 2 #[vi 0, vi 1], vIs (.bool true), vIs (.bool true), vIs (.bool true), vIs (vi 755), vIs (.bool true), vIs (.bool true), vIs (.bool true), vIs (vi 70), vIs (.bool true), vIs (.bool true), vIs (.bool true), vIs (.slice A2 2 d2), vArr w9.heap.size 2 #[vi 0, vi 1], vIs (.bool true), vIs (.bool true), vIs (.bool true), vIs (.slice A3 3 d3), vArr w9.heap.size 3 #[vi 0, vi 1, vi 2], vIs (.bool true), vIs (.bool true)]) ⟨trivial, trivial, trivial, (fun _ _ h => h), (fun _ _ h => h), trivial, trivial, (fun _ _ h => h), (fun _ _ h => h), trivial, trivial, (fun _ _ h => h), (fun _ _ h => h), trivial, trivial, (fun _ _ h => h), (fun _ _ h => h), (fun _ _ h => h), trivial, trivial, (fun _ _ h => h), (fun _ _ h => h), (fun _ _ h => h), trivial, trivial, (fun _ _ h => h), (fun _ _ h => h), (fun _ _ h => h), (fun _ _ h => h), trivial, trivial, (fun _ _ h => h), (fun _ _ h => h), trivial, trivial, (fun _ _ h => h), (fun _ _ h => h), trivial, trivial, (fun _ _ h => h), (fun _ _ h => h), (fun _ _ h => h), trivial, trivial, (fun _ _ h => h), (fun _ _ h => h), (fun _ _ h => h), trivial, trivial⟩ (fun h k => newer_trans h k) (pickD_stable _ ⟨vIs_st, vIs_st, vIs_st, vIs_st, vIs_st, vIs_st, vIs_st, vIs_st, vIs_st, vIs_st, vIs_st, vIs_st, vIs_st, vIs_st, vIs_st, vIs_st, vIs_st, vIs_st, vIs_st, vIs_st, vIs_st, vIs_st, vIs_st, vIs_st, vIs_st, vIs_st, vIs_st, vArr_st, vIs_st, vIs_st, vIs_st, vIs_st, vIs_st, vIs_st, vIs_st, vIs_st, vIs_st, vIs_st, vIs_st, vIs_st, vArr_st, vIs_st, vIs_st, vIs_st, vIs_st, vArr_st, vIs_st, vIs_st, trivial⟩) (Below.refl _ w9).drew (Below.refl _ _) ?_ ?_)
  · refine ⟨?_, ?_, ?_, ?_, ?_, ?_, ?_, ?_, ?_, ?_, ?_, ?_, ?_, ?_, ?_, ?_, ?_, ?_, ?_, ?_, ?_, ?_, ?_, ?_, ?_, ?_, ?_, ?_, ?_, ?_, ?_, ?_, ?_, ?_, ?_, ?_, ?_, ?_, ?_, ?_, ?_, ?_, ?_, ?_, ?_, ?_, ?_, ?_, trivial⟩
    · intro a W hG hR hO hp
      have h2 := hO.slot 2 (by kernel_rfl)
      refine wp_yields (v := vi 0) ?_ ⟨_, rfl, rfl, Below.refl _ _, hG⟩
      simp [slotOf] at h2
      simp [execOp, go_sem, h2]
    · intro a W hG hR hO hp
      have h35 : slotOf a 35 = vi 0 := hp.1
      refine wp_yields (v := .bool true) ?_ ⟨_, rfl, rfl, Below.refl _ _, hG⟩
      simp [slotOf] at h35
      simp [execOp, go_sem, h35]
    · intro a W hG hR hO hp
      have h36 : slotOf a 36 = .bool true := hp.1
      refine wp_yields (v := .bool true) ?_ ⟨_, rfl, rfl, Below.refl _ _, hG⟩
      simp [slotOf] at h36
      simp [execOp, go_sem, h36]
    · intro a W hG hR hO hp
      have h5 := hO.slot 5 (by kernel_rfl)
      refine wp_yields (v := vi 0) ?_ ⟨_, rfl, rfl, Below.refl _ _, hG⟩
      simp [slotOf] at h5
      simp [execOp, go_sem, h5]
    · intro a W hG hR hO hp
      have h38 : slotOf a 38 = vi 0 := hp.1
      refine wp_yields (v := .bool true) ?_ ⟨_, rfl, rfl, Below.refl _ _, hG⟩
      simp [slotOf] at h38
      simp [execOp, go_sem, h38]
    · intro a W hG hR hO hp
      have h37 : slotOf a 37 = .bool true := hp.1
      have h39 : slotOf a 39 = .bool true := hp.2.1
      refine wp_yields (v := .bool true) ?_ ⟨_, rfl, rfl, Below.refl _ _, hG⟩
      simp [slotOf] at h37 h39
      simp [execOp, go_sem, h37, h39]
    · intro a W hG hR hO hp
      have h40 : slotOf a 40 = .bool true := hp.1
      refine wp_yields (v := .bool true) ?_ ⟨_, rfl, rfl, Below.refl _ _, hG⟩
      simp [slotOf] at h40
      simp [execOp, go_sem, h40]
    · intro a W hG hR hO hp
      have h7 := hO.slot 7 (by kernel_rfl)
      refine wp_yields (v := vi 0) ?_ ⟨_, rfl, rfl, Below.refl _ _, hG⟩
      simp [slotOf] at h7
      simp [execOp, go_sem, h7]
    · intro a W hG hR hO hp
      have h42 : slotOf a 42 = vi 0 := hp.1
      refine wp_yields (v := .bool true) ?_ ⟨_, rfl, rfl, Below.refl _ _, hG⟩
      simp [slotOf] at h42
      simp [execOp, go_sem, h42]
    · intro a W hG hR hO hp
      have h41 : slotOf a 41 = .bool true := hp.1
      have h43 : slotOf a 43 = .bool true := hp.2.1
      refine wp_yields (v := .bool true) ?_ ⟨_, rfl, rfl, Below.refl _ _, hG⟩
      simp [slotOf] at h41 h43
      simp [execOp, go_sem, h41, h43]
    · intro a W hG hR hO hp
      have h44 : slotOf a 44 = .bool true := hp.1
      refine wp_yields (v := .bool true) ?_ ⟨_, rfl, rfl, Below.refl _ _, hG⟩
      simp [slotOf] at h44
      simp [execOp, go_sem, h44]
    · intro a W hG hR hO hp
      have h10 := hO.slot 10 (by kernel_rfl)
      refine wp_yields (v := vi 0) ?_ ⟨_, rfl, rfl, Below.refl _ _, hG⟩
      simp [slotOf] at h10
      simp [execOp, go_sem, h10]
    · intro a W hG hR hO hp
      have h46 : slotOf a 46 = vi 0 := hp.1
      refine wp_yields (v := .bool true) ?_ ⟨_, rfl, rfl, Below.refl _ _, hG⟩
      simp [slotOf] at h46
      simp [execOp, go_sem, h46]
    · intro a W hG hR hO hp
      have h45 : slotOf a 45 = .bool true := hp.1
      have h47 : slotOf a 47 = .bool true := hp.2.1
      refine wp_yields (v := .bool true) ?_ ⟨_, rfl, rfl, Below.refl _ _, hG⟩
      simp [slotOf] at h45 h47
      simp [execOp, go_sem, h45, h47]
    · intro a W hG hR hO hp
      have h48 : slotOf a 48 = .bool true := hp.1
      refine wp_yields (v := .bool true) ?_ ⟨_, rfl, rfl, Below.refl _ _, hG⟩
      simp [slotOf] at h48
      simp [execOp, go_sem, h48]
    · intro a W hG hR hO hp
      have h1 := hO.slot 1 (by kernel_rfl)
      have c0 := keep_cell q0 hG
      have c1 := keep_cell q1 hG
      refine wp_yields (v := .agg #[vi 785, vi 1200]) ?_ ⟨_, rfl, rfl, Below.refl _ _, hG⟩
      simp [slotOf] at h1
      simp [execOp, go_sem, h1, c0, c1]
    · intro a W hG hR hO hp
      refine wp_enters (f := 56) (args := #[vi 785, vi 1200]) ?_ ((span56_any 785 1200 W).mono ?_)
      · skip
        simp [go_sem]
      · rintro e w' ⟨rfl, hb⟩
        exact ⟨_, rfl, _, rfl, rfl, hb, below_next hG hb⟩
    · intro a W hG hR hO hp
      have h50 : slotOf a 50 = .agg #[vi 785, vi 1200] := hp.1
      have h51 : slotOf a 51 = .agg #[vi 785, vi 1200] := hp.2.1
      refine wp_yields (v := .bool true) ?_ ⟨_, rfl, rfl, Below.refl _ _, hG⟩
      exact exec_eq31 rfl ((eval_slot a 50).trans h50) ((eval_slot a 51).trans h51)
    · intro a W hG hR hO hp
      have h49 : slotOf a 49 = .bool true := hp.1
      have h52 : slotOf a 52 = .bool true := hp.2.1
      refine wp_yields (v := .bool true) ?_ ⟨_, rfl, rfl, Below.refl _ _, hG⟩
      simp [slotOf] at h49 h52
      simp [execOp, go_sem, h49, h52]
    · intro a W hG hR hO hp
      have h53 : slotOf a 53 = .bool true := hp.1
      refine wp_yields (v := .bool true) ?_ ⟨_, rfl, rfl, Below.refl _ _, hG⟩
      simp [slotOf] at h53
      simp [execOp, go_sem, h53]
    · intro a W hG hR hO hp
      have h3 := hO.slot 3 (by kernel_rfl)
      refine wp_yields (v := .pointer (some ⟨ub, 0, none⟩)) ?_ ⟨_, rfl, rfl, Below.refl _ _, hG⟩
      simp [slotOf] at h3
      simp [execOp, go_sem, h3]
    · intro a W hG hR hO hp
      have h55 : slotOf a 55 = .pointer (some ⟨ub, 0, none⟩) := hp.1
      have c0 := keep_cell u0 hG
      refine wp_yields (v := vi 0) ?_ ⟨_, rfl, rfl, Below.refl _ _, hG⟩
      simp [slotOf] at h55
      simp [execOp, go_sem, h55, c0]
    · intro a W hG hR hO hp
      have h56 : slotOf a 56 = vi 0 := hp.1
      refine wp_yields (v := .bool true) ?_ ⟨_, rfl, rfl, Below.refl _ _, hG⟩
      simp [slotOf] at h56
      simp [execOp, go_sem, h56]
    · intro a W hG hR hO hp
      have h54 : slotOf a 54 = .bool true := hp.1
      have h57 : slotOf a 57 = .bool true := hp.2.1
      refine wp_yields (v := .bool true) ?_ ⟨_, rfl, rfl, Below.refl _ _, hG⟩
      simp [slotOf] at h54 h57
      simp [execOp, go_sem, h54, h57]
    · intro a W hG hR hO hp
      have h58 : slotOf a 58 = .bool true := hp.1
      refine wp_yields (v := .bool true) ?_ ⟨_, rfl, rfl, Below.refl _ _, hG⟩
      simp [slotOf] at h58
      simp [execOp, go_sem, h58]
    · intro a W hG hR hO hp
      have h3 := hO.slot 3 (by kernel_rfl)
      refine wp_yields (v := .pointer (some ⟨ub, 1, none⟩)) ?_ ⟨_, rfl, rfl, Below.refl _ _, hG⟩
      simp [slotOf] at h3
      simp [execOp, go_sem, h3]
    · intro a W hG hR hO hp
      have h60 : slotOf a 60 = .pointer (some ⟨ub, 1, none⟩) := hp.1
      have c0 := keep_cell u1 hG
      refine wp_yields (v := .slice A1 2 d1) ?_ ⟨_, rfl, rfl, Below.refl _ _, hG⟩
      simp [slotOf] at h60
      simp [execOp, go_sem, h60, c0]
    · intro a W hG hR hO hp
      refine wp_makes (v := .slice (some ⟨W.heap.size, 0, none⟩) 2 2) (W' := W.alloc (.cells #[vi 0, vi 1] 3)) ?_ ⟨_, rfl, ⟨_, rfl, hG.size, Whole.made _ _ _⟩, newer_allocH _ _, hG.alloc hG.size _⟩
      simp [execOp, go_sem]
    · intro a W hG hR hO hp
      have h61 : slotOf a 61 = .slice A1 2 d1 := hp.1
      have h62 := hp.2.1
      obtain ⟨nb, h62, hnb, hW⟩ := h62
      refine wp_enters (f := 36) (args := #[.slice A1 2 d1, .slice (some ⟨nb, 0, none⟩) 2 2]) ?_ ((lawInts [0, 1] [0, 1] A1 (some ⟨nb, 0, none⟩) d1 2 W (by simp) (by simp) ((HR.out.1.below hG).more hG.size) (row_of_whole (enc := intL) (s := 1) (fun _ => rfl) hW rfl)).mono ?_)
      · simp [slotOf] at h61 h62
        simp [go_sem, h61, h62]
      · rintro e w' ⟨rfl, hb⟩
        exact ⟨_, rfl, _, rfl, rfl, hb, below_next hG hb⟩
    · intro a W hG hR hO hp
      have h59 : slotOf a 59 = .bool true := hp.1
      have h63 : slotOf a 63 = .bool true := hp.2.1
      refine wp_yields (v := .bool true) ?_ ⟨_, rfl, rfl, Below.refl _ _, hG⟩
      simp [slotOf] at h59 h63
      simp [execOp, go_sem, h59, h63]
    · intro a W hG hR hO hp
      have h64 : slotOf a 64 = .bool true := hp.1
      refine wp_yields (v := .bool true) ?_ ⟨_, rfl, rfl, Below.refl _ _, hG⟩
      simp [slotOf] at h64
      simp [execOp, go_sem, h64]
    · intro a W hG hR hO hp
      have h4 := hO.slot 4 (by kernel_rfl)
      refine wp_yields (v := vi 755) ?_ ⟨_, rfl, rfl, Below.refl _ _, hG⟩
      simp [slotOf] at h4
      simp [execOp, go_sem, h4]
    · intro a W hG hR hO hp
      have h66 : slotOf a 66 = vi 755 := hp.1
      refine wp_yields (v := .bool true) ?_ ⟨_, rfl, rfl, Below.refl _ _, hG⟩
      simp [slotOf] at h66
      simp [execOp, go_sem, h66]
    · intro a W hG hR hO hp
      have h65 : slotOf a 65 = .bool true := hp.1
      have h67 : slotOf a 67 = .bool true := hp.2.1
      refine wp_yields (v := .bool true) ?_ ⟨_, rfl, rfl, Below.refl _ _, hG⟩
      simp [slotOf] at h65 h67
      simp [execOp, go_sem, h65, h67]
    · intro a W hG hR hO hp
      have h68 : slotOf a 68 = .bool true := hp.1
      refine wp_yields (v := .bool true) ?_ ⟨_, rfl, rfl, Below.refl _ _, hG⟩
      simp [slotOf] at h68
      simp [execOp, go_sem, h68]
    · intro a W hG hR hO hp
      have h6 := hO.slot 6 (by kernel_rfl)
      refine wp_yields (v := vi 70) ?_ ⟨_, rfl, rfl, Below.refl _ _, hG⟩
      simp [slotOf] at h6
      simp [execOp, go_sem, h6]
    · intro a W hG hR hO hp
      have h70 : slotOf a 70 = vi 70 := hp.1
      refine wp_yields (v := .bool true) ?_ ⟨_, rfl, rfl, Below.refl _ _, hG⟩
      simp [slotOf] at h70
      simp [execOp, go_sem, h70]
    · intro a W hG hR hO hp
      have h69 : slotOf a 69 = .bool true := hp.1
      have h71 : slotOf a 71 = .bool true := hp.2.1
      refine wp_yields (v := .bool true) ?_ ⟨_, rfl, rfl, Below.refl _ _, hG⟩
      simp [slotOf] at h69 h71
      simp [execOp, go_sem, h69, h71]
    · intro a W hG hR hO hp
      have h72 : slotOf a 72 = .bool true := hp.1
      refine wp_yields (v := .bool true) ?_ ⟨_, rfl, rfl, Below.refl _ _, hG⟩
      simp [slotOf] at h72
      simp [execOp, go_sem, h72]
    · intro a W hG hR hO hp
      have h8 := hO.slot 8 (by kernel_rfl)
      refine wp_yields (v := .slice A2 2 d2) ?_ ⟨_, rfl, rfl, Below.refl _ _, hG⟩
      simp [slotOf] at h8
      simp [execOp, go_sem, h8]
    · intro a W hG hR hO hp
      refine wp_makes (v := .slice (some ⟨W.heap.size, 0, none⟩) 2 2) (W' := W.alloc (.cells #[vi 0, vi 1] 3)) ?_ ⟨_, rfl, ⟨_, rfl, hG.size, Whole.made _ _ _⟩, newer_allocH _ _, hG.alloc hG.size _⟩
      simp [execOp, go_sem]
    · intro a W hG hR hO hp
      have h74 : slotOf a 74 = .slice A2 2 d2 := hp.1
      have h75 := hp.2.1
      obtain ⟨nb, h75, hnb, hW⟩ := h75
      refine wp_enters (f := 36) (args := #[.slice A2 2 d2, .slice (some ⟨nb, 0, none⟩) 2 2]) ?_ ((lawInts [0, 1] [0, 1] A2 (some ⟨nb, 0, none⟩) d2 2 W (by simp) (by simp) ((HR.out.2.1.below hG).more hG.size) (row_of_whole (enc := intL) (s := 1) (fun _ => rfl) hW rfl)).mono ?_)
      · simp [slotOf] at h74 h75
        simp [go_sem, h74, h75]
      · rintro e w' ⟨rfl, hb⟩
        exact ⟨_, rfl, _, rfl, rfl, hb, below_next hG hb⟩
    · intro a W hG hR hO hp
      have h73 : slotOf a 73 = .bool true := hp.1
      have h76 : slotOf a 76 = .bool true := hp.2.1
      refine wp_yields (v := .bool true) ?_ ⟨_, rfl, rfl, Below.refl _ _, hG⟩
      simp [slotOf] at h73 h76
      simp [execOp, go_sem, h73, h76]
    · intro a W hG hR hO hp
      have h77 : slotOf a 77 = .bool true := hp.1
      refine wp_yields (v := .bool true) ?_ ⟨_, rfl, rfl, Below.refl _ _, hG⟩
      simp [slotOf] at h77
      simp [execOp, go_sem, h77]
    · intro a W hG hR hO hp
      have h9 := hO.slot 9 (by kernel_rfl)
      refine wp_yields (v := .slice A3 3 d3) ?_ ⟨_, rfl, rfl, Below.refl _ _, hG⟩
      simp [slotOf] at h9
      simp [execOp, go_sem, h9]
    · intro a W hG hR hO hp
      refine wp_makes (v := .slice (some ⟨W.heap.size, 0, none⟩) 3 3) (W' := W.alloc (.cells #[vi 0, vi 1, vi 2] 3)) ?_ ⟨_, rfl, ⟨_, rfl, hG.size, Whole.made _ _ _⟩, newer_allocH _ _, hG.alloc hG.size _⟩
      simp [execOp, go_sem]
    · intro a W hG hR hO hp
      have h79 : slotOf a 79 = .slice A3 3 d3 := hp.1
      have h80 := hp.2.1
      obtain ⟨nb, h80, hnb, hW⟩ := h80
      refine wp_enters (f := 36) (args := #[.slice A3 3 d3, .slice (some ⟨nb, 0, none⟩) 3 3]) ?_ ((lawInts [0, 1, 2] [0, 1, 2] A3 (some ⟨nb, 0, none⟩) d3 3 W (by simp) (by simp) ((HR.out.2.2.below hG).more hG.size) (row_of_whole (enc := intL) (s := 1) (fun _ => rfl) hW rfl)).mono ?_)
      · simp [slotOf] at h79 h80
        simp [go_sem, h79, h80]
      · rintro e w' ⟨rfl, hb⟩
        exact ⟨_, rfl, _, rfl, rfl, hb, below_next hG hb⟩
    · intro a W hG hR hO hp
      have h78 : slotOf a 78 = .bool true := hp.1
      have h81 : slotOf a 81 = .bool true := hp.2.1
      refine wp_yields (v := .bool true) ?_ ⟨_, rfl, rfl, Below.refl _ _, hG⟩
      simp [slotOf] at h78 h81
      simp [execOp, go_sem, h78, h81]
  · intro wz hG hR
    rintro _ rfl _ rfl _ rfl _ rfl _ rfl _ rfl _ rfl _ rfl _ rfl _ rfl _ rfl _ rfl _ rfl _ rfl _ rfl _ rfl _ rfl _ rfl _ rfl _ rfl _ rfl _ rfl _ rfl _ rfl _ rfl _ rfl _ rfl _ hv62 _ rfl _ rfl _ rfl _ rfl _ rfl _ rfl _ rfl _ rfl _ rfl _ rfl _ rfl _ rfl _ hv75 _ rfl _ rfl _ rfl _ rfl _ hv80 _ rfl _ rfl
    change wpList _ _ _ _ _ _
    simp only [Act.put, List.setIfInBounds_toArray, List.set_cons_zero, List.set_cons_succ, List.drop_succ_cons, List.drop_zero]
    have HE := Lib.hid (newer_trans H9.out.1 hG)
    clear hG hR q0 q1 u0 u1
    go_wp2_with fail
    go_ret
    exact ⟨rfl, HE.out⟩
end

end Go.Proofs.Ytkenokpobbichaa
