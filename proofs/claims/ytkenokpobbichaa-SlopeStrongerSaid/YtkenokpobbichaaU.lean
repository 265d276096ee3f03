/- The beds of a surface, the factor of beds, and the span of a surface. -/
import Derived.Test.YtkenokpobbichaaT
namespace Go.Proofs.Ytkenokpobbichaa
open Go.RowKit Go.Shelf Go.Deep

def zeroBd : Bd := ⟨0, 0, ⟨0, 0⟩, ⟨0, 0⟩, ⟨0, 0⟩⟩
def bdAt (cols : List (List Bd)) (k b : Nat) : Bd := (bedAt cols k b).getD zeroBd
/-- The beds of a surface. -/
def bedsL (cols : List (List Bd)) : Nat → List Nat → List Bd
  | _, [] => []
  | k, b :: t => bdAt cols k b :: bedsL cols (k + 1) t
theorem bedsL_len (cols : List (List Bd)) : ∀ (l : List Nat) (k : Nat), (bedsL cols k l).length = l.length
  | [], _ => rfl
  | _ :: t, k => by simp [bedsL, bedsL_len cols t]
theorem bedsL_get (cols : List (List Bd)) : ∀ (l : List Nat) (k i b : Nat), l[i]? = some b → (bedsL cols k l)[i]? = some (bdAt cols (k + i) b)
  | [], _, _, _, h => by simp at h
  | x :: t, k, 0, b, h => by
    have e : x = b := by simpa using h
    subst e
    rfl
  | x :: t, k, i + 1, b, h => by
    have ih := bedsL_get cols t (k + 1) i b (by simpa using h)
    rw [show k + (i + 1) = k + 1 + i by omega, ← ih]
    simp [bedsL]
def hK (l : List Bd) (tr : Nat → Rl) : Nat → Int
  | 0 => 0
  | k + 1 => hK l tr k + holdsN (l.getD k zeroBd) (tr k)
def dK (l : List Bd) : Nat → Int
  | 0 => 0
  | k + 1 => dK l k + (l.getD k zeroBd).drive
/-- What is true of a bed lies where it may. -/
def rlB (x : Rl) : Bool := inB x.fr 0 2000 && inB x.co 0 100000 && inB x.wa 0 100000
theorem rlB_parts {x : Rl} (h : rlB x = true) : (0 ≤ x.fr ∧ x.fr ≤ 2000) ∧ (0 ≤ x.co ∧ x.co ≤ 100000) ∧ (0 ≤ x.wa ∧ x.wa ≤ 100000) := by
  simp only [rlB, inB, Bool.and_eq_true, decide_eq_true_eq] at h
  exact ⟨h.1.1, h.1.2, h.2⟩
theorem hK_bd {l : List Bd} {tr : Nat → Rl} : ∀ k, k ≤ l.length → (∀ b ∈ l, bdB b = true) → (∀ i, i < k → rlB (tr i) = true) → 0 ≤ hK l tr k ∧ hK l tr k ≤ 300000 * k
  | 0, _, _, _ => by simp [hK]
  | k + 1, hk, hb, ht => by
    have ih := hK_bd k (by omega) hb (fun i hi => ht i (by omega))
    obtain ⟨b, hbk⟩ := get_of_lt (l := l) (k := k) (by omega)
    have e : l.getD k zeroBd = b := by simp [List.getD, hbk]
    obtain ⟨h1, h2, h3⟩ := rlB_parts (ht k (by omega))
    have h4 := (holds_bd (b := b) (x := tr k) (bdB_parts (hb b (List.mem_of_getElem? hbk))).2.1 h1 h2 h3.1).2.2
    simp only [hK, e]
    omega
theorem dK_bd {l : List Bd} : ∀ k, k ≤ l.length → (∀ b ∈ l, bdB b = true) → -100000 * k ≤ dK l k ∧ dK l k ≤ 100000 * k
  | 0, _, _ => by simp [dK]
  | k + 1, hk, hb => by
    have ih := dK_bd k (by omega) hb
    obtain ⟨b, hbk⟩ := get_of_lt (l := l) (k := k) (by omega)
    have e : l.getD k zeroBd = b := by simp [List.getD, hbk]
    have h4 := (bdB_parts (hb b (List.mem_of_getElem? hbk))).1
    simp only [dK, e]
    omega
/-- The factor, and whether beds drive. -/
def facV (H D : Int) : Value := .tuple (if D < 1 then #[vi 0, .bool false] else #[vi (factorN H D), .bool true])
set_option maxRecDepth 100000 in
set_option maxHeartbeats 1000000 in
theorem factor_any (l : List Bd) (A : Option Addr) (c F : Nat) (cp : Array Value) (tr : Nat → Rl) (w : World) (hl : l.length ≤ 1000) (hr : Row bdL 8 w w.heap.size A l) (hbd : ∀ b ∈ l, bdB b = true) (htr : ∀ i, i < l.length → rlB (tr i) = true) (hF : ∀ (args : Array Value) (W : World), (callFunc F args).run Try.prog W = .ok (.enter F args) W)
    (hT : ∀ (i : Nat) (b : Bd) (W : World), l[i]? = some b → newer w W → Calls Try.prog F (#[vi i, bdV b] ++ cp) W fun e w' => e = .returned (rlV (tr i)) ∧ newer W w') :
    Calls Try.prog 59 #[.slice A l.length c, .func (.func F) #[] cp] w fun e w' => e = .returned (facV (hK l tr l.length) (dK l l.length)) ∧ newer w w' := by
  have HR := Lib.hid hr
  have HB := Lib.hid hbd
  have HTR := Lib.hid htr
  have HT0 := Lib.hid hT
  obtain ⟨H, hH⟩ : ∃ H, H = hK l tr l.length := ⟨_, rfl⟩
  obtain ⟨D, hD⟩ : ∃ D, D = dK l l.length := ⟨_, rfl⟩
  rw [← hH, ← hD]
  have HHD := Lib.hid (And.intro hH hD)
  clear hH hD
  clear hT htr hr hbd
  go_enter Try.func59, Try.ntmps59
  go_wp2_with fail
  go_loopw [6, 7, 12] (fun s6 s7 s12 wr => ∃ k : Nat, k ≤ l.length ∧ s12 = vi k ∧ s6 = vi (hK l tr k) ∧ s7 = vi (dK l k) ∧ newer w wr) (fun _ _ s12 _ => l.length - (intOf s12).toNat)
  case atStart => exact ⟨0, Nat.zero_le _, rfl, rfl, rfl, Below.refl _ _⟩
  case round =>
    obtain ⟨k, hk, rfl, rfl, rfl, hn⟩ := hrel
    have hh := hK_bd (tr := tr) k hk HB.out (fun i hi => HTR.out i (by omega))
    have hd := dK_bd k hk HB.out
    obtain ⟨w2, rfl⟩ : ∃ w2 : World, w2 = wr := ⟨_, rfl⟩
    by_cases hlt : k < l.length
    · obtain ⟨b, hbk⟩ := get_of_lt hlt
      obtain ⟨b1, o1, ea, _, d0, d1, d2, d3, d4, d5, d6, d7⟩ := row8 (HR.out.below hn) hbk
      have hge : l.getD k zeroBd = b := by simp [List.getD, hbk]
      have hbb := bdB_parts (HB.out b (List.mem_of_getElem? hbk))
      have HS : Hid (hK l tr (k + 1) = hK l tr k + holdsN b (tr k) ∧ dK l (k + 1) = dK l k + b.drive) := Lib.hid (by simp only [hK, dK, hge]; exact ⟨trivial, trivial⟩)
      obtain ⟨h, hhe⟩ : ∃ h, h = hK l tr k := ⟨_, rfl⟩
      obtain ⟨d, hde⟩ : ∃ d, d = dK l k := ⟨_, rfl⟩
      obtain ⟨y, hy⟩ : ∃ y, y = tr k := ⟨_, rfl⟩
      have hyb : rlB y = true := by rw [hy]; exact HTR.out k hlt
      obtain ⟨y1, y2, y3⟩ := rlB_parts hyb
      have hhb := (holds_bd (b := b) (x := y) hbb.2.1 y1 y2 y3.1).2.2
      have HH := Lib.hid (fun W => holds_any b y W hbb.2.1 y1 y2 y3)
      have HT1 := Lib.hid (HT0.out k b)
      rw [← hhe] at hh HS ⊢
      rw [← hde] at hd HS ⊢
      rw [← hy] at HS HT1
      obtain ⟨hb, hhb2⟩ : ∃ hb, hb = holdsN b y := ⟨_, rfl⟩
      rw [← hhb2] at HH HS hhb
      have hk1 : (k : Int) ≤ 1000 := by omega
      have HC : Hid (IntKind.i64.wrap (h + hb) = h + hb ∧ IntKind.i64.wrap (d + b.drive) = d + b.drive) := Lib.hid ⟨IntWalk.i64_in _ (by omega), IntWalk.i64_in _ (by omega)⟩
      have HN := Lib.hid (And.intro hn hbk)
      subst ea
      clear hhe hde hy hyb y1 y2 y3 hhb2 hge hn hbk hh hd hhb hbb
      go_upto_region 5 with fail
      have hn3 := newer_allocH w2 (.cells (bdC b) 104)
      have hw3 := Whole.made w2 104 (bdC b)
      refine genQ (fun X => newer w2 X ∧ Whole X w2.heap.size 104 (bdC b)) ⟨hn3, hw3⟩ ?_
      clear hn3 hw3 d0 d1 d2 d3 d4 d5 d6 d7
      rintro w3 ⟨hn3, hw3⟩
      have z0 := hw3.at 0 (v := vi b.drive) rfl
      have z1 := hw3.at 1 (v := vi b.normal) rfl
      have z2 := hw3.at 2 (v := vi b.fr.lo) rfl
      have z3 := hw3.at 3 (v := vi b.fr.hi) rfl
      have z4 := hw3.at 4 (v := vi b.co.lo) rfl
      have z5 := hw3.at 5 (v := vi b.co.hi) rfl
      have z6 := hw3.at 6 (v := vi b.wa.lo) rfl
      have z7 := hw3.at 7 (v := vi b.wa.hi) rfl
      have HN3 := Lib.hid (newer_trans HN.out.1 hn3)
      have HT := Lib.hid (fun W (hW : newer w3 W) => HT1.out W HN.out.2 (newer_trans HN3.out hW))
      clear hn3 hw3 HT1
      refine wp_words (by kernel_rfl) (region_told_e 13 (by kernel_rfl) (by kernel_rfl) (fun W => Below w3.heap.size w3 W) newer (pickD [vIs (vi h), vIs (bdV b), vIs (.func (.func F) #[] cp), vIs (vi k), vIs (bdV b), vIs (rlV y), vIs (vi hb), vIs (vi (h + hb)), vIs (vi d), vIs (.pointer (some ⟨w2.heap.size, 0, none⟩)), vIs (vi b.drive), vIs (vi (d + b.drive)), vIs (vi (h + hb))]) (pickD_stable _ ⟨vIs_st, vIs_st, vIs_st, vIs_st, vIs_st, vIs_st, vIs_st, vIs_st, vIs_st, vIs_st, vIs_st, vIs_st, vIs_st, trivial⟩) (Below.refl _ w3).drew ?_ ?_)
      · refine ⟨?_, ?_, ?_, ?_, ?_, ?_, ?_, ?_, ?_, ?_, ?_, ?_, ?_, trivial⟩
        · intro a W hG hO hE hp
          have h6 := hE 12 _ 6 (by decide) rfl rfl (by kernel_rfl)
          refine wp_yields (v := vi h) ?_ ⟨_, rfl, rfl, Below.refl _ _, hG⟩
          simp [slotOf] at h6
          simp [execOp, go_sem, h6]
        · intro a W hG hO hE hp
          have h9 := hO.slot 9 (by kernel_rfl)
          have c0 := keep_cell z0 hG
          have c1 := keep_cell z1 hG
          have c2 := keep_cell z2 hG
          have c3 := keep_cell z3 hG
          have c4 := keep_cell z4 hG
          have c5 := keep_cell z5 hG
          have c6 := keep_cell z6 hG
          have c7 := keep_cell z7 hG
          refine wp_yields (v := bdV b) ?_ ⟨_, rfl, rfl, Below.refl _ _, hG⟩
          simp [slotOf] at h9
          simp [execOp, go_sem, h9, c0, c1, c2, c3, c4, c5, c6, c7]
        · intro a W hG hO hE hp
          have h1 := hO.slot 1 (by kernel_rfl)
          refine wp_yields (v := .func (.func F) #[] cp) ?_ ⟨_, rfl, rfl, Below.refl _ _, hG⟩
          simp [slotOf] at h1
          simp [execOp, go_sem, h1]
        · intro a W hG hO hE hp
          have h8 := hO.slot 8 (by kernel_rfl)
          refine wp_yields (v := vi k) ?_ ⟨_, rfl, rfl, Below.refl _ _, hG⟩
          simp [slotOf] at h8
          simp [execOp, go_sem, h8]
        · intro a W hG hO hE hp
          have h9 := hO.slot 9 (by kernel_rfl)
          have c0 := keep_cell z0 hG
          have c1 := keep_cell z1 hG
          have c2 := keep_cell z2 hG
          have c3 := keep_cell z3 hG
          have c4 := keep_cell z4 hG
          have c5 := keep_cell z5 hG
          have c6 := keep_cell z6 hG
          have c7 := keep_cell z7 hG
          refine wp_yields (v := bdV b) ?_ ⟨_, rfl, rfl, Below.refl _ _, hG⟩
          simp [slotOf] at h9
          simp [execOp, go_sem, h9, c0, c1, c2, c3, c4, c5, c6, c7]
        · intro a W hG hO hE hp
          have h19 : slotOf a 19 = .func (.func F) #[] cp := hp.1
          have h20 : slotOf a 20 = vi k := hp.2.1
          have h21 : slotOf a 21 = bdV b := hp.2.2.1
          obtain ⟨ar, har⟩ : ∃ ar, ar = #[vi k, bdV b] ++ cp := ⟨_, rfl⟩
          have hcc := HT.out W hG
          rw [← har] at hcc
          refine wp_enters (f := F) (args := ar) ?_ (hcc.mono ?_)
          · simp [slotOf] at h19 h20 h21
            rw [har]
            simp [execOp, go_sem, h19, h20, h21, hF]
          · rintro e w' ⟨rfl, hb⟩
            exact ⟨_, rfl, _, rfl, rfl, hb, below_next hG hb⟩
        · intro a W hG hO hE hp
          have h18 : slotOf a 18 = bdV b := hp.1
          have h22 : slotOf a 22 = rlV y := hp.2.1
          refine wp_enters (f := 89) (args := #[bdV b, rlV y]) ?_ ((HH.out W).mono ?_)
          · simp [slotOf] at h18 h22
            simp [go_sem, h18, h22]
          · rintro e w' ⟨rfl, hb⟩
            exact ⟨_, rfl, _, rfl, rfl, hb, below_next hG hb⟩
        · intro a W hG hO hE hp
          have h17 : slotOf a 17 = vi h := hp.1
          have h23 : slotOf a 23 = vi hb := hp.2.1
          refine wp_yields (v := vi (h + hb)) ?_ ⟨_, rfl, rfl, Below.refl _ _, hG⟩
          simp [slotOf] at h17 h23
          simp [execOp, go_sem, h17, h23, HC.out.1]
        · intro a W hG hO hE hp
          have h7 := hO.slot 7 (by kernel_rfl)
          refine wp_yields (v := vi d) ?_ ⟨_, rfl, rfl, Below.refl _ _, hG⟩
          simp [slotOf] at h7
          simp [execOp, go_sem, h7]
        · intro a W hG hO hE hp
          have h9 := hO.slot 9 (by kernel_rfl)
          refine wp_yields (v := .pointer (some ⟨w2.heap.size, 0, none⟩)) ?_ ⟨_, rfl, rfl, Below.refl _ _, hG⟩
          simp [slotOf] at h9
          simp [execOp, go_sem, h9]
        · intro a W hG hO hE hp
          have h26 : slotOf a 26 = .pointer (some ⟨w2.heap.size, 0, none⟩) := hp.1
          have c0 := keep_cell z0 hG
          refine wp_yields (v := vi b.drive) ?_ ⟨_, rfl, rfl, Below.refl _ _, hG⟩
          simp [slotOf] at h26
          simp [execOp, go_sem, h26, c0]
        · intro a W hG hO hE hp
          have h25 : slotOf a 25 = vi d := hp.1
          have h27 : slotOf a 27 = vi b.drive := hp.2.1
          refine wp_yields (v := vi (d + b.drive)) ?_ ⟨_, rfl, rfl, Below.refl _ _, hG⟩
          simp [slotOf] at h25 h27
          simp [execOp, go_sem, h25, h27, HC.out.2]
        · intro a W hG hO hE hp
          have h24 : slotOf a 24 = vi (h + hb) := hp.1
          refine wp_yields (v := vi (h + hb)) ?_ ⟨_, rfl, rfl, Below.refl _ _, hG⟩
          simp [slotOf] at h24
          simp [execOp, go_sem, h24]
      · intro wz hG
        rintro _ rfl _ rfl _ rfl _ rfl _ rfl _ rfl _ rfl _ rfl _ rfl _ rfl _ rfl _ rfl _ rfl
        change wpList _ _ _ _ _ _
        simp only [Act.put, List.setIfInBounds_toArray, List.set_cons_zero, List.set_cons_succ, List.drop_succ_cons, List.drop_zero]
        have HE := Lib.hid (newer_trans HN3.out hG)
        clear hG z0 z1 z2 z3 z4 z5 z6 z7
        go_wp2_with fail
        refine ⟨⟨k + 1, by omega, rfl, by rw [HS.out.1], by rw [HS.out.2], HE.out⟩, ?_⟩
        simp [intOf]
        omega
    · obtain rfl : k = l.length := by omega
      rw [← HHD.out.1] at hh ⊢
      rw [← HHD.out.2] at hd ⊢
      by_cases hd1 : D < 1
      · have HF : Hid (facV H D = .tuple #[vi 0, .bool false]) := Lib.hid (by unfold facV; rw [if_pos hd1])
        go_wp2_with fail
        exact bodyPost_ret (v := .tuple #[vi 0, .bool false]) (by simp [results, Try.results59, go_sem]) rfl ⟨by rw [HF.out], hn⟩
      · have HF : Hid (facV H D = .tuple #[vi (factorN H D), .bool true]) := Lib.hid (by unfold facV; rw [if_neg hd1])
        by_cases hmn : 1000 * H / D < 10000
        · have HFN : Hid (factorN H D = 1000 * H / D) := Lib.hid (by unfold factorN mnI; rw [if_pos hmn])
          go_wp2_with fail
          exact bodyPost_ret (v := .tuple #[vi (1000 * H / D), .bool true]) (by simp [results, Try.results59, go_sem]) rfl ⟨by rw [HF.out, HFN.out], hn⟩
        · have HFN : Hid (factorN H D = 10000) := Lib.hid (by unfold factorN mnI; rw [if_neg hmn])
          go_wp2_with fail
          exact bodyPost_ret (v := .tuple #[vi 10000, .bool true]) (by simp [results, Try.results59, go_sem]) rfl ⟨by rw [HF.out, HFN.out], hn⟩
theorem way_lt {n : Nat} : ∀ (l : List Nat) (i b : Nat), wayB n l → l[i]? = some b → b < n
  | [], _, _, _, h => by simp at h
  | x :: t, 0, b, hw, h => by
    have e : x = b := by simpa using h
    exact e ▸ hw.1
  | x :: t, i + 1, b, hw, h => way_lt t i b hw.2.2 (by simpa using h)
theorem bdAt_is {s : Sm} (hs : SdOk s.sd) {k j : Nat} (hk : k < s.cs.length) (hj : j < s.sd.n) : ∃ x, s.cs[k]? = some x ∧ x.beds[j]? = some (bdAt s.sd.cols k j) ∧ x.beds.length = s.sd.n ∧ bdB (bdAt s.sd.cols k j) = true := by
  obtain ⟨x, b, h1, h2, h3, h4, h5⟩ := sm_bed hs hk hj
  have e : bdAt s.sd.cols k j = b := by unfold bdAt; rw [h4]; rfl
  rw [e]
  exact ⟨x, h1, h2, h3, h5⟩
theorem bedsL_ok {s : Sm} (hs : SdOk s.sd) {k : Nat} {l : List Nat} (hw : wayB s.sd.n l) (hk : k + l.length ≤ s.cs.length) : ∀ b ∈ bedsL s.sd.cols k l, bdB b = true := by
  intro b hb
  obtain ⟨i, hi⟩ := List.mem_iff_getElem?.1 hb
  have hil := (List.getElem?_eq_some_iff.1 hi).1
  rw [bedsL_len] at hil
  obtain ⟨x, hx⟩ := get_of_lt hil
  rw [bedsL_get _ _ _ _ _ hx] at hi
  obtain ⟨y, _, _, _, h⟩ := bdAt_is hs (k := k + i) (j := x) (by omega) (way_lt l i x hw hx)
  injection hi with hi
  rw [← hi]
  exact h
set_option maxRecDepth 100000 in
set_option maxHeartbeats 1000000 in
theorem bedsU_any (s : Sm) (u : Su) (k0 : Nat) (l : List Nat) (w : World) (hok : SmOk s w) (hs : SdOk s.sd) (hu : SuOk u w) (hf : u.frm = k0) (hl : u.beds = l.map fun x : Nat => (x : Int)) (hsf : SurfB s.sd.n s.cs.length s.sd.K k0 l) :
    Calls Try.prog 58 #[smV s, suV u] w fun e w' => ∃ A c, e = .returned (.slice A l.length c) ∧ w'.ownsRow w.heap.size 104 8 (.slice A l.length c) l.length ((bedsL s.sd.cols k0 l).flatMap bdL) ∧ newer w w' := by
  have hcl : s.cs.length ≤ 12 := by have h1 := hs.cols; rw [sd_len] at h1; omega
  have hul : u.beds.length = l.length := by rw [hl]; simp
  have hll : 1 ≤ l.length := by have h1 := hsf.1; have h2 := (hd_ok hs false).K0; omega
  obtain ⟨y0, hy0⟩ := get_of_lt (l := s.cs) (k := 0) (by have := hsf.2.1; omega)
  obtain ⟨b1, o1, ea, _, _⟩ := rowC hok.cs hy0
  obtain ⟨b2, o2, eu, _⟩ := row1k hu (k := 0) (by omega)
  have hnw : newer w ((w.alloc (.cells (smC s) 37)).alloc (.cells (suC u) 39)) := newer_trans (newer_allocH _ _) (newer_allocH _ _)
  have hxb := (Whole.made w 37 (smC s)).alloc (.cells (suC u) 39)
  have hub := Whole.made (w.alloc (.cells (smC s) 37)) 39 (suC u)
  rw [World.size_alloc] at hub
  have H0 := Lib.hid (And.intro hnw (And.intro hxb hub))
  have u1 := hub.at 1 (v := .slice u.a u.beds.length u.c) rfl
  rw [eu, hul] at u1
  have HEA := Lib.hid (And.intro ea eu)
  have HOK := Lib.hid hok
  have HU := Lib.hid hu
  have HSD := Lib.hid hs
  have HSF := Lib.hid (And.intro hsf (And.intro hf (And.intro hl hul)))
  have hkl : k0 + l.length ≤ s.cs.length := hsf.2.1
  obtain ⟨i0, hi0, hz0, hz1, hz2⟩ := info_parts info_bd
  have HI := Lib.hid (And.intro hi0 (And.intro hz0 (And.intro hz1 hz2)))
  clear hok hs hu hsf hf hl hul hnw hxb hub ea eu hy0 hi0 hz0 hz1 hz2
  go_enter Try.func58, Try.ntmps58
  go_wp2_with fail
  go_loopw [4, 10] (fun s4 s10 wr => ∃ (k : Nat) (A : Option Addr) (c : Nat), s10 = vi k ∧ k ≤ l.length ∧ s4 = .slice A k c ∧ wr.ownsRow w.heap.size 104 8 (.slice A k c) k (((bedsL s.sd.cols k0 l).take k).flatMap bdL) ∧ newer w wr ∧ Whole wr w.heap.size 37 (smC s) ∧ Whole wr (w.heap.size + 1) 39 (suC u)) (fun _ s10 _ => l.length - (intOf s10).toNat)
  case atStart => exact ⟨0, none, 0, rfl, Nat.zero_le _, rfl, ⟨rfl, .inl ⟨rfl, rfl⟩⟩, H0.out.1, H0.out.2.1, H0.out.2.2⟩
  case round =>
    obtain ⟨k, A, c, rfl, hk, rfl, hown, hn, hx, hu2⟩ := hrel
    clear u1 H0
    have HJ := Lib.hid (And.intro hown (And.intro hn (And.intro hx hu2)))
    by_cases hlt : k < l.length
    · obtain ⟨b, hb⟩ := get_of_lt hlt
      have hbn := way_lt l k b HSF.out.1.2.2 hb
      obtain ⟨kk, hkk0⟩ : ∃ kk, kk = k0 + k := ⟨_, rfl⟩
      obtain ⟨x, hx1, hx2, hx3, _⟩ := bdAt_is HSD.out (k := kk) (j := b) (by omega) hbn
      obtain ⟨bd, hbd⟩ : ∃ bd, bd = bdAt s.sd.cols kk b := ⟨_, rfl⟩
      rw [← hbd] at hx2
      have HG := Lib.hid (show (bedsL s.sd.cols k0 l)[k]? = some bd by rw [hbd, hkk0]; exact bedsL_get _ l k0 k b hb)
      obtain ⟨b3, o3, e3, _, cx⟩ := rowC (HOK.out.next hn).cs hx1
      rw [HEA.out.1] at e3
      obtain ⟨rfl, rfl⟩ : b1 = b3 ∧ o1 = o3 := by simpa using e3
      obtain ⟨b4, o4, e4, _, d0, d1, d2, d3, d4, d5, d6, d7⟩ := row8 ((HOK.out.next hn).bd x (List.mem_of_getElem? hx1)) hx2
      rw [e4] at cx
      obtain ⟨b5, o5, e5, p0⟩ := row1k (HU.out.next hn) (k := k) (by rw [HSF.out.2.2.2]; exact hlt)
      rw [HEA.out.2] at e5
      obtain ⟨rfl, rfl⟩ : b2 = b5 ∧ o2 = o5 := by simpa using e5
      have ep : iAt u.beds k = (b : Int) := by rw [HSF.out.2.2.1]; simp [iAt, hb]
      rw [ep] at p0
      have x0 := hx.at 0 (v := .slice s.a s.cs.length s.c) rfl
      rw [HEA.out.1] at x0
      have u0 := hu2.at 0 (v := vi u.frm) rfl
      rw [HSF.out.2.1] at u0
      have hkk : ((k0 : Int) + k) = (kk : Int) := by omega
      have hkc : (kk : Int) < s.cs.length := by omega
      have hbx : (b : Int) < x.beds.length := by omega
      have hk12 : k ≤ 12 := by omega
      have hk012 : k0 ≤ 12 := by omega
      have hn1 := newer_allocH wr (.cells (bdC bd) 104)
      have HO := Lib.hid (own_below hown hn1)
      have HNW : Hid (newer w (wr.alloc (.cells (bdC bd) 104))) := Lib.hid (newer_trans hn hn1)
      have HJ2 := Lib.hid (And.intro (hx.below hn1 hx.lt) (hu2.below hn1 hu2.lt))
      have HWN := Lib.hid (World.news_of_block (Whole.made wr 104 (bdC bd)))
      clear hkk0 hown hn hx hu2 hn1 hx1 hx2 hx3 hbd e3 e4 e5 ep hbn hb HJ
      go_wp2_with (at_builtin; go_loud ((refine wpList_append_lies _ rfl (.tmp 15) (.tmp 27) 105 rfl w.heap.size 104 i0 (.agg #[vi 0, vi 0, vi 0, vi 0, vi 0, vi 0, vi 0, vi 0]) 8 64 Try.underlying105 HI.out.1 HI.out.2.1 HI.out.2.2.1 HI.out.2.2.2 rfl (by omega) _ k _ rfl HO.out ⟨wr.heap.size, 0, none⟩ 1 1 (bdL bd) rfl rfl HWN.out (by simp [Value.oneCell']) (by omega) (by unfold maxLen; omega) (by omega) HNW.out.size (wr.alloc (.cells (bdC bd) 104)).heap.size rfl ?_); intro gg cp2 w2 hown2 hgrow2 hat2 hlt2; rw [← take_flat bdL _ k bd HG.out] at hown2; have HE := Lib.hid (And.intro hown2 (And.intro hgrow2 (own_ge HO.out))); clear hown2 hgrow2 hat2 hlt2))
      refine ⟨⟨k + 1, some ⟨gg, 0, none⟩, cp2, rfl, by omega, rfl, HE.out.1, ?_, ?_, ?_⟩, ?_⟩
      · exact below_grown (grown_trans' (grown_of_newer HNW.out _) HE.out.2.1) HE.out.2.2 (Nat.le_refl _)
      · exact HJ2.out.1.grown HE.out.2.1 (fun e => own_ne HO.out HJ2.out.1 (by decide) e.symm)
      · exact HJ2.out.2.grown HE.out.2.1 (fun e => own_ne HO.out HJ2.out.2 (by decide) e.symm)
      · simp [intOf]
        omega
    · obtain rfl : k = l.length := by omega
      have HE := Lib.hid (show wr.ownsRow w.heap.size 104 8 (.slice A l.length c) l.length ((bedsL s.sd.cols k0 l).flatMap bdL) by
        have h1 := HJ.out.1
        rw [List.take_of_length_le (by rw [bedsL_len]; omega)] at h1
        exact h1)
      go_wp2_with fail
      go_ret
      exact ⟨A, c, rfl, HE.out, hn⟩

end Go.Proofs.Ytkenokpobbichaa
