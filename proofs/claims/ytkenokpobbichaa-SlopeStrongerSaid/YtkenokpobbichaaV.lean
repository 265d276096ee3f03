/- The span of a surface. -/
import Derived.Test.YtkenokpobbichaaU
namespace Go.Proofs.Ytkenokpobbichaa
open Go.RowKit Go.Shelf Go.Deep

theorem way_get {n : Nat} : ∀ (l : List Nat) (i b c : Nat), wayB n l → l[i]? = some b → l[i + 1]? = some c → b ≤ c + 1 ∧ c ≤ b + 1
  | [], _, _, _, _, h, _ => by simp at h
  | x :: t, 0, b, c, hw, h, h2 => by
    have e : x = b := by simpa using h
    have h3 : t[0]? = some c := by simpa using h2
    exact e ▸ hw.2.1 c (by rw [List.head?_eq_getElem?]; exact h3)
  | x :: t, i + 1, b, c, hw, h, h2 => way_get t i b c hw.2.2 (by simpa using h) (by simpa using h2)
theorem way_of {n : Nat} : ∀ (l : List Nat), (∀ (i b : Nat), l[i]? = some b → b < n) → (∀ (i b c : Nat), l[i]? = some b → l[i + 1]? = some c → b ≤ c + 1 ∧ c ≤ b + 1) → wayB n l
  | [], _, _ => trivial
  | x :: t, h1, h2 => ⟨h1 0 x rfl, fun c hc => h2 0 x c rfl (by rw [List.head?_eq_getElem?] at hc; simpa using hc), way_of t (fun i b h => h1 (i + 1) b (by simpa using h)) (fun i b c hb hc => h2 (i + 1) b c (by simpa using hb) (by simpa using hc))⟩
theorem natL_of {l : List Int} (h : ∀ i, i < l.length → 0 ≤ iAt l i) : (l.map Int.toNat).map (fun x : Nat => (x : Int)) = l := by
  rw [List.map_map]
  refine (List.map_congr_left fun x hx => ?_).trans (List.map_id l)
  obtain ⟨i, hi⟩ := List.mem_iff_getElem?.1 hx
  have h1 := h i (List.getElem?_eq_some_iff.1 hi).1
  rw [iAt_of hi] at h1
  show ((x.toNat : Nat) : Int) = x
  omega
theorem goodB_iff {n : Nat} {p : Nat → Bool} : goodB n p = true ↔ ∀ j, j < n → p j = true := by
  unfold goodB
  rw [List.all_eq_true]
  exact ⟨fun h j hj => h j (List.mem_range.2 hj), fun h x hx => h x (List.mem_range.1 hx)⟩
theorem surfB_nat {s : Sd} (hs : SdOk s) {k : Nat} {l : List Nat} : surfB s k (l.map fun x : Nat => (x : Int)) = true ↔ SurfB s.n s.cols.length s.K k l := by
  have hK : (s.K : Int) = s.least := by have := hs.least; unfold Sd.K; omega
  have hg : ∀ i, i < l.length → iAt (l.map fun x : Nat => (x : Int)) i = ((l.getD i 0 : Nat) : Int) := fun i hi => by
    obtain ⟨b, hb⟩ := get_of_lt hi
    simp [iAt, hb, List.getD]
  unfold surfB SurfB
  rw [List.length_map, Bool.and_eq_true, Bool.and_eq_true, Bool.and_eq_true, decide_eq_true_eq, decide_eq_true_eq, decide_eq_true_eq, goodB_iff]
  have hn := hs.beds
  constructor
  · rintro ⟨⟨⟨_, h2⟩, h3⟩, h4⟩
    have h5 : ∀ (i b : Nat), l[i]? = some b → b < s.n := fun i b hb => by
      have hi := (List.getElem?_eq_some_iff.1 hb).1
      have h6 := h4 i hi
      unfold okB at h6
      rw [Bool.and_eq_true, hg i hi] at h6
      have h7 := h6.1
      simp only [inB, Bool.and_eq_true, decide_eq_true_eq, List.getD, hb, Option.getD_some] at h7
      omega
    refine ⟨by omega, by omega, way_of l h5 fun i b c hb hc => ?_⟩
    have hi := (List.getElem?_eq_some_iff.1 hc).1
    have h6 := h4 (i + 1) hi
    unfold okB at h6
    rw [Bool.and_eq_true, hg (i + 1) hi, show i + 1 - 1 = i by omega, hg i (by omega)] at h6
    have h7 := h6.2
    simp only [inB, Bool.or_eq_true, Bool.and_eq_true, decide_eq_true_eq, List.getD, hb, hc, Option.getD_some] at h7
    omega
  · rintro ⟨h1, h2, h3⟩
    refine ⟨⟨⟨by omega, by omega⟩, by omega⟩, fun i hi => ?_⟩
    obtain ⟨b, hb⟩ := get_of_lt hi
    have hbn := way_lt l i b h3 hb
    unfold okB
    rw [Bool.and_eq_true, hg i hi]
    refine ⟨by simp only [inB, Bool.and_eq_true, decide_eq_true_eq, List.getD, hb, Option.getD_some]; omega, ?_⟩
    by_cases h0 : i = 0
    · simp [h0]
    · rw [hg (i - 1) (by omega)]
      obtain ⟨c, hc⟩ := get_of_lt (l := l) (k := i - 1) (by omega)
      have h4 := way_get l (i - 1) c b h3 hc (by rw [show i - 1 + 1 = i by omega]; exact hb)
      simp only [inB, Bool.or_eq_true, Bool.and_eq_true, decide_eq_true_eq, List.getD, hb, hc, Option.getD_some]
      omega
theorem surfB_parts {s : Sd} (hs : SdOk s) {frm : Int} {l : List Int} (h : surfB s frm l = true) : frm = (frm.toNat : Nat) ∧ l = (l.map Int.toNat).map (fun x : Nat => (x : Int)) ∧ SurfB s.n s.cols.length s.K frm.toNat (l.map Int.toNat) := by
  have h0 := h
  unfold surfB at h0
  rw [Bool.and_eq_true, Bool.and_eq_true, Bool.and_eq_true, decide_eq_true_eq, decide_eq_true_eq, decide_eq_true_eq, goodB_iff] at h0
  have e1 : frm = (frm.toNat : Nat) := by omega
  have e2 : l = (l.map Int.toNat).map (fun x : Nat => (x : Int)) := (natL_of fun i hi => by
    have h6 := h0.2 i hi
    unfold okB at h6
    rw [Bool.and_eq_true] at h6
    have h7 := h6.1
    simp only [inB, Bool.and_eq_true, decide_eq_true_eq] at h7
    exact h7.1).symm
  refine ⟨e1, e2, (surfB_nat hs).1 ?_⟩
  rw [← e1, ← e2]
  exact h
/-- The beds of a surface, and their factors. -/
def bedsU (s : Sd) (frm : Int) (l : List Int) : List Bd := bedsL s.cols frm.toNat (l.map Int.toNat)
def facE (bs : List Bd) (hi : Bool) : Int := factorN (hK bs (fun i => endR hi (bs.getD i zeroBd)) bs.length) (dK bs bs.length)
def spanV (s : Sd) (frm : Int) (l : List Int) : Value := .tuple (if checkUN s frm l = 0 then (if dK (bedsU s frm l) (bedsU s frm l).length < 1 then #[.agg #[vi 0, vi 0], vi 7] else #[.agg #[vi (facE (bedsU s frm l) false), vi (facE (bedsU s frm l) true)], vi 0]) else #[.agg #[vi 0, vi 0], vi (checkUN s frm l)])
theorem checkU_zero {s : Sd} {frm : Int} {l : List Int} (h : checkUN s frm l = 0) : SdOk s ∧ surfB s frm l = true := by
  unfold checkUN at h
  cases hv : slopeB s with
  | false => rw [hv] at h; simp at h
  | true =>
    rw [hv] at h
    cases hf : surfB s frm l with
    | false => rw [hf] at h; simp at h
    | true => exact ⟨sdOk_iff.1 hv, rfl⟩
set_option maxHeartbeats 1000000 in
theorem spanLo_any (i : Int) (b : Bd) (w : World) : Calls Try.prog 60 #[vi i, bdV b] w fun e w' => e = .returned (rlV (endR false b)) ∧ newer w w' := by
  have hnw := newer_trans (newer_allocH w (.cells (bdC b) 104)) (newer_allocH (w.alloc (.cells (bdC b) 104)) (.cells #[vi 0, vi 0, vi 0] 101))
  have hbx := (Whole.made w 104 (bdC b)).alloc (.cells #[vi 0, vi 0, vi 0] 101)
  have hrb := Whole.made (w.alloc (.cells (bdC b) 104)) 101 #[vi 0, vi 0, vi 0]
  simp only [World.size_alloc] at hrb
  obtain ⟨x, hx⟩ : ∃ x, x = endR false b := ⟨_, rfl⟩
  have HA := Lib.hid (fun W => least_any b W)
  rw [← hx] at HA ⊢
  clear hx
  have H1 := Lib.hid (And.intro (hnw) (And.intro (hbx) (hrb)))
  clear hnw hbx hrb
  have x0 := H1.out.2.1.at 0 (v := vi b.drive) rfl
  have x1 := H1.out.2.1.at 1 (v := vi b.normal) rfl
  have x2 := H1.out.2.1.at 2 (v := vi b.fr.lo) rfl
  have x3 := H1.out.2.1.at 3 (v := vi b.fr.hi) rfl
  have x4 := H1.out.2.1.at 4 (v := vi b.co.lo) rfl
  have x5 := H1.out.2.1.at 5 (v := vi b.co.hi) rfl
  have x6 := H1.out.2.1.at 6 (v := vi b.wa.lo) rfl
  have x7 := H1.out.2.1.at 7 (v := vi b.wa.hi) rfl
  go_enter Try.func60, Try.ntmps60
  go_wp2_with fail
  refine (HA.out _).mono ?_
  rintro e w2 ⟨rfl, hb⟩
  have H3 := Lib.hid (And.intro ((newer_trans H1.out.1 hb)) (And.intro ((H1.out.2.1.below hb H1.out.2.1.lt)) ((H1.out.2.2.below hb H1.out.2.2.lt))))
  clear hb HA H1 x0 x1 x2 x3 x4 x5 x6 x7
  have f0 := H3.out.2.2.free 0
  have f1 := H3.out.2.2.free 1
  have f2 := H3.out.2.2.free 2
  have r0 := H3.out.2.2.at 0 (v := vi 0) rfl
  have r1 := H3.out.2.2.at 1 (v := vi 0) rfl
  have r2 := H3.out.2.2.at 2 (v := vi 0) rfl
  go_wp2_with fail
  have HZ := Lib.hid (And.intro (((H3.out.1.setCell (p := ⟨w.heap.size + 1, 0, none⟩) (Nat.le_succ _) (vi x.fr)).setCell (p := ⟨w.heap.size + 1, 1, none⟩) (Nat.le_succ _) (vi x.co)).setCell (p := ⟨w.heap.size + 1, 2, none⟩) (Nat.le_succ _) (vi x.wa)) (((H3.out.2.2.set 0 (vi x.fr)).set 1 (vi x.co)).set 2 (vi x.wa)))
  have z0 := HZ.out.2.at 0 (v := vi x.fr) rfl
  have z1 := HZ.out.2.at 1 (v := vi x.co) rfl
  have z2 := HZ.out.2.at 2 (v := vi x.wa) rfl
  exact bodyPost_ret (v := .agg #[vi x.fr, vi x.co, vi x.wa]) (by simp [results, Try.results60, go_sem, z0, z1, z2]) rfl ⟨rfl, HZ.out.1⟩
set_option maxHeartbeats 1000000 in
theorem spanHi_any (i : Int) (b : Bd) (w : World) : Calls Try.prog 62 #[vi i, bdV b] w fun e w' => e = .returned (rlV (endR true b)) ∧ newer w w' := by
  have hnw := newer_trans (newer_allocH w (.cells (bdC b) 104)) (newer_allocH (w.alloc (.cells (bdC b) 104)) (.cells #[vi 0, vi 0, vi 0] 101))
  have hbx := (Whole.made w 104 (bdC b)).alloc (.cells #[vi 0, vi 0, vi 0] 101)
  have hrb := Whole.made (w.alloc (.cells (bdC b) 104)) 101 #[vi 0, vi 0, vi 0]
  simp only [World.size_alloc] at hrb
  obtain ⟨x, hx⟩ : ∃ x, x = endR true b := ⟨_, rfl⟩
  have HA := Lib.hid (fun W => most_any b W)
  rw [← hx] at HA ⊢
  clear hx
  have H1 := Lib.hid (And.intro (hnw) (And.intro (hbx) (hrb)))
  clear hnw hbx hrb
  have x0 := H1.out.2.1.at 0 (v := vi b.drive) rfl
  have x1 := H1.out.2.1.at 1 (v := vi b.normal) rfl
  have x2 := H1.out.2.1.at 2 (v := vi b.fr.lo) rfl
  have x3 := H1.out.2.1.at 3 (v := vi b.fr.hi) rfl
  have x4 := H1.out.2.1.at 4 (v := vi b.co.lo) rfl
  have x5 := H1.out.2.1.at 5 (v := vi b.co.hi) rfl
  have x6 := H1.out.2.1.at 6 (v := vi b.wa.lo) rfl
  have x7 := H1.out.2.1.at 7 (v := vi b.wa.hi) rfl
  go_enter Try.func62, Try.ntmps62
  go_wp2_with fail
  refine (HA.out _).mono ?_
  rintro e w2 ⟨rfl, hb⟩
  have H3 := Lib.hid (And.intro ((newer_trans H1.out.1 hb)) (And.intro ((H1.out.2.1.below hb H1.out.2.1.lt)) ((H1.out.2.2.below hb H1.out.2.2.lt))))
  clear hb HA H1 x0 x1 x2 x3 x4 x5 x6 x7
  have f0 := H3.out.2.2.free 0
  have f1 := H3.out.2.2.free 1
  have f2 := H3.out.2.2.free 2
  have r0 := H3.out.2.2.at 0 (v := vi 0) rfl
  have r1 := H3.out.2.2.at 1 (v := vi 0) rfl
  have r2 := H3.out.2.2.at 2 (v := vi 0) rfl
  go_wp2_with fail
  have HZ := Lib.hid (And.intro (((H3.out.1.setCell (p := ⟨w.heap.size + 1, 0, none⟩) (Nat.le_succ _) (vi x.fr)).setCell (p := ⟨w.heap.size + 1, 1, none⟩) (Nat.le_succ _) (vi x.co)).setCell (p := ⟨w.heap.size + 1, 2, none⟩) (Nat.le_succ _) (vi x.wa)) (((H3.out.2.2.set 0 (vi x.fr)).set 1 (vi x.co)).set 2 (vi x.wa)))
  have z0 := HZ.out.2.at 0 (v := vi x.fr) rfl
  have z1 := HZ.out.2.at 1 (v := vi x.co) rfl
  have z2 := HZ.out.2.at 2 (v := vi x.wa) rfl
  exact bodyPost_ret (v := .agg #[vi x.fr, vi x.co, vi x.wa]) (by simp [results, Try.results62, go_sem, z0, z1, z2]) rfl ⟨rfl, HZ.out.1⟩
theorem end_rlB {b : Bd} (h : bdB b = true) (hi : Bool) : rlB (endR hi b) = true := by
  obtain ⟨_, _, h3, h4, h5⟩ := bdB_parts h
  cases hi <;> simp [rlB, inB, endR] <;> omega
theorem facEnd_any (F : Nat) (hi : Bool) (hF : ∀ (args : Array Value) (W : World), (callFunc F args).run Try.prog W = .ok (.enter F args) W) (hC : ∀ (i : Int) (b : Bd) (W : World), Calls Try.prog F #[vi i, bdV b] W fun e w' => e = .returned (rlV (endR hi b)) ∧ newer W w')
    (l : List Bd) (A : Option Addr) (c : Nat) (w : World) (hl : l.length ≤ 1000) (hr : Row bdL 8 w w.heap.size A l) (hbd : ∀ b ∈ l, bdB b = true) :
    Calls Try.prog 59 #[.slice A l.length c, .func (.func F) #[] #[]] w fun e w' => e = .returned (facV (hK l (fun i => endR hi (l.getD i zeroBd)) l.length) (dK l l.length)) ∧ newer w w' := by
  refine factor_any l A c F #[] (fun i => endR hi (l.getD i zeroBd)) w hl hr hbd (fun i hi2 => ?_) hF (fun i b W hb _ => ?_)
  · obtain ⟨b, hb⟩ := get_of_lt hi2
    have e : l.getD i zeroBd = b := by simp [List.getD, hb]
    rw [e]
    exact end_rlB (hbd b (List.mem_of_getElem? hb)) hi
  · have e : l.getD i zeroBd = b := by simp [List.getD, hb]
    rw [e]
    exact hC i b W
set_option maxRecDepth 100000 in
set_option maxHeartbeats 1000000 in
theorem span_any (s : Sm) (u : Su) (w : World) (hok : SmOk s w) (few : SmFew s) (hu : SuOk u w) (hul : u.beds.length ≤ 1000) : Calls Try.prog 18 #[smV s, suV u] w fun e w' => e = .returned (spanV s.sd u.frm u.beds) ∧ newer w w' := by
  have hnw : newer w (((w.alloc (.cells (smC s) 37)).alloc (.cells (suC u) 39)).alloc (.cells #[vi 0, vi 0] 31)) := newer_trans (newer_trans (newer_allocH _ _) (newer_allocH _ _)) (newer_allocH _ _)
  have e3 := newer_allocH ((w.alloc (.cells (smC s) 37)).alloc (.cells (suC u) 39)) (.cells #[vi 0, vi 0] 31)
  have hxb0 := (Whole.made w 37 (smC s)).alloc (.cells (suC u) 39)
  have hub0 := Whole.made (w.alloc (.cells (smC s) 37)) 39 (suC u)
  have hrb := Whole.made ((w.alloc (.cells (smC s) 37)).alloc (.cells (suC u) 39)) 31 #[vi 0, vi 0]
  rw [World.size_alloc] at hub0
  rw [World.size_alloc, World.size_alloc] at hrb
  have hxb := hxb0.below e3 hxb0.lt
  have hub := hub0.below e3 hub0.lt
  have H0 := Lib.hid (And.intro hnw (And.intro hxb (And.intro hub hrb)))
  have HCU := Lib.hid (checkU_any s u _ (hok.next hnw) few (hu.next hnw) hul)
  have x0 := hxb.at 0 (v := .slice s.a s.cs.length s.c) rfl
  have x1 := hxb.at 1 (v := vi s.least) rfl
  have u0 := hub.at 0 (v := vi u.frm) rfl
  have u1 := hub.at 1 (v := .slice u.a u.beds.length u.c) rfl
  have HOK := Lib.hid (And.intro hok hu)
  have HZ : Hid (checkUN s.sd u.frm u.beds = 0 → SdOk s.sd ∧ surfB s.sd u.frm u.beds = true) := Lib.hid checkU_zero
  unfold spanV
  obtain ⟨a, ha⟩ : ∃ a, a = checkUN s.sd u.frm u.beds := ⟨_, rfl⟩
  rw [← ha] at HCU HZ ⊢
  clear ha hok few hu hul hnw hxb hub hxb0 hub0 hrb e3
  by_cases hz : a = 0
  · subst hz
    obtain ⟨hs, hsf⟩ := HZ.out rfl
    obtain ⟨p1, p2, p3⟩ := surfB_parts hs hsf
    rw [if_pos rfl]
    obtain ⟨k0, hk0⟩ : ∃ k0, k0 = u.frm.toNat := ⟨_, rfl⟩
    obtain ⟨l, hl⟩ : ∃ l, l = u.beds.map Int.toNat := ⟨_, rfl⟩
    rw [← hk0] at p1 p3
    rw [← hl] at p2 p3
    rw [sd_len] at p3
    have HBE : Hid (∀ W, newer w W → Calls Try.prog 58 #[smV s, suV u] W fun e w' => ∃ A c, e = .returned (.slice A l.length c) ∧ w'.ownsRow W.heap.size 104 8 (.slice A l.length c) l.length ((bedsL s.sd.cols k0 l).flatMap bdL) ∧ newer W w') := Lib.hid (fun W hW => bedsU_any s u k0 l W (HOK.out.1.next hW) hs (HOK.out.2.next hW) p1 p2 p3)
    have hll : l.length ≤ 12 := by have h1 := p3.2.1; have h2 := hs.cols; rw [sd_len] at h2; omega
    have HBO := Lib.hid (bedsL_ok hs p3.2.2 p3.2.1)
    have eb : bedsU s.sd u.frm u.beds = bedsL s.sd.cols k0 l := by unfold bedsU; rw [← hk0, ← hl]
    rw [eb]
    have hbl := bedsL_len s.sd.cols l k0
    obtain ⟨bs, hbs⟩ : ∃ bs, bs = bedsL s.sd.cols k0 l := ⟨_, rfl⟩
    rw [← hbs] at HBE HBO hbl ⊢
    have HFL : Hid (∀ (A : Option Addr) (c : Nat) W, Row bdL 8 W W.heap.size A bs → Calls Try.prog 59 #[.slice A l.length c, .func (.func 60) #[] #[]] W fun e w' => e = .returned (facV (hK bs (fun i => endR false (bs.getD i zeroBd)) bs.length) (dK bs bs.length)) ∧ newer W w') := Lib.hid (fun A c W hW => by
      have h := facEnd_any 60 false (fun args W => by simp [go_sem]) (fun i b W => spanLo_any i b W) bs A c W (by omega) hW HBO.out
      rw [hbl] at h ⊢
      exact h)
    have HFH : Hid (∀ (A : Option Addr) (c : Nat) W, Row bdL 8 W W.heap.size A bs → Calls Try.prog 59 #[.slice A l.length c, .func (.func 62) #[] #[]] W fun e w' => e = .returned (facV (hK bs (fun i => endR true (bs.getD i zeroBd)) bs.length) (dK bs bs.length)) ∧ newer W w') := Lib.hid (fun A c W hW => by
      have h := facEnd_any 62 true (fun args W => by simp [go_sem]) (fun i b W => spanHi_any i b W) bs A c W (by omega) hW HBO.out
      rw [hbl] at h ⊢
      exact h)
    unfold facE
    obtain ⟨H1, hH1⟩ : ∃ H, H = hK bs (fun i => endR false (bs.getD i zeroBd)) bs.length := ⟨_, rfl⟩
    obtain ⟨H2, hH2⟩ : ∃ H, H = hK bs (fun i => endR true (bs.getD i zeroBd)) bs.length := ⟨_, rfl⟩
    obtain ⟨D, hD⟩ : ∃ D, D = dK bs bs.length := ⟨_, rfl⟩
    rw [← hH1, ← hD] at HFL ⊢
    rw [← hH2, ← hD] at HFH
    rw [← hH2]
    obtain ⟨RV, hRV⟩ : ∃ RV : Array Value, RV = (if D < 1 then #[.agg #[vi 0, vi 0], vi 7] else #[.agg #[vi (factorN H1 D), vi (factorN H2 D)], vi 0]) := ⟨_, rfl⟩
    rw [← hRV]
    have HRV := Lib.hid hRV
    clear hRV hH1 hH2 hD eb hbs hk0 hl p1 p2 p3 hsf hs HZ
    go_enter Try.func18, Try.ntmps18
    go_wp2_with fail
    refine (HCU.out).mono ?_
    rintro e w1 ⟨rfl, hb⟩
    have HA1 := Lib.hid (And.intro (newer_trans H0.out.1 hb) (And.intro (H0.out.2.1.below hb H0.out.2.1.lt) (And.intro (H0.out.2.2.1.below hb H0.out.2.2.1.lt) (H0.out.2.2.2.below hb H0.out.2.2.2.lt))))
    clear H0 hb HCU x0 x1 u0 u1
    have x0 := HA1.out.2.1.at 0 (v := .slice s.a s.cs.length s.c) rfl
    have x1 := HA1.out.2.1.at 1 (v := vi s.least) rfl
    have u0 := HA1.out.2.2.1.at 0 (v := vi u.frm) rfl
    have u1 := HA1.out.2.2.1.at 1 (v := .slice u.a u.beds.length u.c) rfl
    go_wp2_with fail
    refine (HBE.out w1 HA1.out.1).mono ?_
    rintro e w2 ⟨A, c, rfl, hown, hb⟩
    have HA2 := Lib.hid (And.intro (newer_trans HA1.out.1 hb) (And.intro (HA1.out.2.2.2.below hb HA1.out.2.2.2.lt) (row_of_own (enc := bdL) (size := 8) (by omega) (fun _ => rfl) hown)))
    clear HA1 hb HBE x0 x1 u0 u1 hown
    go_wp2_with fail
    refine (HFL.out A c w2 HA2.out.2.2).mono ?_
    rintro e w3 ⟨rfl, hb⟩
    have HA3 := Lib.hid (And.intro (newer_trans HA2.out.1 hb) (And.intro (HA2.out.2.1.below hb HA2.out.2.1.lt) ((HA2.out.2.2.below hb).more hb.size)))
    clear HA2 hb HFL
    by_cases hd : D < 1
    · have HV1 := Lib.hid (show facV H1 D = .tuple #[vi 0, .bool false] by unfold facV; rw [if_pos hd])
      have HV2 := Lib.hid (show facV H2 D = .tuple #[vi 0, .bool false] by unfold facV; rw [if_pos hd])
      rw [HV1.out]
      rw [HV2.out] at HFH
      have HR2 := Lib.hid (HRV.out.trans (if_pos hd))
      go_wp2_with fail
      refine (HFH.out A c w3 HA3.out.2.2).mono ?_
      rintro e w4 ⟨rfl, hb⟩
      have hr := HA3.out.2.1.below hb HA3.out.2.1.lt
      have r0 := hr.at 0 (v := vi 0) rfl
      have r1 := hr.at 1 (v := vi 0) rfl
      have f0 := hr.free 0
      have f1 := hr.free 1
      have hs0 := setCell_same r0
      have hs1 := setCell_same r1
      have HN := Lib.hid (newer_trans HA3.out.1 hb)
      clear hr hb HA3
      go_wp2_with fail
      exact bodyPost_ret (v := .tuple #[.agg #[vi 0, vi 0], vi 7]) (by simp [results, Try.results18, go_sem, r0, r1]) rfl ⟨by rw [HR2.out], HN.out⟩
    · have HV1 := Lib.hid (show facV H1 D = .tuple #[vi (factorN H1 D), .bool true] by unfold facV; rw [if_neg hd])
      have HV2 := Lib.hid (show facV H2 D = .tuple #[vi (factorN H2 D), .bool true] by unfold facV; rw [if_neg hd])
      rw [HV1.out]
      rw [HV2.out] at HFH
      have hr2 := HRV.out.trans (if_neg hd)
      obtain ⟨g1, hg1⟩ : ∃ g1, g1 = factorN H1 D := ⟨_, rfl⟩
      obtain ⟨g2, hg2⟩ : ∃ g2, g2 = factorN H2 D := ⟨_, rfl⟩
      rw [← hg1, ← hg2] at hr2
      rw [← hg1]
      have HR2 := Lib.hid hr2
      rw [← hg2] at HFH
      clear hg1 hg2 HV1 HV2 hr2
      go_wp2_with fail
      refine (HFH.out A c w3 HA3.out.2.2).mono ?_
      rintro e w4 ⟨rfl, hb⟩
      have hr := HA3.out.2.1.below hb HA3.out.2.1.lt
      have r0 := hr.at 0 (v := vi 0) rfl
      have r1 := hr.at 1 (v := vi 0) rfl
      have f0 := hr.free 0
      have f1 := hr.free 1
      have hset := (hr.set 0 (vi g1)).set 1 (vi g2)
      have z0 := hset.at 0 (v := vi g1) rfl
      have z1 := hset.at 1 (v := vi g2) rfl
      have HN := Lib.hid (((newer_trans HA3.out.1 hb).setCell (p := ⟨w.heap.size + 1 + 1, 0, none⟩) (by show w.heap.size ≤ w.heap.size + 1 + 1; omega) (vi g1)).setCell (p := ⟨w.heap.size + 1 + 1, 1, none⟩) (by show w.heap.size ≤ w.heap.size + 1 + 1; omega) (vi g2))
      clear hr hb HA3 hset
      go_wp2_with fail
      exact bodyPost_ret (v := .tuple #[.agg #[vi g1, vi g2], vi 0]) (by simp [results, Try.results18, go_sem, z0, z1]) rfl ⟨by rw [HR2.out], HN.out⟩
  · rw [if_neg hz]
    have hz2 : (a == 0) = false := by rw [beq_eq_false_iff_ne]; exact hz
    have hz3 : (a != 0) = true := by simp [hz]
    clear HZ
    go_enter Try.func18, Try.ntmps18
    go_wp2_with fail
    refine (HCU.out).mono ?_
    rintro e w1 ⟨rfl, hb⟩
    have hr := H0.out.2.2.2.below hb H0.out.2.2.2.lt
    have r0 := hr.at 0 (v := vi 0) rfl
    have r1 := hr.at 1 (v := vi 0) rfl
    have f0 := hr.free 0
    have f1 := hr.free 1
    have hs0 := setCell_same r0
    have hs1 := setCell_same r1
    have HE := Lib.hid (newer_trans H0.out.1 hb)
    clear H0 hb HCU x0 x1 u0 u1 hr
    go_wp2_with fail
    exact bodyPost_ret (v := .tuple #[.agg #[vi 0, vi 0], vi a]) (by simp [results, Try.results18, go_sem, r0, r1]) rfl ⟨rfl, HE.out⟩

end Go.Proofs.Ytkenokpobbichaa
