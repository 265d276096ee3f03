/- SlopeNames returns true: the document's examples, and the errors. -/
import Derived.Test.YtkenokpobbichaaZN07
namespace Go.Proofs.Ytkenokpobbichaa
section
open Go.ChangeShapes Go.WideShapes Go.ChangeAt Go.RowKit Go.Deep
section
open Go.RowKit Go.Shelf Go.Deep
theorem c_span1 : spanE valleyD 0 [0, 1] = 0 /\ spanP valleyD 0 [0, 1] false = 755 /\ spanP valleyD 0 [0, 1] true = 1244 := by decide +kernel
theorem c_span2 : spanE valleyD 0 [1, 1, 1] = 0 /\ spanP valleyD 0 [1, 1, 1] false = 1183 /\ spanP valleyD 0 [1, 1, 1] true = 1933 := by decide +kernel
theorem c_span3 : spanE valleyD 0 [0] = 2 /\ spanP valleyD 0 [0] false = 0 /\ spanP valleyD 0 [0] true = 0 := by decide +kernel
theorem c_span4 : spanE valleyD 0 [0, 2] = 2 /\ spanP valleyD 0 [0, 2] false = 0 /\ spanP valleyD 0 [0, 2] true = 0 := by decide +kernel
theorem c_fac1 : facO valleyD 0 [0, 0] [⟨350, 50, 150⟩, ⟨350, 50, 150⟩] = (941, 0) := by decide +kernel
theorem c_fac2 : facO valleyD 0 [0, 0] [⟨350, 50, 150⟩] = (0, 9) := by decide +kernel
theorem c_fac3 : facO valleyD 0 [0, 0] [⟨350, 50, 150⟩, ⟨350, 50, 201⟩] = (0, 9) := by decide +kernel
theorem c_en1 : enoughN valleyD 755 = 0 := by decide +kernel
theorem c_en2 : enoughN valleyD 756 = 10 := by decide +kernel
theorem c_en3 : enoughN valleyD 10001 = 2 := by decide +kernel
theorem c_mv1 : askedN valleyD 1000 = 0 /\ movesL valleyD 1000 (some true) = [] /\ movesL valleyD 1000 (some false) = [0, 1] := by decide +kernel
theorem c_mv2 : askedN valleyD 700 = 0 /\ movesL valleyD 700 (some true) = [] /\ movesL valleyD 700 (some false) = [] := by decide +kernel
def flatC (i : Nat) : List Bd := match i with
 | 0 => { (valC 0).headD zeroBd with drive := 0 } :: (valC 0).drop 1
 | 1 => { (valC 1).headD zeroBd with drive := 0 } :: (valC 1).drop 1
 | _ => valC 2
def flatD : Sd := ⟨[flatC 0, flatC 1, flatC 2], 2⟩
theorem c_flat : spanE flatD 0 [0, 0] = 7 /\ spanP flatD 0 [0, 0] false = 0 /\ spanP flatD 0 [0, 0] true = 0 := by decide +kernel
def noneB : Bd := ⟨0, 5, ⟨0, 0⟩, ⟨0, 0⟩, ⟨0, 0⟩⟩
def noneD : Sd := ⟨[[noneB]], 1⟩
theorem c_none1 : slopeB noneD = true /\ worstS noneD = none := by decide +kernel
theorem c_none2 : enoughN noneD 10000 = 0 /\ lowT (wetS noneD 100000) 10000 (some false) = none := by decide +kernel
theorem c_none3 : marginS noneD 10000 = 100000 := (margin_of (sdOk_iff.1 c_none1.1) (by decide) (by decide) (m := 100000) (by decide) c_none2.2 (fun h => absurd h (by decide))).symm
def oddD : Sd := ⟨[valC 0, valC 1, (valC 2).take 1], 2⟩
theorem c_odd : slopeB oddD = false /\ slopeB ⟨[], 0⟩ = false := by decide +kernel
theorem c_w : wE valleyD = 0 /\ wV valleyD = 755 := by
 unfold wE wV
 rw [val_worst]
 exact ⟨rfl, rfl⟩
theorem c_pv1 : provO valleyD 755 (tabD valleyD 755) = true := tab_prov c_en1
theorem c_pv2 : provO valleyD 756 (tabD valleyD 755) = false := by
 cases h : provO valleyD 756 (tabD valleyD 755) with
 | false => rfl
 | true => exact absurd (prove_w h c_w.1) (by rw [c_w.2]; decide)
theorem val_sp {q c0 c1 c2 : Nat} (ub cc : Nat) (l : List Int) (w : World) {B : Nat} {e p0 p1 : Int} (h : VM B q c0 c1 c2 w) (hu : Row intL 1 w w.heap.size (some ⟨ub, 0, none⟩) l) (hl : l.length <= 1000) (hs : spanE valleyD 0 l = e /\ spanP valleyD 0 l false = p0 /\ spanP valleyD 0 l true = p1) : Calls Try.prog 18 #[smV (valM q c0 c1 c2), .agg #[vi 0, .slice (some ⟨ub, 0, none⟩) l.length cc]] w fun e' w' => e' = .returned (.tuple #[.agg #[vi p0, vi p1], vi e]) /\ newer w w' := by
 have h1 := span_any (valM q c0 c1 c2) ⟨0, l, some ⟨ub, 0, none⟩, cc⟩ w h.ok (valM_few _ _ _ _) hu hl
 rw [spanV_is] at h1
 rw [VM.sd, hs.1, hs.2.1, hs.2.2] at h1
 exact h1
theorem val_fac {q c0 c1 c2 : Nat} (ub cc : Nat) (l : List Int) (tl : List Rl) (TA : Option Addr) (tc : Nat) (w : World) {B : Nat} {r : Int × Int} (h : VM B q c0 c1 c2 w) (hu : Row intL 1 w w.heap.size (some ⟨ub, 0, none⟩) l) (hl : l.length <= 1000) (htl : tl.length <= 1000) (htr : Row rlL 3 w w.heap.size TA tl) (hs : facO valleyD 0 l tl = r) : Calls Try.prog 42 #[smV (valM q c0 c1 c2), .agg #[vi 0, .slice (some ⟨ub, 0, none⟩) l.length cc], .slice TA tl.length tc] w fun e' w' => e' = .returned (.tuple #[vi r.1, vi r.2]) /\ newer w w' := by
 have h1 := factorP_any (valM q c0 c1 c2) ⟨0, l, some ⟨ub, 0, none⟩, cc⟩ tl TA tc w h.ok (valM_few _ _ _ _) hu hl htl htr
 rw [VM.sd] at h1
 rw [hs] at h1
 exact h1
theorem val_proof {q c0 c1 c2 : Nat} (w : World) {B : Nat} (h : VM B q c0 c1 c2 w) : Calls Try.prog 49 #[smV (valM q c0 c1 c2), vi 755] w fun e w' => ∃ (xs : List Rw) (A : Option Addr) (c : Nat), e = .returned (.tuple #[.slice A xs.length c, vi 0]) /\ TbOk xs A w' /\ TbFew xs /\ xs.map Rw.d = tabD valleyD 755 /\ newer w w' := by
 refine (proof_any (valM q c0 c1 c2) 755 w h.ok (valM_few _ _ _ _)).mono ?_
 intro e w' h4
 unfold proofOut at h4
 rw [VM.sd, if_pos c_en1] at h4
 obtain ⟨xs, A, c, g1, g2, g3, g4⟩ := h4
 exact ⟨xs, A, c, g1, g3.ok, few_tab (sdOk_iff.1 val_ok) g2, g2, g4⟩
theorem val_proof2 {q c0 c1 c2 : Nat} (w : World) {B : Nat} (h : VM B q c0 c1 c2 w) : Calls Try.prog 49 #[smV (valM q c0 c1 c2), vi 756] w fun e w' => e = .returned (.tuple #[.slice none 0 0, vi 10]) /\ newer w w' := by
 refine (proof_any (valM q c0 c1 c2) 756 w h.ok (valM_few _ _ _ _)).mono ?_
 intro e w' h4
 unfold proofOut at h4
 rw [VM.sd, c_en2, if_neg (by decide)] at h4
 exact h4
theorem val_mar {q c0 c1 c2 : Nat} (f e : Int) (w : World) {B : Nat} (h : VM B q c0 c1 c2 w) (hf : enoughN valleyD f = e) (he : ¬ e = 0) : Calls Try.prog 31 #[smV (valM q c0 c1 c2), vi f] w fun e' w' => e' = .returned (.tuple #[vi 0, vi e]) /\ newer w w' := by
 have h1 := margin_any (valM q c0 c1 c2) f w h.ok (valM_few _ _ _ _)
 unfold marginOut at h1
 rw [VM.sd, hf, if_neg he] at h1
 exact h1
theorem val_prove {q c0 c1 c2 : Nat} (f : Int) (xs : List Rw) (A : Option Addr) (c : Nat) (p : Bool) (w : World) {B : Nat} (h : VM B q c0 c1 c2 w) (ht : TbOk xs A w) (tf : TbFew xs) (hd : xs.map Rw.d = tabD valleyD 755) (hp : provO valleyD f (tabD valleyD 755) = p) : Calls Try.prog 51 #[smV (valM q c0 c1 c2), vi f, .slice A xs.length c] w fun e' w' => e' = .returned (.bool p) /\ newer w w' := by
 have h1 := prove_any (valM q c0 c1 c2) f xs A c w h.ok (valM_few _ _ _ _) ht tf
 rw [VM.sd, hd, hp] at h1
 exact h1
theorem val_mv {q c0 c1 c2 : Nat} (f : Int) (L1 L2 : List Nat) (w : World) {B : Nat} (h : VM B q c0 c1 c2 w) (hm : askedN valleyD f = 0 /\ movesL valleyD f (some true) = L1 /\ movesL valleyD f (some false) = L2) : Calls Try.prog 35 #[smV (valM q c0 c1 c2), vi f] w fun e w' => ∃ A c D d, e = .returned (.tuple #[.slice A L1.length c, .slice D L2.length d, vi 0]) /\ Row intL 1 w' w'.heap.size A (L1.map fun x : Nat => (x : Int)) /\ Row intL 1 w' w'.heap.size D (L2.map fun x : Nat => (x : Int)) /\ newer w w' := by
 refine (moves35_any (valM q c0 c1 c2) f w h.ok (valM_few _ _ _ _)).mono ?_
 rintro e w' ⟨h1, h2⟩
 unfold movesOut at h1
 rw [VM.sd, hm.1, hm.2.1, hm.2.2] at h1
 obtain ⟨A, c, D, d, h3, h4, h5⟩ := h1
 exact ⟨A, c, D, d, h3, (row_nats rfl h4).2, (row_nats rfl h5).2, h2⟩
theorem exec_ne31 {o : Oper} {a : Act} {W : World} {x y : Operand} {lo hi : Int} (ho : o.op = .binOp .neq 31 x y 31) (hx : a.eval x = .agg #[vi lo, vi hi]) (hy : a.eval y = .agg #[vi lo, vi hi]) : (execOp a.eval o).run Try.prog W = .ok (.value (.bool false)) W := by
 unfold execOp
 rw [ho]
 dsimp only
 rw [hx, hy]
 simp [go_sem]
theorem VM.le {B B' q c0 c1 c2 : Nat} {W : World} (h : VM B q c0 c1 c2 W) (hB : B' <= B) : VM B' q c0 c1 c2 W := ⟨h.mq, h.m0, h.m1, h.m2, by have := h.ge; omega⟩
theorem apart3 {W : World} {q a b c : Nat} {cs : Array Value} (h0 : Whole W a 104 (valX 0)) (h1 : Whole W b 104 (valX 1)) (h2 : Whole W c 104 (valX 2)) (hq : Whole W q 105 cs) : a ≠ b /\ a ≠ c /\ b ≠ c /\ q ≠ a /\ q ≠ b := by
 have e0 := h0.at 1 (v := vi 900) rfl
 have e1 := h1.at 1 (v := vi 1000) rfl
 have e2 := h2.at 1 (v := vi 1200) rfl
 refine ⟨fun e => ?_, fun e => ?_, fun e => ?_, fun e => ?_, fun e => ?_⟩
 ·rw [e, e1] at e0; simp at e0
 ·rw [e, e2] at e0; simp at e0
 ·rw [e, e2] at e1; simp at e1
 ·subst e
  have h := hq.symm.trans h0
  simp at h
 ·subst e
  have h := hq.symm.trans h1
  simp at h
abbrev flatM (q c0 c1 c2 : Nat) : Sm := ⟨[⟨flatC 0, some ⟨c0, 0, none⟩, 2⟩, ⟨flatC 1, some ⟨c1, 0, none⟩, 2⟩, ⟨flatC 2, some ⟨c2, 0, none⟩, 2⟩], some ⟨q, 0, none⟩, 3, 2⟩
theorem flat_ok {q c0 c1 c2 : Nat} {W : World} (hq : Whole W q 105 #[.slice (some ⟨c0, 0, none⟩) 2 2, .slice (some ⟨c1, 0, none⟩) 2 2, .slice (some ⟨c2, 0, none⟩) 2 2]) (h0 : Whole W c0 104 ((valX 0).setIfInBounds 0 (vi 0))) (h1 : Whole W c1 104 ((valX 1).setIfInBounds 0 (vi 0))) (h2 : Whole W c2 104 (valX 2)) : SmOk (flatM q c0 c1 c2) W := by
 refine ⟨row_of_whole (enc := clL) (s := 1) (fun _ => rfl) hq rfl, fun x hx => ?_⟩
 simp only [List.mem_cons, List.not_mem_nil, or_false] at hx
 rcases hx with rfl | rfl | rfl
 ·exact row_of_whole (enc := bdL) (s := 8) (fun _ => rfl) h0 rfl
 ·exact row_of_whole (enc := bdL) (s := 8) (fun _ => rfl) h1 rfl
 ·exact row_of_whole (enc := bdL) (s := 8) (fun _ => rfl) h2 rfl
theorem flatM_few (q c0 c1 c2 : Nat) : SmFew (flatM q c0 c1 c2) := ⟨by simp, fun x hx => by
 simp only [List.mem_cons, List.not_mem_nil, or_false] at hx
 rcases hx with rfl | rfl | rfl <;> simp [flatC, valC]⟩
theorem flat_sp {q c0 c1 c2 : Nat} (ub cc : Nat) (w : World) (h : SmOk (flatM q c0 c1 c2) w) (hu : Row intL 1 w w.heap.size (some ⟨ub, 0, none⟩) [0, 0]) : Calls Try.prog 18 #[smV (flatM q c0 c1 c2), .agg #[vi 0, .slice (some ⟨ub, 0, none⟩) 2 cc]] w fun e' w' => e' = .returned (.tuple #[.agg #[vi 0, vi 0], vi 7]) /\ newer w w' := by
 have h1 := span_any (flatM q c0 c1 c2) ⟨0, [0, 0], some ⟨ub, 0, none⟩, cc⟩ w h (flatM_few _ _ _ _) hu (by simp)
 rw [spanV_is, show (flatM q c0 c1 c2).sd = flatD from rfl, c_flat.1, c_flat.2.1, c_flat.2.2] at h1
 exact h1
theorem row_pre {α : Type} {enc : α -> List Value} {size : Nat} {w : World} {B : Nat} {A : Option Addr} {l l2 : List α} (h : Row enc size w B A l) (hn : l ≠ []) (hp : ∀ (k : Nat) (c : α), l2[k]? = some c -> l[k]? = some c) : Row enc size w B A l2 := fun _ => by
 obtain ⟨b, off, e, hb, hc⟩ := h hn
 exact ⟨b, off, e, hb, fun k c hk => hc k c (hp k c hk)⟩
theorem apart_q {W : World} {q c : Nat} {cs ds : Array Value} (hq : Whole W q 105 cs) (h : Whole W c 104 ds) : c ≠ q := fun e => by
 subst e
 have h := hq.symm.trans h
 simp at h
abbrev noneM (c q : Nat) : Sm := ⟨[⟨[noneB], some ⟨c, 0, none⟩, 1⟩], some ⟨q, 0, none⟩, 1, 1⟩
theorem none_made (W : World) : newer W (((W.alloc (.cells #[vi 0, vi 5, vi 0, vi 0, vi 0, vi 0, vi 0, vi 0] 104)).alloc (.cells #[.slice (some ⟨W.heap.size, 0, none⟩) 1 1] 105)).alloc (.cells #[.slice (some ⟨W.heap.size + 1, 0, none⟩) 1 1, vi 1] 37)) /\ SmOk (noneM W.heap.size (W.heap.size + 1)) (((W.alloc (.cells #[vi 0, vi 5, vi 0, vi 0, vi 0, vi 0, vi 0, vi 0] 104)).alloc (.cells #[.slice (some ⟨W.heap.size, 0, none⟩) 1 1] 105)).alloc (.cells #[.slice (some ⟨W.heap.size + 1, 0, none⟩) 1 1, vi 1] 37)) /\ Whole (((W.alloc (.cells #[vi 0, vi 5, vi 0, vi 0, vi 0, vi 0, vi 0, vi 0] 104)).alloc (.cells #[.slice (some ⟨W.heap.size, 0, none⟩) 1 1] 105)).alloc (.cells #[.slice (some ⟨W.heap.size + 1, 0, none⟩) 1 1, vi 1] 37)) (W.heap.size + 1 + 1) 37 #[.slice (some ⟨W.heap.size + 1, 0, none⟩) 1 1, vi 1] := by
 have e := newer_trans (newer_trans (newer_allocH W (.cells #[vi 0, vi 5, vi 0, vi 0, vi 0, vi 0, vi 0, vi 0] 104)) (newer_allocH _ (.cells #[.slice (some ⟨W.heap.size, 0, none⟩) 1 1] 105))) (newer_allocH _ (.cells #[.slice (some ⟨W.heap.size + 1, 0, none⟩) 1 1, vi 1] 37))
 have m0 := ((Whole.made W 104 #[vi 0, vi 5, vi 0, vi 0, vi 0, vi 0, vi 0, vi 0]).alloc (.cells #[.slice (some ⟨W.heap.size, 0, none⟩) 1 1] 105)).alloc (.cells #[.slice (some ⟨W.heap.size + 1, 0, none⟩) 1 1, vi 1] 37)
 have m1 := (Whole.made (W.alloc (.cells #[vi 0, vi 5, vi 0, vi 0, vi 0, vi 0, vi 0, vi 0] 104)) 105 #[.slice (some ⟨W.heap.size, 0, none⟩) 1 1]).alloc (.cells #[.slice (some ⟨W.heap.size + 1, 0, none⟩) 1 1, vi 1] 37)
 have m2 := Whole.made ((W.alloc (.cells #[vi 0, vi 5, vi 0, vi 0, vi 0, vi 0, vi 0, vi 0] 104)).alloc (.cells #[.slice (some ⟨W.heap.size, 0, none⟩) 1 1] 105)) 37 #[.slice (some ⟨W.heap.size + 1, 0, none⟩) 1 1, vi 1]
 simp only [World.size_alloc] at m1 m2
 refine ⟨e, ⟨row_of_whole (enc := clL) (s := 1) (fun _ => rfl) m1 rfl, fun x hx => ?_⟩, m2⟩
 simp only [List.mem_cons, List.not_mem_nil, or_false] at hx
 subst hx
 exact row_of_whole (enc := bdL) (s := 8) (fun _ => rfl) m0 rfl
theorem noneM_few (c q : Nat) : SmFew (noneM c q) := ⟨by simp, fun x hx => by
 simp only [List.mem_cons, List.not_mem_nil, or_false] at hx
 subst hx
 simp⟩
theorem none_mar {c q : Nat} (w : World) (h : SmOk (noneM c q) w) : Calls Try.prog 31 #[smV (noneM c q), vi 10000] w fun e' w' => e' = .returned (.tuple #[vi 100000, vi 0]) /\ newer w w' := by
 have h1 := margin_any (noneM c q) 10000 w h (noneM_few _ _)
 unfold marginOut at h1
 rw [show (noneM c q).sd = noneD from rfl, c_none2.1, if_pos rfl, c_none3] at h1
 exact h1
abbrev oddM (q c0 c1 c2 : Nat) : Sm := ⟨[⟨valC 0, some ⟨c0, 0, none⟩, 2⟩, ⟨valC 1, some ⟨c1, 0, none⟩, 2⟩, ⟨(valC 2).take 1, some ⟨c2, 0, none⟩, 2⟩], some ⟨q, 0, none⟩, 3, 2⟩
theorem odd_ok {q c0 c1 c2 : Nat} {W : World} (hq : Whole W q 105 #[.slice (some ⟨c0, 0, none⟩) 2 2, .slice (some ⟨c1, 0, none⟩) 2 2, .slice (some ⟨c2, 0, none⟩) 1 2]) (h0 : Whole W c0 104 (valX 0)) (h1 : Whole W c1 104 (valX 1)) (h2 : Whole W c2 104 (valX 2)) : SmOk (oddM q c0 c1 c2) W := by
 refine ⟨row_of_whole (enc := clL) (s := 1) (fun _ => rfl) hq rfl, fun x hx => ?_⟩
 simp only [List.mem_cons, List.not_mem_nil, or_false] at hx
 rcases hx with rfl | rfl | rfl
 ·exact row_of_whole (enc := bdL) (s := 8) (fun _ => rfl) h0 rfl
 ·exact row_of_whole (enc := bdL) (s := 8) (fun _ => rfl) h1 rfl
 ·refine row_pre (l := valC 2) (row_of_whole (enc := bdL) (s := 8) (fun _ => rfl) h2 rfl) (by simp [valC]) fun k c hk => ?_
  simp only [List.getElem?_take] at hk
  split at hk
  ·exact hk
  ·cases hk
theorem odd_few (q c0 c1 c2 : Nat) : SmFew (oddM q c0 c1 c2) := ⟨by simp, fun x hx => by
 simp only [List.mem_cons, List.not_mem_nil, or_false] at hx
 rcases hx with rfl | rfl | rfl <;> simp [valC]⟩
theorem odd_check {q c0 c1 c2 : Nat} (w : World) (h : SmOk (oddM q c0 c1 c2) w) : Calls Try.prog 46 #[smV (oddM q c0 c1 c2)] w fun e' w' => e' = .returned (vi 1) /\ newer w w' := by
 have h1 := check_any (oddM q c0 c1 c2) w h (odd_few _ _ _ _)
 rw [show (oddM q c0 c1 c2).sd = oddD from rfl, c_odd.1] at h1
 exact h1
theorem nil_check (w : World) : Calls Try.prog 46 #[.agg #[.slice none 0 0, vi 0]] w fun e' w' => e' = .returned (vi 1) /\ newer w w' := by
 have h1 := check_any ⟨[], none, 0, 0⟩ w ⟨fun h => absurd rfl h, fun x hx => absurd hx (List.not_mem_nil)⟩ ⟨by simp, fun x hx => absurd hx (List.not_mem_nil)⟩
 rw [show (⟨[], none, 0, 0⟩ : Sm).sd = ⟨[], 0⟩ from rfl, c_odd.2] at h1
 exact h1
def vFr (B : Nat) (l : List Int) (v : Value) (W : World) : Prop := ∃ nb, v = .agg #[vi 0, .slice (some ⟨nb, 0, none⟩) l.length l.length] /\ B <= nb /\ Row intL 1 W W.heap.size (some ⟨nb, 0, none⟩) l
theorem vFr_st {B : Nat} {l : List Int} : ∀ v W W', vFr B l v W -> newer W W' -> vFr B l v W' := fun _ _ _ ⟨nb, h1, h2, h3⟩ hb => ⟨nb, h1, h2, (h3.below hb).more hb.size⟩
set_option maxRecDepth 100000 in
set_option maxHeartbeats 8000000 in
theorem slopeNames_walk (w : World) : Calls Try.prog 15 #[] w fun e w' => e = .returned (.bool true) /\ newer w w' := by
 have H1 := Lib.hid (newer_refl w)
 go_enter Try.func15, Try.ntmps15
 go_wp2_with fail
 refine (valley_any _).mono ?_
 rintro e w2 ⟨q_, a_, b_, c_, rfl, hv, hb⟩
 have H3 := Lib.hid (And.intro ((newer_trans H1.out hb)) (hv))
 clear hb hv H1
 have e6 := newer_allocH w2 (.cells #[vi 0, vi 1] 3)
 have hlw : Row intL 1 (w2.alloc (.cells #[vi 0, vi 1] 3)) (w2.alloc (.cells #[vi 0, vi 1] 3)).heap.size (some ⟨w2.heap.size, 0, none⟩) [0, 1] := row_of_whole (enc := intL) (s := 1) (fun _ => rfl) (Whole.made w2 3 #[vi 0, vi 1]) rfl
 have H4 := Lib.hid (And.intro ((newer_trans H3.out.1 e6)) (And.intro ((H3.out.2.next e6)) (hlw)))
 clear e6 hlw H3
 go_wp2_with fail
 refine (from0_any _ _ _ _).mono ?_
 rintro e w5 ⟨rfl, hb⟩
 have H6 := Lib.hid (And.intro ((newer_trans H4.out.1 hb)) (And.intro ((H4.out.2.1.next hb)) (((H4.out.2.2.below hb).more hb.size))))
 clear hb H4
 go_wp2_with fail
 refine (val_sp _ _ [0, 1] _ H6.out.2.1 H6.out.2.2 (by simp) c_span1).mono ?_
 rintro e w7 ⟨rfl, hb⟩
 have H8 := Lib.hid ((newer_trans H6.out.1 hb))
 clear hb H6
 go_upto_region 2 with fail
 refine genQ (fun X => newer w X /\ Whole X w7.heap.size 31 #[vi 755, vi 1244]) ⟨(newer_trans H8.out (newer_allocH w7 (.cells #[vi 755, vi 1244] 31))), Whole.made _ _ _⟩ ?_
 obtain ⟨rb, hrb⟩ : ∃ rb, rb = w7.heap.size := ⟨_, rfl⟩
 have Lrb := Lib.hid (show w.heap.size <= rb /\ w7.heap.size <= rb by rw [hrb]; exact ⟨H8.out.size, Nat.le_refl _⟩)
 rw [<- hrb]
 clear hrb
 rintro w9 ⟨g0_, g1_⟩
 have H10 := Lib.hid (And.intro (g0_) (g1_))
 clear g0_ g1_ H8
 go_wp2_with fail
 refine (valley_any _).mono ?_
 rintro e w11 ⟨q_, a_, b_, c_, rfl, hv, hb⟩
 have H12 := Lib.hid (And.intro ((newer_trans H10.out.1 hb)) (And.intro ((H10.out.2.below hb H10.out.2.lt)) (hv)))
 clear hb hv H10
 have e6 := newer_allocH w11 (.cells #[vi 1, vi 1, vi 1] 3)
 have hlw : Row intL 1 (w11.alloc (.cells #[vi 1, vi 1, vi 1] 3)) (w11.alloc (.cells #[vi 1, vi 1, vi 1] 3)).heap.size (some ⟨w11.heap.size, 0, none⟩) [1, 1, 1] := row_of_whole (enc := intL) (s := 1) (fun _ => rfl) (Whole.made w11 3 #[vi 1, vi 1, vi 1]) rfl
 have H13 := Lib.hid (And.intro ((newer_trans H12.out.1 e6)) (And.intro ((H12.out.2.1.below e6 H12.out.2.1.lt)) (And.intro ((H12.out.2.2.next e6)) (hlw))))
 clear e6 hlw H12
 go_wp2_with fail
 refine (from0_any _ _ _ _).mono ?_
 rintro e w14 ⟨rfl, hb⟩
 have H15 := Lib.hid (And.intro ((newer_trans H13.out.1 hb)) (And.intro ((H13.out.2.1.below hb H13.out.2.1.lt)) (And.intro ((H13.out.2.2.1.next hb)) (((H13.out.2.2.2.below hb).more hb.size)))))
 clear hb H13
 go_wp2_with fail
 refine (val_sp _ _ [1, 1, 1] _ H15.out.2.2.1 H15.out.2.2.2 (by simp) c_span2).mono ?_
 rintro e w16 ⟨rfl, hb⟩
 have H17 := Lib.hid (And.intro ((newer_trans H15.out.1 hb)) ((H15.out.2.1.below hb H15.out.2.1.lt)))
 clear hb H15
 go_upto_region 3 with fail
 refine genQ (fun X => newer w X /\ Whole X rb 31 #[vi 755, vi 1244] /\ Whole X w16.heap.size 31 #[vi 1183, vi 1933]) ⟨(newer_trans H17.out.1 (newer_allocH w16 (.cells #[vi 1183, vi 1933] 31))), (H17.out.2.below (newer_allocH w16 (.cells #[vi 1183, vi 1933] 31)) H17.out.2.lt), Whole.made _ _ _⟩ ?_
 obtain ⟨qb, hqb⟩ : ∃ qb, qb = w16.heap.size := ⟨_, rfl⟩
 have Lqb := Lib.hid (show w.heap.size <= qb /\ rb < qb /\ w16.heap.size <= qb by rw [hqb]; exact ⟨H17.out.1.size, H17.out.2.lt, Nat.le_refl _⟩)
 rw [<- hqb]
 clear hqb
 rintro w18 ⟨g0_, g1_, g2_⟩
 have H19 := Lib.hid (And.intro (g0_) (And.intro (g1_) (g2_)))
 clear g0_ g1_ g2_ H17
 go_upto_region 4 with fail
 refine genQ (fun X => newer w X /\ Whole X rb 31 #[vi 755, vi 1244] /\ Whole X qb 31 #[vi 1183, vi 1933] /\ Whole X w18.heap.size 101 #[vi 350, vi 50, vi 150, vi 350, vi 50, vi 150]) ⟨(newer_trans H19.out.1 (newer_allocH w18 (.cells #[vi 350, vi 50, vi 150, vi 350, vi 50, vi 150] 101))), (H19.out.2.1.below (newer_allocH w18 (.cells #[vi 350, vi 50, vi 150, vi 350, vi 50, vi 150] 101)) H19.out.2.1.lt), (H19.out.2.2.below (newer_allocH w18 (.cells #[vi 350, vi 50, vi 150, vi 350, vi 50, vi 150] 101)) H19.out.2.2.lt), Whole.made _ _ _⟩ ?_
 obtain ⟨xb, hxb⟩ : ∃ xb, xb = w18.heap.size := ⟨_, rfl⟩
 have Lxb := Lib.hid (show w.heap.size <= xb /\ rb < xb /\ qb < xb /\ w18.heap.size <= xb by rw [hxb]; exact ⟨H19.out.1.size, H19.out.2.1.lt, H19.out.2.2.lt, Nat.le_refl _⟩)
 rw [<- hxb]
 clear hxb
 rintro w20 ⟨g0_, g1_, g2_, g3_⟩
 have H21 := Lib.hid (And.intro (g0_) (And.intro (g1_) (And.intro (g2_) (g3_))))
 clear g0_ g1_ g2_ g3_ H19
 have hxr : Row rlL 3 w20 w20.heap.size (some ⟨xb, 0, none⟩) [⟨350, 50, 150⟩, ⟨350, 50, 150⟩] := row_of_whole (enc := rlL) (s := 3) (fun _ => rfl) H21.out.2.2.2 rfl
 have H22 := Lib.hid (And.intro (H21.out.1) (And.intro (H21.out.2.1) (And.intro (H21.out.2.2.1) (And.intro (H21.out.2.2.2) (hxr)))))
 clear hxr
 go_wp2_with fail
 refine (valley_any _).mono ?_
 rintro e w23 ⟨q_, a_, b_, c_, rfl, hv, hb⟩
 have H24 := Lib.hid (And.intro ((newer_trans H22.out.1 hb)) (And.intro ((H22.out.2.1.below hb H22.out.2.1.lt)) (And.intro ((H22.out.2.2.1.below hb H22.out.2.2.1.lt)) (And.intro ((H22.out.2.2.2.1.below hb H22.out.2.2.2.1.lt)) (And.intro (((H22.out.2.2.2.2.below hb).more hb.size)) (hv))))))
 clear hb hv H22
 have e6 := newer_allocH w23 (.cells #[vi 0, vi 0] 3)
 have hlw : Row intL 1 (w23.alloc (.cells #[vi 0, vi 0] 3)) (w23.alloc (.cells #[vi 0, vi 0] 3)).heap.size (some ⟨w23.heap.size, 0, none⟩) [0, 0] := row_of_whole (enc := intL) (s := 1) (fun _ => rfl) (Whole.made w23 3 #[vi 0, vi 0]) rfl
 have H25 := Lib.hid (And.intro ((newer_trans H24.out.1 e6)) (And.intro ((H24.out.2.1.below e6 H24.out.2.1.lt)) (And.intro ((H24.out.2.2.1.below e6 H24.out.2.2.1.lt)) (And.intro ((H24.out.2.2.2.1.below e6 H24.out.2.2.2.1.lt)) (And.intro (((H24.out.2.2.2.2.1.below e6).more e6.size)) (And.intro ((H24.out.2.2.2.2.2.next e6)) (hlw)))))))
 clear e6 hlw H24
 go_wp2_with fail
 refine (from0_any _ _ _ _).mono ?_
 rintro e w26 ⟨rfl, hb⟩
 have H27 := Lib.hid (And.intro ((newer_trans H25.out.1 hb)) (And.intro ((H25.out.2.1.below hb H25.out.2.1.lt)) (And.intro ((H25.out.2.2.1.below hb H25.out.2.2.1.lt)) (And.intro ((H25.out.2.2.2.1.below hb H25.out.2.2.2.1.lt)) (And.intro (((H25.out.2.2.2.2.1.below hb).more hb.size)) (And.intro ((H25.out.2.2.2.2.2.1.next hb)) (((H25.out.2.2.2.2.2.2.below hb).more hb.size))))))))
 clear hb H25
 go_wp2_with fail
 refine (val_fac _ _ [0, 0] [⟨350, 50, 150⟩, ⟨350, 50, 150⟩] _ _ _ H27.out.2.2.2.2.2.1 H27.out.2.2.2.2.2.2 (by simp) (by simp) H27.out.2.2.2.2.1 c_fac1).mono ?_
 rintro e w28 ⟨rfl, hb⟩
 have H29 := Lib.hid (And.intro ((newer_trans H27.out.1 hb)) (And.intro ((H27.out.2.1.below hb H27.out.2.1.lt)) (And.intro ((H27.out.2.2.1.below hb H27.out.2.2.1.lt)) (And.intro ((H27.out.2.2.2.1.below hb H27.out.2.2.2.1.lt)) (((H27.out.2.2.2.2.1.below hb).more hb.size))))))
 clear hb H27
 go_wp2_with fail
 refine (valley_any _).mono ?_
 rintro e w30 ⟨q_, a_, b_, c_, rfl, hv, hb⟩
 have H31 := Lib.hid (And.intro ((newer_trans H29.out.1 hb)) (And.intro ((H29.out.2.1.below hb H29.out.2.1.lt)) (And.intro ((H29.out.2.2.1.below hb H29.out.2.2.1.lt)) (And.intro ((H29.out.2.2.2.1.below hb H29.out.2.2.2.1.lt)) (And.intro (((H29.out.2.2.2.2.below hb).more hb.size)) (hv))))))
 clear hb hv H29
 go_wp2_with fail
 refine (val_proof _ H31.out.2.2.2.2.2).mono ?_
 rintro e w32 ⟨xs, XA, Xc, rfl, hx1, hx2, hx3, hb⟩
 have HX := Lib.hid (And.intro hx2 hx3)
 clear hx2 hx3
 have H33 := Lib.hid (And.intro ((newer_trans H31.out.1 hb)) (And.intro ((H31.out.2.1.below hb H31.out.2.1.lt)) (And.intro ((H31.out.2.2.1.below hb H31.out.2.2.1.lt)) (And.intro ((H31.out.2.2.2.1.below hb H31.out.2.2.2.1.lt)) (And.intro (((H31.out.2.2.2.2.1.below hb).more hb.size)) (hx1))))))
 clear hb hx1 H31
 go_wp2_with fail
 refine (valley_any _).mono ?_
 rintro e w34 ⟨q_, a_, b_, c_, rfl, hv, hb⟩
 have H35 := Lib.hid (And.intro ((newer_trans H33.out.1 hb)) (And.intro ((H33.out.2.1.below hb H33.out.2.1.lt)) (And.intro ((H33.out.2.2.1.below hb H33.out.2.2.1.lt)) (And.intro ((H33.out.2.2.2.1.below hb H33.out.2.2.2.1.lt)) (And.intro (((H33.out.2.2.2.2.1.below hb).more hb.size)) (And.intro ((H33.out.2.2.2.2.2.next hb)) (hv)))))))
 clear hb hv H33
 go_wp2_with fail
 refine (val_mv 1000 [] [0, 1] _ H35.out.2.2.2.2.2.2 c_mv1).mono ?_
 rintro e w36 ⟨A1, d1, A2, d2, rfl, hr1, hr2, hb⟩
 have H37 := Lib.hid (And.intro ((newer_trans H35.out.1 hb)) (And.intro ((H35.out.2.1.below hb H35.out.2.1.lt)) (And.intro ((H35.out.2.2.1.below hb H35.out.2.2.1.lt)) (And.intro ((H35.out.2.2.2.1.below hb H35.out.2.2.2.1.lt)) (And.intro (((H35.out.2.2.2.2.1.below hb).more hb.size)) (And.intro ((H35.out.2.2.2.2.2.1.next hb)) (hr2)))))))
 clear hb hr1 hr2 H35
 go_wp2_with fail
 refine (valley_any _).mono ?_
 rintro e w38 ⟨q_, a_, b_, c_, rfl, hv, hb⟩
 have H39 := Lib.hid (And.intro ((newer_trans H37.out.1 hb)) (And.intro ((H37.out.2.1.below hb H37.out.2.1.lt)) (And.intro ((H37.out.2.2.1.below hb H37.out.2.2.1.lt)) (And.intro ((H37.out.2.2.2.1.below hb H37.out.2.2.2.1.lt)) (And.intro (((H37.out.2.2.2.2.1.below hb).more hb.size)) (And.intro ((H37.out.2.2.2.2.2.1.next hb)) (And.intro (((H37.out.2.2.2.2.2.2.below hb).more hb.size)) (hv))))))))
 clear hb hv H37
 go_wp2_with fail
 refine (val_mv 700 [] [] _ H39.out.2.2.2.2.2.2.2 c_mv2).mono ?_
 rintro e w40 ⟨A3, d3, A4, d4, rfl, hr1, hr2, hb⟩
 have H41 := Lib.hid (And.intro ((newer_trans H39.out.1 hb)) (And.intro ((H39.out.2.1.below hb H39.out.2.1.lt)) (And.intro ((H39.out.2.2.1.below hb H39.out.2.2.1.lt)) (And.intro ((H39.out.2.2.2.1.below hb H39.out.2.2.2.1.lt)) (And.intro (((H39.out.2.2.2.2.1.below hb).more hb.size)) (And.intro ((H39.out.2.2.2.2.2.1.next hb)) (((H39.out.2.2.2.2.2.2.1.below hb).more hb.size))))))))
 clear hb hr1 hr2 H39
 have y0 := H41.out.2.1.at 0 (v := vi 755) rfl
 have y1 := H41.out.2.1.at 1 (v := vi 1244) rfl
 have z0 := H41.out.2.2.1.at 0 (v := vi 1183) rfl
 have z1 := H41.out.2.2.1.at 1 (v := vi 1933) rfl
 go_upto_region 8 with fail
 refine wp_words (by kernel_rfl) (region_told_g 65 (by kernel_rfl) (by kernel_rfl) (fun W => Below w40.heap.size w40 W) newer (pickD [vIs (vi 0), vIs (.bool false), vIs (.bool false), vIs (vi 0), vIs (.bool false), vIs (.bool false), vIs (.bool false), vIs (vi 0), vIs (.bool false), vIs (.bool false), vIs (.bool false), vIs (vi 0), vIs (.bool false), vIs (.bool false), vIs (.bool false), vIs (vi 0), vIs (.bool false), vIs (.bool false), vIs (.bool false), vIs (vi 0), vIs (.bool false), vIs (.bool false), vIs (.bool false), vIs (.agg #[vi 755, vi 1244]), vIs (.agg #[vi 755, vi 1244]), vIs (.bool false), vIs (.bool false), vIs (.bool false), vIs (.agg #[vi 1183, vi 1933]), vIs (.agg #[vi 1183, vi 1933]), vIs (.bool false), vIs (.bool false), vIs (.bool false), vIs (vi 941), vIs (.bool false), vIs (.bool false), vIs (.bool false), vVal w40.heap.size, vIs (.slice XA xs.length Xc), vIs (.bool true), vIs (.bool false), vIs (.bool false), vIs (.bool false), vVal w40.heap.size, vIs (.slice XA xs.length Xc), vIs (.bool false), vIs (.bool false), vIs (.bool false), vIs (.slice A1 0 d1), vIs (.int .i64 (0 : Nat)), vIs (.bool false), vIs (.bool false), vIs (.bool false), vIs (.slice A2 2 d2), vArr w40.heap.size 2 #[vi 0, vi 1], vIs (.bool true), vIs (.bool false), vIs (.bool false), vIs (.bool false), vIs (.slice A3 0 d3), vIs (.int .i64 (0 : Nat)), vIs (.slice A4 0 d4), vIs (.int .i64 (0 : Nat)), vIs (vi 0), vIs (.bool false)]) ⟨trivial, trivial, trivial, (fun _ _ h => h), (fun _ _ h => h), trivial, trivial, (fun _ _ h => h), (fun _ _ h => h), trivial, trivial, (fun _ _ h => h), (fun _ _ h => h), trivial, trivial, (fun _ _ h => h), (fun _ _ h => h), trivial, trivial, (fun _ _ h => h), (fun _ _ h => h), trivial, trivial, (fun _ _ h => h), (fun _ _ h => h), (fun _ _ h => h), trivial, trivial, (fun _ _ h => h), (fun _ _ h => h), (fun _ _ h => h), trivial, trivial, (fun _ _ h => h), (fun _ _ h => h), trivial, trivial, (fun _ _ h => h), (fun _ _ h => h), (fun _ _ h => h), (fun _ _ h => h), trivial, trivial, (fun _ _ h => h), (fun _ _ h => h), (fun _ _ h => h), trivial, trivial, (fun _ _ h => h), (fun _ _ h => h), (fun _ _ h => h), trivial, trivial, (fun _ _ h => h), (fun _ _ h => h), (fun _ _ h => h), (fun _ _ h => h), trivial, trivial, (fun _ _ h => h), (fun _ _ h => h), (fun _ _ h => h), (fun _ _ h => h), (fun _ _ h => h), (fun _ _ h => h), trivial⟩ (fun h k => newer_trans h k) (pickD_stable _ ⟨vIs_st, vIs_st, vIs_st, vIs_st, vIs_st, vIs_st, vIs_st, vIs_st, vIs_st, vIs_st, vIs_st, vIs_st, vIs_st, vIs_st, vIs_st, vIs_st, vIs_st, vIs_st, vIs_st, vIs_st, vIs_st, vIs_st, vIs_st, vIs_st, vIs_st, vIs_st, vIs_st, vIs_st, vIs_st, vIs_st, vIs_st, vIs_st, vIs_st, vIs_st, vIs_st, vIs_st, vIs_st, vVal_st, vIs_st, vIs_st, vIs_st, vIs_st, vIs_st, vVal_st, vIs_st, vIs_st, vIs_st, vIs_st, vIs_st, vIs_st, vIs_st, vIs_st, vIs_st, vIs_st, vArr_st, vIs_st, vIs_st, vIs_st, vIs_st, vIs_st, vIs_st, vIs_st, vIs_st, vIs_st, vIs_st, trivial⟩) (Below.refl _ w40).drew (Below.refl _ _) ?_ ?_)
 ·refine ⟨?_, ?_, ?_, ?_, ?_, ?_, ?_, ?_, ?_, ?_, ?_, ?_, ?_, ?_, ?_, ?_, ?_, ?_, ?_, ?_, ?_, ?_, ?_, ?_, ?_, ?_, ?_, ?_, ?_, ?_, ?_, ?_, ?_, ?_, ?_, ?_, ?_, ?_, ?_, ?_, ?_, ?_, ?_, ?_, ?_, ?_, ?_, ?_, ?_, ?_, ?_, ?_, ?_, ?_, ?_, ?_, ?_, ?_, ?_, ?_, ?_, ?_, ?_, ?_, ?_, trivial⟩
  ·exact fun a W hG _ hO _ => kM 2 rfl (hO.slot 2 (by kernel_rfl)) rfl hG
  ·intro a W hG hR hO hp; have h70 : slotOf a 70 = vi 0 := hp.1; refine kY (v := .bool false) hG rfl ?_; simp [slotOf] at h70; simp [execOp, go_sem, h70]
  ·exact fun a W hG _ _ hp => kM 71 rfl hp.1 rfl hG
  ·exact fun a W hG _ hO _ => kM 4 rfl (hO.slot 4 (by kernel_rfl)) rfl hG
  ·intro a W hG hR hO hp; have h73 : slotOf a 73 = vi 0 := hp.1; refine kY (v := .bool false) hG rfl ?_; simp [slotOf] at h73; simp [execOp, go_sem, h73]
  ·intro a W hG hR hO hp; have h72 : slotOf a 72 = .bool false := hp.1; have h74 : slotOf a 74 = .bool false := hp.2.1; refine kY (v := .bool false) hG rfl ?_; simp [slotOf] at h72 h74; simp [execOp, go_sem, h72, h74]
  ·exact fun a W hG _ _ hp => kM 75 rfl hp.1 rfl hG
  ·exact fun a W hG _ hO _ => kM 7 rfl (hO.slot 7 (by kernel_rfl)) rfl hG
  ·intro a W hG hR hO hp; have h77 : slotOf a 77 = vi 0 := hp.1; refine kY (v := .bool false) hG rfl ?_; simp [slotOf] at h77; simp [execOp, go_sem, h77]
  ·intro a W hG hR hO hp; have h76 : slotOf a 76 = .bool false := hp.1; have h78 : slotOf a 78 = .bool false := hp.2.1; refine kY (v := .bool false) hG rfl ?_; simp [slotOf] at h76 h78; simp [execOp, go_sem, h76, h78]
  ·exact fun a W hG _ _ hp => kM 79 rfl hp.1 rfl hG
  ·exact fun a W hG _ hO _ => kM 9 rfl (hO.slot 9 (by kernel_rfl)) rfl hG
  ·intro a W hG hR hO hp; have h81 : slotOf a 81 = vi 0 := hp.1; refine kY (v := .bool false) hG rfl ?_; simp [slotOf] at h81; simp [execOp, go_sem, h81]
  ·intro a W hG hR hO hp; have h80 : slotOf a 80 = .bool false := hp.1; have h82 : slotOf a 82 = .bool false := hp.2.1; refine kY (v := .bool false) hG rfl ?_; simp [slotOf] at h80 h82; simp [execOp, go_sem, h80, h82]
  ·exact fun a W hG _ _ hp => kM 83 rfl hp.1 rfl hG
  ·exact fun a W hG _ hO _ => kM 12 rfl (hO.slot 12 (by kernel_rfl)) rfl hG
  ·intro a W hG hR hO hp; have h85 : slotOf a 85 = vi 0 := hp.1; refine kY (v := .bool false) hG rfl ?_; simp [slotOf] at h85; simp [execOp, go_sem, h85]
  ·intro a W hG hR hO hp; have h84 : slotOf a 84 = .bool false := hp.1; have h86 : slotOf a 86 = .bool false := hp.2.1; refine kY (v := .bool false) hG rfl ?_; simp [slotOf] at h84 h86; simp [execOp, go_sem, h84, h86]
  ·exact fun a W hG _ _ hp => kM 87 rfl hp.1 rfl hG
  ·exact fun a W hG _ hO _ => kM 15 rfl (hO.slot 15 (by kernel_rfl)) rfl hG
  ·intro a W hG hR hO hp; have h89 : slotOf a 89 = vi 0 := hp.1; refine kY (v := .bool false) hG rfl ?_; simp [slotOf] at h89; simp [execOp, go_sem, h89]
  ·intro a W hG hR hO hp; have h88 : slotOf a 88 = .bool false := hp.1; have h90 : slotOf a 90 = .bool false := hp.2.1; refine kY (v := .bool false) hG rfl ?_; simp [slotOf] at h88 h90; simp [execOp, go_sem, h88, h90]
  ·exact fun a W hG _ _ hp => kM 91 rfl hp.1 rfl hG
  ·intro a W hG hR hO hp; have h1 := hO.slot 1 (by kernel_rfl); have c0 := keep_cell y0 hG; have c1 := keep_cell y1 hG; refine kY (v := .agg #[vi 755, vi 1244]) hG rfl ?_; simp [slotOf] at h1; simp [execOp, go_sem, h1, c0, c1]
  ·intro a W hG hR hO hp
   refine wp_enters (f := 56) (args := #[vi 755, vi 1244]) ?_ ((span56_any 755 1244 W).mono ?_)
   ·skip
    simp [go_sem]
   ·rintro e w' ⟨rfl, hb⟩
    exact ⟨_, rfl, _, rfl, rfl, hb, below_next hG hb⟩
  ·intro a W hG hR hO hp; have h93 : slotOf a 93 = .agg #[vi 755, vi 1244] := hp.1; have h94 : slotOf a 94 = .agg #[vi 755, vi 1244] := hp.2.1; refine wp_yields (v := .bool false) ?_ ⟨_, rfl, rfl, Below.refl _ _, hG⟩; exact exec_ne31 rfl ((eval_slot a 93).trans h93) ((eval_slot a 94).trans h94)
  ·intro a W hG hR hO hp; have h92 : slotOf a 92 = .bool false := hp.1; have h95 : slotOf a 95 = .bool false := hp.2.1; refine kY (v := .bool false) hG rfl ?_; simp [slotOf] at h92 h95; simp [execOp, go_sem, h92, h95]
  ·exact fun a W hG _ _ hp => kM 96 rfl hp.1 rfl hG
  ·intro a W hG hR hO hp; have h3 := hO.slot 3 (by kernel_rfl); have c0 := keep_cell z0 hG; have c1 := keep_cell z1 hG; refine kY (v := .agg #[vi 1183, vi 1933]) hG rfl ?_; simp [slotOf] at h3; simp [execOp, go_sem, h3, c0, c1]
  ·intro a W hG hR hO hp
   refine wp_enters (f := 56) (args := #[vi 1183, vi 1933]) ?_ ((span56_any 1183 1933 W).mono ?_)
   ·skip
    simp [go_sem]
   ·rintro e w' ⟨rfl, hb⟩
    exact ⟨_, rfl, _, rfl, rfl, hb, below_next hG hb⟩
  ·intro a W hG hR hO hp; have h98 : slotOf a 98 = .agg #[vi 1183, vi 1933] := hp.1; have h99 : slotOf a 99 = .agg #[vi 1183, vi 1933] := hp.2.1; refine wp_yields (v := .bool false) ?_ ⟨_, rfl, rfl, Below.refl _ _, hG⟩; exact exec_ne31 rfl ((eval_slot a 98).trans h98) ((eval_slot a 99).trans h99)
  ·intro a W hG hR hO hp; have h97 : slotOf a 97 = .bool false := hp.1; have h100 : slotOf a 100 = .bool false := hp.2.1; refine kY (v := .bool false) hG rfl ?_; simp [slotOf] at h97 h100; simp [execOp, go_sem, h97, h100]
  ·exact fun a W hG _ _ hp => kM 101 rfl hp.1 rfl hG
  ·exact fun a W hG _ hO _ => kM 6 rfl (hO.slot 6 (by kernel_rfl)) rfl hG
  ·intro a W hG hR hO hp; have h103 : slotOf a 103 = vi 941 := hp.1; refine kY (v := .bool false) hG rfl ?_; simp [slotOf] at h103; simp [execOp, go_sem, h103]
  ·intro a W hG hR hO hp; have h102 : slotOf a 102 = .bool false := hp.1; have h104 : slotOf a 104 = .bool false := hp.2.1; refine kY (v := .bool false) hG rfl ?_; simp [slotOf] at h102 h104; simp [execOp, go_sem, h102, h104]
  ·exact fun a W hG _ _ hp => kM 105 rfl hp.1 rfl hG
  ·intro a W hG hR hO hp
   refine wp_enters (f := 54) (args := #[]) ?_ ((valley_any W).mono ?_)
   ·simp [go_sem]
   ·rintro e w' ⟨q_, a_, b_, c_, rfl, h1, hb⟩
    exact ⟨_, rfl, _, rfl, ⟨q_, a_, b_, c_, rfl, h1.le hG.size⟩, hb, below_next hG hb⟩
  ·exact fun a W hG _ hO _ => kM 8 rfl (hO.slot 8 (by kernel_rfl)) rfl hG
  ·intro a W hG hR hO hp
   have h107 := hp.1
   have h108 : slotOf a 108 = .slice XA xs.length Xc := hp.2.1
   obtain ⟨q_, a_, b_, c_, h107, hvm⟩ := h107
   refine wp_enters (f := 51) (args := #[smV (valM q_ a_ b_ c_), vi 755, .slice XA xs.length Xc]) ?_ ((val_prove 755 xs XA Xc true W hvm (H41.out.2.2.2.2.2.1.next hG) HX.out.1 HX.out.2 c_pv1).mono ?_)
   ·simp [slotOf] at h107 h108
    simp [go_sem, h107, h108]
   ·rintro e w' ⟨rfl, hb⟩
    exact ⟨_, rfl, _, rfl, rfl, hb, below_next hG hb⟩
  ·intro a W hG hR hO hp; have h109 : slotOf a 109 = .bool true := hp.1; refine kY (v := .bool false) hG rfl ?_; simp [slotOf] at h109; simp [execOp, go_sem, h109]
  ·intro a W hG hR hO hp; have h106 : slotOf a 106 = .bool false := hp.1; have h110 : slotOf a 110 = .bool false := hp.2.1; refine kY (v := .bool false) hG rfl ?_; simp [slotOf] at h106 h110; simp [execOp, go_sem, h106, h110]
  ·exact fun a W hG _ _ hp => kM 111 rfl hp.1 rfl hG
  ·intro a W hG hR hO hp
   refine wp_enters (f := 54) (args := #[]) ?_ ((valley_any W).mono ?_)
   ·simp [go_sem]
   ·rintro e w' ⟨q_, a_, b_, c_, rfl, h1, hb⟩
    exact ⟨_, rfl, _, rfl, ⟨q_, a_, b_, c_, rfl, h1.le hG.size⟩, hb, below_next hG hb⟩
  ·exact fun a W hG _ hO _ => kM 8 rfl (hO.slot 8 (by kernel_rfl)) rfl hG
  ·intro a W hG hR hO hp
   have h113 := hp.1
   have h114 : slotOf a 114 = .slice XA xs.length Xc := hp.2.1
   obtain ⟨q_, a_, b_, c_, h113, hvm⟩ := h113
   refine wp_enters (f := 51) (args := #[smV (valM q_ a_ b_ c_), vi 756, .slice XA xs.length Xc]) ?_ ((val_prove 756 xs XA Xc false W hvm (H41.out.2.2.2.2.2.1.next hG) HX.out.1 HX.out.2 c_pv2).mono ?_)
   ·simp [slotOf] at h113 h114
    simp [go_sem, h113, h114]
   ·rintro e w' ⟨rfl, hb⟩
    exact ⟨_, rfl, _, rfl, rfl, hb, below_next hG hb⟩
  ·intro a W hG hR hO hp; have h112 : slotOf a 112 = .bool false := hp.1; have h115 : slotOf a 115 = .bool false := hp.2.1; refine kY (v := .bool false) hG rfl ?_; simp [slotOf] at h112 h115; simp [execOp, go_sem, h112, h115]
  ·exact fun a W hG _ _ hp => kM 116 rfl hp.1 rfl hG
  ·exact fun a W hG _ hO _ => kM 10 rfl (hO.slot 10 (by kernel_rfl)) rfl hG
  ·intro a W hG hR hO hp; have h118 : slotOf a 118 = .slice A1 0 d1 := hp.1; refine kY (v := .int .i64 (0 : Nat)) hG rfl ?_; simp [slotOf] at h118; simp [go_sem, h118]
  ·intro a W hG hR hO hp; have h119 : slotOf a 119 = .int .i64 (0 : Nat) := hp.1; refine kY (v := .bool false) hG rfl ?_; simp [slotOf] at h119; simp [execOp, go_sem, h119]
  ·intro a W hG hR hO hp; have h117 : slotOf a 117 = .bool false := hp.1; have h120 : slotOf a 120 = .bool false := hp.2.1; refine kY (v := .bool false) hG rfl ?_; simp [slotOf] at h117 h120; simp [execOp, go_sem, h117, h120]
  ·exact fun a W hG _ _ hp => kM 121 rfl hp.1 rfl hG
  ·exact fun a W hG _ hO _ => kM 11 rfl (hO.slot 11 (by kernel_rfl)) rfl hG
  ·intro a W hG hR hO hp; refine wp_makes (v := .slice (some ⟨W.heap.size, 0, none⟩) 2 2) (W' := W.alloc (.cells #[vi 0, vi 1] 3)) ?_ ⟨_, rfl, ⟨_, rfl, hG.size, Whole.made _ _ _⟩, newer_allocH _ _, hG.alloc hG.size _⟩; simp [execOp, go_sem]
  ·intro a W hG hR hO hp
   have h123 : slotOf a 123 = .slice A2 2 d2 := hp.1
   have h124 := hp.2.1
   obtain ⟨nb, h124, hnb, hW⟩ := h124
   refine wp_enters (f := 36) (args := #[.slice A2 2 d2, .slice (some ⟨nb, 0, none⟩) 2 2]) ?_ ((lawInts [0, 1] [0, 1] A2 (some ⟨nb, 0, none⟩) d2 2 W (by simp) (by simp) ((H41.out.2.2.2.2.2.2.below hG).more hG.size) (row_of_whole (enc := intL) (s := 1) (fun _ => rfl) hW rfl)).mono ?_)
   ·simp [slotOf] at h123 h124
    simp [go_sem, h123, h124]
   ·rintro e w' ⟨rfl, hb⟩
    exact ⟨_, rfl, _, rfl, rfl, hb, below_next hG hb⟩
  ·intro a W hG hR hO hp; have h125 : slotOf a 125 = .bool true := hp.1; refine kY (v := .bool false) hG rfl ?_; simp [slotOf] at h125; simp [execOp, go_sem, h125]
  ·intro a W hG hR hO hp; have h122 : slotOf a 122 = .bool false := hp.1; have h126 : slotOf a 126 = .bool false := hp.2.1; refine kY (v := .bool false) hG rfl ?_; simp [slotOf] at h122 h126; simp [execOp, go_sem, h122, h126]
  ·exact fun a W hG _ _ hp => kM 127 rfl hp.1 rfl hG
  ·exact fun a W hG _ hO _ => kM 13 rfl (hO.slot 13 (by kernel_rfl)) rfl hG
  ·intro a W hG hR hO hp; have h129 : slotOf a 129 = .slice A3 0 d3 := hp.1; refine kY (v := .int .i64 (0 : Nat)) hG rfl ?_; simp [slotOf] at h129; simp [go_sem, h129]
  ·exact fun a W hG _ hO _ => kM 14 rfl (hO.slot 14 (by kernel_rfl)) rfl hG
  ·intro a W hG hR hO hp; have h131 : slotOf a 131 = .slice A4 0 d4 := hp.1; refine kY (v := .int .i64 (0 : Nat)) hG rfl ?_; simp [slotOf] at h131; simp [go_sem, h131]
  ·intro a W hG hR hO hp; have h130 : slotOf a 130 = .int .i64 (0 : Nat) := hp.1; have h132 : slotOf a 132 = .int .i64 (0 : Nat) := hp.2.1; refine kY (v := vi 0) hG rfl ?_; simp [slotOf] at h130 h132; simp [execOp, go_sem, h130, h132, (show IntKind.i64.wrap (0 : Int) = 0 from rfl)]
  ·intro a W hG hR hO hp; have h133 : slotOf a 133 = vi 0 := hp.1; refine kY (v := .bool false) hG rfl ?_; simp [slotOf] at h133; simp [execOp, go_sem, h133]
 ·intro wz8 hG hR
  rintro _ rfl _ rfl _ rfl _ rfl _ rfl _ rfl _ rfl _ rfl _ rfl _ rfl _ rfl _ rfl _ rfl _ rfl _ rfl _ rfl _ rfl _ rfl _ rfl _ rfl _ rfl _ rfl _ rfl _ rfl _ rfl _ rfl _ rfl _ rfl _ rfl _ rfl _ rfl _ rfl _ rfl _ rfl _ rfl _ rfl _ rfl _ - _ rfl _ rfl _ rfl _ rfl _ rfl _ - _ rfl _ rfl _ rfl _ rfl _ rfl _ rfl _ rfl _ rfl _ rfl _ rfl _ hv124 _ rfl _ rfl _ rfl _ rfl _ rfl _ rfl _ rfl _ rfl _ rfl _ rfl
  change wpList _ _ _ _ _ _
  simp only [Act.put, List.setIfInBounds_toArray, List.set_cons_zero, List.set_cons_succ]
  have H42 := Lib.hid (And.intro ((newer_trans H41.out.1 hG)) (And.intro ((H41.out.2.2.2.1.below hG H41.out.2.2.2.1.lt)) (((H41.out.2.2.2.2.1.below hG).more hG.size))))
  clear hG hR hv124 HX H41 y0 y1 z0 z1
  go_wp2_with fail
  refine (valley_any _).mono ?_
  rintro e w43 ⟨q_, a_, b_, c_, rfl, hv, hb⟩
  have H44 := Lib.hid (And.intro ((newer_trans H42.out.1 hb)) (And.intro ((H42.out.2.1.below hb H42.out.2.1.lt)) (And.intro (((H42.out.2.2.below hb).more hb.size)) (hv))))
  clear hb hv H42
  go_wp2_with fail
  refine (val_proof2 _ H44.out.2.2.2).mono ?_
  rintro e w45 ⟨rfl, hb⟩
  have H46 := Lib.hid (And.intro ((newer_trans H44.out.1 hb)) (And.intro ((H44.out.2.1.below hb H44.out.2.1.lt)) (((H44.out.2.2.1.below hb).more hb.size))))
  clear hb H44
  go_wp2_with fail
  refine (valley_any _).mono ?_
  rintro e w47 ⟨q_, a_, b_, c_, rfl, hv, hb⟩
  have H48 := Lib.hid (And.intro ((newer_trans H46.out.1 hb)) (And.intro ((H46.out.2.1.below hb H46.out.2.1.lt)) (And.intro (((H46.out.2.2.below hb).more hb.size)) (hv))))
  clear hb hv H46
  go_wp2_with fail
  refine (val_mar 756 10 _ H48.out.2.2.2 c_en2 (by decide)).mono ?_
  rintro e w49 ⟨rfl, hb⟩
  have H50 := Lib.hid (And.intro ((newer_trans H48.out.1 hb)) (And.intro ((H48.out.2.1.below hb H48.out.2.1.lt)) (((H48.out.2.2.1.below hb).more hb.size))))
  clear hb H48
  go_wp2_with fail
  refine (valley_any _).mono ?_
  rintro e w51 ⟨q_, a_, b_, c_, rfl, hv, hb⟩
  have H52 := Lib.hid (And.intro ((newer_trans H50.out.1 hb)) (And.intro ((H50.out.2.1.below hb H50.out.2.1.lt)) (And.intro (((H50.out.2.2.below hb).more hb.size)) (hv))))
  clear hb hv H50
  go_wp2_with fail
  refine (val_mar 10001 2 _ H52.out.2.2.2 c_en3 (by decide)).mono ?_
  rintro e w53 ⟨rfl, hb⟩
  have H54 := Lib.hid (And.intro ((newer_trans H52.out.1 hb)) (And.intro ((H52.out.2.1.below hb H52.out.2.1.lt)) (((H52.out.2.2.1.below hb).more hb.size))))
  clear hb H52
  go_wp2_with fail
  refine (valley_any _).mono ?_
  rintro e w55 ⟨q_, a_, b_, c_, rfl, hv, hb⟩
  have H56 := Lib.hid (And.intro ((newer_trans H54.out.1 hb)) (And.intro ((H54.out.2.1.below hb H54.out.2.1.lt)) (And.intro (((H54.out.2.2.below hb).more hb.size)) (hv))))
  clear hb hv H54
  have e6 := newer_allocH w55 (.cells #[vi 0] 3)
  have hlw : Row intL 1 (w55.alloc (.cells #[vi 0] 3)) (w55.alloc (.cells #[vi 0] 3)).heap.size (some ⟨w55.heap.size, 0, none⟩) [0] := row_of_whole (enc := intL) (s := 1) (fun _ => rfl) (Whole.made w55 3 #[vi 0]) rfl
  have H57 := Lib.hid (And.intro ((newer_trans H56.out.1 e6)) (And.intro ((H56.out.2.1.below e6 H56.out.2.1.lt)) (And.intro (((H56.out.2.2.1.below e6).more e6.size)) (And.intro ((H56.out.2.2.2.next e6)) (hlw)))))
  clear e6 hlw H56
  go_wp2_with fail
  refine (from0_any _ _ _ _).mono ?_
  rintro e w58 ⟨rfl, hb⟩
  have H59 := Lib.hid (And.intro ((newer_trans H57.out.1 hb)) (And.intro ((H57.out.2.1.below hb H57.out.2.1.lt)) (And.intro (((H57.out.2.2.1.below hb).more hb.size)) (And.intro ((H57.out.2.2.2.1.next hb)) (((H57.out.2.2.2.2.below hb).more hb.size))))))
  clear hb H57
  go_wp2_with fail
  refine (val_sp _ _ [0] _ H59.out.2.2.2.1 H59.out.2.2.2.2 (by simp) c_span3).mono ?_
  rintro e w60 ⟨rfl, hb⟩
  have H61 := Lib.hid (And.intro ((newer_trans H59.out.1 hb)) (And.intro ((H59.out.2.1.below hb H59.out.2.1.lt)) (((H59.out.2.2.1.below hb).more hb.size))))
  clear hb H59
  go_wp2_with fail
  refine (valley_any _).mono ?_
  rintro e w62 ⟨q_, a_, b_, c_, rfl, hv, hb⟩
  have H63 := Lib.hid (And.intro ((newer_trans H61.out.1 hb)) (And.intro ((H61.out.2.1.below hb H61.out.2.1.lt)) (And.intro (((H61.out.2.2.below hb).more hb.size)) (hv))))
  clear hb hv H61
  have e6 := newer_allocH w62 (.cells #[vi 0, vi 2] 3)
  have hlw : Row intL 1 (w62.alloc (.cells #[vi 0, vi 2] 3)) (w62.alloc (.cells #[vi 0, vi 2] 3)).heap.size (some ⟨w62.heap.size, 0, none⟩) [0, 2] := row_of_whole (enc := intL) (s := 1) (fun _ => rfl) (Whole.made w62 3 #[vi 0, vi 2]) rfl
  have H64 := Lib.hid (And.intro ((newer_trans H63.out.1 e6)) (And.intro ((H63.out.2.1.below e6 H63.out.2.1.lt)) (And.intro (((H63.out.2.2.1.below e6).more e6.size)) (And.intro ((H63.out.2.2.2.next e6)) (hlw)))))
  clear e6 hlw H63
  go_wp2_with fail
  refine (from0_any _ _ _ _).mono ?_
  rintro e w65 ⟨rfl, hb⟩
  have H66 := Lib.hid (And.intro ((newer_trans H64.out.1 hb)) (And.intro ((H64.out.2.1.below hb H64.out.2.1.lt)) (And.intro (((H64.out.2.2.1.below hb).more hb.size)) (And.intro ((H64.out.2.2.2.1.next hb)) (((H64.out.2.2.2.2.below hb).more hb.size))))))
  clear hb H64
  go_wp2_with fail
  refine (val_sp _ _ [0, 2] _ H66.out.2.2.2.1 H66.out.2.2.2.2 (by simp) c_span4).mono ?_
  rintro e w67 ⟨rfl, hb⟩
  have H68 := Lib.hid (And.intro ((newer_trans H66.out.1 hb)) (And.intro ((H66.out.2.1.below hb H66.out.2.1.lt)) (((H66.out.2.2.1.below hb).more hb.size))))
  clear hb H66
  go_upto_region 15 with fail
  refine wp_words (by kernel_rfl) (region_told 9 (by kernel_rfl) (by kernel_rfl) (fun W => Below w67.heap.size w67 W) newer (pickD [vVal w67.heap.size, vArr w67.heap.size 2 #[vi 0, vi 0], vFr w67.heap.size [0, 0], vIs (.slice (some ⟨xb, 0, none⟩) 2 2), vIs (.slice (some ⟨xb, 0, none⟩) 1 2), vIs (.tuple #[vi 0, vi 9]), vIs (.tuple #[vi 0, vi 9]), vIs (vi 0), vIs (vi 9)]) (fun h k => newer_trans h k) (pickD_stable _ ⟨vVal_st, vArr_st, vFr_st, vIs_st, vIs_st, vIs_st, vIs_st, vIs_st, vIs_st, trivial⟩) (Below.refl _ w67).drew (Below.refl _ _) ?_ ?_)
  ·refine ⟨?_, ?_, ?_, ?_, ?_, ?_, ?_, ?_, ?_, trivial⟩
   ·intro a W hG hR hO hp
    refine wp_enters (f := 54) (args := #[]) ?_ ((valley_any W).mono ?_)
    ·simp [go_sem]
    ·rintro e w' ⟨q_, a_, b_, c_, rfl, h1, hb⟩
     exact ⟨_, rfl, _, rfl, ⟨q_, a_, b_, c_, rfl, h1.le hG.size⟩, hb, below_next hG hb⟩
   ·intro a W hG hR hO hp; refine wp_makes (v := .slice (some ⟨W.heap.size, 0, none⟩) 2 2) (W' := W.alloc (.cells #[vi 0, vi 0] 3)) ?_ ⟨_, rfl, ⟨_, rfl, hG.size, Whole.made _ _ _⟩, newer_allocH _ _, hG.alloc hG.size _⟩; simp [execOp, go_sem]
   ·intro a W hG hR hO hp
    have h167 := hp.1
    obtain ⟨nb, h167, hnb, hW⟩ := h167
    refine wp_enters (f := 55) (args := #[.slice (some ⟨nb, 0, none⟩) 2 2]) ?_ ((from0_any (some ⟨nb, 0, none⟩) 2 2 W).mono ?_)
    ·simp [slotOf] at h167
     simp [go_sem, h167]
    ·rintro e w' ⟨rfl, hb⟩
     exact ⟨_, rfl, _, rfl, ⟨nb, rfl, hnb, (row_of_whole (enc := intL) (s := 1) (l := [0, 0]) (fun _ => rfl) (hW.below hb hW.lt) rfl)⟩, hb, below_next hG hb⟩
   ·exact fun a W hG _ hO _ => kM 5 rfl (hO.slot 5 (by kernel_rfl)) rfl hG
   ·intro a W hG hR hO hp; have h169 : slotOf a 169 = .slice (some ⟨xb, 0, none⟩) 2 2 := hp.1; refine kY (v := .slice (some ⟨xb, 0, none⟩) 1 2) hG rfl ?_; simp [slotOf] at h169; simp [execOp, go_sem, h169]
   ·intro a W hG hR hO hp
    have h166 := hp.1
    have h168 := hp.2.1
    have h170 : slotOf a 170 = .slice (some ⟨xb, 0, none⟩) 1 2 := hp.2.2.1
    obtain ⟨q_, a_, b_, c_, h166, hvm⟩ := h166
    obtain ⟨nb, h168, hnb, hrw⟩ := h168
    refine wp_enters (f := 42) (args := #[smV (valM q_ a_ b_ c_), .agg #[vi 0, .slice (some ⟨nb, 0, none⟩) 2 2], .slice (some ⟨xb, 0, none⟩) 1 2]) ?_ ((val_fac nb 2 [0, 0] [⟨350, 50, 150⟩] (some ⟨xb, 0, none⟩) 2 W hvm hrw (by simp) (by simp) (row_pre ((H68.out.2.2.below hG).more hG.size) (by simp) (fun k c h => by cases k with | zero => exact h | succ k => simp at h)) c_fac2).mono ?_)
    ·simp [slotOf] at h166 h168 h170
     simp [go_sem, h166, h168, h170]
    ·rintro e w' ⟨rfl, hb⟩
     exact ⟨_, rfl, _, rfl, rfl, hb, below_next hG hb⟩
   ·exact fun a W hG _ _ hp => kM 171 rfl hp.1 rfl hG
   ·intro a W hG hR hO hp; have h165 : slotOf a 165 = .tuple #[vi 0, vi 9] := hp.1; refine kY (v := vi 0) hG rfl ?_; simp [slotOf] at h165; simp [execOp, go_sem, h165]
   ·intro a W hG hR hO hp; have h165 : slotOf a 165 = .tuple #[vi 0, vi 9] := hp.1; refine kY (v := vi 9) hG rfl ?_; simp [slotOf] at h165; simp [execOp, go_sem, h165]
  ·intro wz15 hG hR
   rintro _ hv166 _ hv167 _ hv168 _ rfl _ rfl _ rfl _ rfl _ rfl _ rfl
   change wpList _ _ _ _ _ _
   simp only [Act.put, List.setIfInBounds_toArray, List.set_cons_zero, List.set_cons_succ, List.drop_succ_cons, List.drop_zero]
   have H69 := Lib.hid (And.intro ((newer_trans H68.out.1 hG)) ((H68.out.2.1.below hG H68.out.2.1.lt)))
   clear hG hR hv166 hv167 hv168 H68
   have x0 := H69.out.2.at 0 (v := vi 350) rfl
   have x1 := H69.out.2.at 1 (v := vi 50) rfl
   have x2 := H69.out.2.at 2 (v := vi 150) rfl
   have x3 := H69.out.2.at 3 (v := vi 350) rfl
   have x4 := H69.out.2.at 4 (v := vi 50) rfl
   have x5 := H69.out.2.at 5 (v := vi 150) rfl
   have f5 := H69.out.2.free 5
   go_upto_region 17 with fail
   refine genQ (fun X => newer w X /\ Whole X xb 101 #[vi 350, vi 50, vi 150, vi 350, vi 50, vi 201]) ⟨H69.out.1.setCell (p := ⟨xb, 5, none⟩) Lxb.out.1 (vi 201), H69.out.2.set 5 (vi 201)⟩ ?_
   rintro w70 ⟨g0_, g1_⟩
   have H71 := Lib.hid (And.intro (g0_) (g1_))
   clear g0_ g1_ H69 x0 x1 x2 x3 x4 x5 f5
   have hxr : Row rlL 3 w70 w70.heap.size (some ⟨xb, 0, none⟩) [⟨350, 50, 150⟩, ⟨350, 50, 201⟩] := row_of_whole (enc := rlL) (s := 3) (fun _ => rfl) H71.out.2 rfl
   have H72 := Lib.hid (And.intro (H71.out.1) (hxr))
   clear hxr
   go_wp2_with fail
   refine (valley_any _).mono ?_
   rintro e w73 ⟨q_, a_, b_, c_, rfl, hv, hb⟩
   have H74 := Lib.hid (And.intro ((newer_trans H72.out.1 hb)) (And.intro (((H72.out.2.below hb).more hb.size)) (hv)))
   clear hb hv H72
   have e6 := newer_allocH w73 (.cells #[vi 0, vi 0] 3)
   have hlw : Row intL 1 (w73.alloc (.cells #[vi 0, vi 0] 3)) (w73.alloc (.cells #[vi 0, vi 0] 3)).heap.size (some ⟨w73.heap.size, 0, none⟩) [0, 0] := row_of_whole (enc := intL) (s := 1) (fun _ => rfl) (Whole.made w73 3 #[vi 0, vi 0]) rfl
   have H75 := Lib.hid (And.intro ((newer_trans H74.out.1 e6)) (And.intro (((H74.out.2.1.below e6).more e6.size)) (And.intro ((H74.out.2.2.next e6)) (hlw))))
   clear e6 hlw H74
   go_wp2_with fail
   refine (from0_any _ _ _ _).mono ?_
   rintro e w76 ⟨rfl, hb⟩
   have H77 := Lib.hid (And.intro ((newer_trans H75.out.1 hb)) (And.intro (((H75.out.2.1.below hb).more hb.size)) (And.intro ((H75.out.2.2.1.next hb)) (((H75.out.2.2.2.below hb).more hb.size)))))
   clear hb H75
   go_wp2_with fail
   refine (val_fac _ _ [0, 0] [⟨350, 50, 150⟩, ⟨350, 50, 201⟩] _ _ _ H77.out.2.2.1 H77.out.2.2.2 (by simp) (by simp) H77.out.2.1 c_fac3).mono ?_
   rintro e w78 ⟨rfl, hb⟩
   have H79 := Lib.hid (And.intro ((newer_trans H77.out.1 hb)) (((H77.out.2.1.below hb).more hb.size)))
   clear hb H77
   skip
   have HW0 := Lib.hid (H79.out.1.size)
   go_wp2_with fail
   refine (valley_any _).mono ?_
   rintro e w80 ⟨fq, fa, fc, fd, rfl, hv, hb⟩
   have H81 := Lib.hid (And.intro ((newer_trans H79.out.1 hb)) (And.intro (((H79.out.2.below hb).more hb.size)) (hv)))
   clear hb hv H79
   obtain ⟨hmq, hm0, hm1, hm2, hge⟩ := H81.out.2.2
   have HVG := Lib.hid hge
   have H82 := Lib.hid (And.intro (H81.out.1) (And.intro (hmq) (And.intro (hm0) (And.intro (hm1) (hm2)))))
   clear hmq hm0 hm1 hm2 hge H81
   go_upto_region 19 with fail
   refine genQ (fun X => newer w X /\ Whole X fq 105 #[.slice (some ⟨fa, 0, none⟩) 2 2, .slice (some ⟨fc, 0, none⟩) 2 2, .slice (some ⟨fd, 0, none⟩) 2 2] /\ Whole X fa 104 (valX 0) /\ Whole X fc 104 (valX 1) /\ Whole X fd 104 (valX 2) /\ Whole X w80.heap.size 37 #[.slice (some ⟨fq, 0, none⟩) 3 3, vi 2]) ⟨(newer_trans H82.out.1 (newer_allocH w80 (.cells #[.slice (some ⟨fq, 0, none⟩) 3 3, vi 2] 37))), (H82.out.2.1.below (newer_allocH w80 (.cells #[.slice (some ⟨fq, 0, none⟩) 3 3, vi 2] 37)) H82.out.2.1.lt), (H82.out.2.2.1.below (newer_allocH w80 (.cells #[.slice (some ⟨fq, 0, none⟩) 3 3, vi 2] 37)) H82.out.2.2.1.lt), (H82.out.2.2.2.1.below (newer_allocH w80 (.cells #[.slice (some ⟨fq, 0, none⟩) 3 3, vi 2] 37)) H82.out.2.2.2.1.lt), (H82.out.2.2.2.2.below (newer_allocH w80 (.cells #[.slice (some ⟨fq, 0, none⟩) 3 3, vi 2] 37)) H82.out.2.2.2.2.lt), Whole.made _ _ _⟩ ?_
   obtain ⟨fb, hfb⟩ : ∃ fb, fb = w80.heap.size := ⟨_, rfl⟩
   have Lfb := Lib.hid (show w.heap.size <= fb /\ fq < fb /\ fa < fb /\ fc < fb /\ fd < fb /\ w80.heap.size <= fb by rw [hfb]; exact ⟨H82.out.1.size, H82.out.2.1.lt, H82.out.2.2.1.lt, H82.out.2.2.2.1.lt, H82.out.2.2.2.2.lt, Nat.le_refl _⟩)
   rw [<- hfb]
   clear hfb
   rintro w83 ⟨g0_, g1_, g2_, g3_, g4_, g5_⟩
   have H84 := Lib.hid (And.intro (g0_) (And.intro (g1_) (And.intro (g2_) (And.intro (g3_) (And.intro (g4_) (g5_))))))
   clear g0_ g1_ g2_ g3_ g4_ g5_ H82
   have HNE : Hid (fa ≠ fc /\ fa ≠ fd /\ fc ≠ fd /\ fq ≠ fa /\ fq ≠ fc) := Lib.hid (apart3 H84.out.2.2.1 H84.out.2.2.2.1 H84.out.2.2.2.2.1 H84.out.2.1)
   have HWG : Hid (w.heap.size <= fa /\ w.heap.size <= fc) := Lib.hid (by have h1 := HVG.out; have h2 := HW0.out; omega)
   have x0 := H84.out.2.2.2.2.2.at 0 (v := .slice (some ⟨fq, 0, none⟩) 3 3) rfl
   have x1 := H84.out.2.2.2.2.2.at 1 (v := vi 2) rfl
   have y0 := H84.out.2.1.at 0 (v := .slice (some ⟨fa, 0, none⟩) 2 2) rfl
   have y1 := H84.out.2.1.at 1 (v := .slice (some ⟨fc, 0, none⟩) 2 2) rfl
   have y2 := H84.out.2.1.at 2 (v := .slice (some ⟨fd, 0, none⟩) 2 2) rfl
   refine wp_words (by kernel_rfl) (region_told 8 (by kernel_rfl) (by kernel_rfl) (fun W => Below w83.heap.size w83 W) newer (pickD [vIs (.pointer (some ⟨fb, 0, none⟩)), vIs (.slice (some ⟨fq, 0, none⟩) 3 3), vIs (.pointer (some ⟨fq, 0, none⟩)), vIs (.slice (some ⟨fa, 0, none⟩) 2 2), vIs (.pointer (some ⟨fb, 0, none⟩)), vIs (.slice (some ⟨fq, 0, none⟩) 3 3), vIs (.pointer (some ⟨fq, 1, none⟩)), vIs (.slice (some ⟨fc, 0, none⟩) 2 2)]) (fun h k => newer_trans h k) (pickD_stable _ ⟨vIs_st, vIs_st, vIs_st, vIs_st, vIs_st, vIs_st, vIs_st, vIs_st, trivial⟩) (Below.refl _ w83).drew (Below.refl _ _) ?_ ?_)
   ·refine ⟨?_, ?_, ?_, ?_, ?_, ?_, ?_, ?_, trivial⟩
    ·intro a W hG hR hO hp; have h18 := hO.slot 18 (by kernel_rfl); refine kY (v := .pointer (some ⟨fb, 0, none⟩)) hG rfl ?_; simp [slotOf] at h18; simp [execOp, go_sem, h18]
    ·intro a W hG hR hO hp; have h186 : slotOf a 186 = .pointer (some ⟨fb, 0, none⟩) := hp.1; have c0 := keep_cell x0 hG; refine kY (v := .slice (some ⟨fq, 0, none⟩) 3 3) hG rfl ?_; simp [slotOf] at h186; simp [execOp, go_sem, h186, c0]
    ·intro a W hG hR hO hp; have h187 : slotOf a 187 = .slice (some ⟨fq, 0, none⟩) 3 3 := hp.1; refine kY (v := .pointer (some ⟨fq, 0, none⟩)) hG rfl ?_; simp [slotOf] at h187; simp [execOp, go_sem, h187]
    ·intro a W hG hR hO hp; have h188 : slotOf a 188 = .pointer (some ⟨fq, 0, none⟩) := hp.1; have c0 := keep_cell y0 hG; refine kY (v := .slice (some ⟨fa, 0, none⟩) 2 2) hG rfl ?_; simp [slotOf] at h188; simp [execOp, go_sem, h188, c0]
    ·intro a W hG hR hO hp; have h18 := hO.slot 18 (by kernel_rfl); refine kY (v := .pointer (some ⟨fb, 0, none⟩)) hG rfl ?_; simp [slotOf] at h18; simp [execOp, go_sem, h18]
    ·intro a W hG hR hO hp; have h190 : slotOf a 190 = .pointer (some ⟨fb, 0, none⟩) := hp.1; have c0 := keep_cell x0 hG; refine kY (v := .slice (some ⟨fq, 0, none⟩) 3 3) hG rfl ?_; simp [slotOf] at h190; simp [execOp, go_sem, h190, c0]
    ·intro a W hG hR hO hp; have h191 : slotOf a 191 = .slice (some ⟨fq, 0, none⟩) 3 3 := hp.1; refine kY (v := .pointer (some ⟨fq, 1, none⟩)) hG rfl ?_; simp [slotOf] at h191; simp [execOp, go_sem, h191]
    ·intro a W hG hR hO hp; have h192 : slotOf a 192 = .pointer (some ⟨fq, 1, none⟩) := hp.1; have c0 := keep_cell y1 hG; refine kY (v := .slice (some ⟨fc, 0, none⟩) 2 2) hG rfl ?_; simp [slotOf] at h192; simp [execOp, go_sem, h192, c0]
   ·intro wz19 hG hR
    rintro _ rfl _ rfl _ rfl _ rfl _ rfl _ rfl _ rfl _ rfl
    change wpList _ _ _ _ _ _
    simp only [Act.put, List.setIfInBounds_toArray, List.set_cons_zero, List.set_cons_succ, List.drop_succ_cons, List.drop_zero]
    have H85 := Lib.hid (And.intro ((newer_trans H84.out.1 hG)) (And.intro ((H84.out.2.1.below hG H84.out.2.1.lt)) (And.intro ((H84.out.2.2.1.below hG H84.out.2.2.1.lt)) (And.intro ((H84.out.2.2.2.1.below hG H84.out.2.2.2.1.lt)) (And.intro ((H84.out.2.2.2.2.1.below hG H84.out.2.2.2.2.1.lt)) ((H84.out.2.2.2.2.2.below hG H84.out.2.2.2.2.2.lt)))))))
    clear hG hR H84 x0 x1 y0 y1 y2
    have a0 := H85.out.2.2.1.at 0 (v := vi 400) rfl
    have a1 := H85.out.2.2.2.1.at 0 (v := vi 300) rfl
    have f0 := H85.out.2.2.1.free 0
    have f1 := H85.out.2.2.2.1.free 0
    have n1 : ¬ fa = fc := HNE.out.1
    have n2 : ¬ fc = fa := fun e => HNE.out.1 e.symm
    go_upto_region 20 with fail
    refine genQ (fun X => newer w X /\ Whole X fq 105 #[.slice (some ⟨fa, 0, none⟩) 2 2, .slice (some ⟨fc, 0, none⟩) 2 2, .slice (some ⟨fd, 0, none⟩) 2 2] /\ Whole X fa 104 ((valX 0).setIfInBounds 0 (vi 0)) /\ Whole X fc 104 ((valX 1).setIfInBounds 0 (vi 0)) /\ Whole X fd 104 (valX 2) /\ Whole X fb 37 #[.slice (some ⟨fq, 0, none⟩) 3 3, vi 2]) ⟨(H85.out.1.setCell (p := ⟨fa, 0, none⟩) HWG.out.1 (vi 0)).setCell (p := ⟨fc, 0, none⟩) HWG.out.2 (vi 0), (H85.out.2.1.far (p := ⟨fa, 0, none⟩) HNE.out.2.2.2.1 (vi 0)).far (p := ⟨fc, 0, none⟩) HNE.out.2.2.2.2 (vi 0), (H85.out.2.2.1.set 0 (vi 0)).far (p := ⟨fc, 0, none⟩) HNE.out.1 (vi 0), (H85.out.2.2.2.1.far (p := ⟨fa, 0, none⟩) (fun e => HNE.out.1 e.symm) (vi 0)).set 0 (vi 0), (H85.out.2.2.2.2.1.far (p := ⟨fa, 0, none⟩) (fun e => HNE.out.2.1 e.symm) (vi 0)).far (p := ⟨fc, 0, none⟩) (fun e => HNE.out.2.2.1 e.symm) (vi 0), (H85.out.2.2.2.2.2.far (p := ⟨fa, 0, none⟩) (Nat.ne_of_gt Lfb.out.2.2.1) (vi 0)).far (p := ⟨fc, 0, none⟩) (Nat.ne_of_gt Lfb.out.2.2.2.1) (vi 0)⟩ ?_
    rintro w86 ⟨g0_, g1_, g2_, g3_, g4_, g5_⟩
    have H87 := Lib.hid (And.intro (g0_) (And.intro (g1_) (And.intro (g2_) (And.intro (g3_) (And.intro (g4_) (g5_))))))
    clear g0_ g1_ g2_ g3_ g4_ g5_ H85 a0 a1 f0 f1 n1 n2
    have hso := flat_ok H87.out.2.1 H87.out.2.2.1 H87.out.2.2.2.1 H87.out.2.2.2.2.1
    have H88 := Lib.hid (And.intro (H87.out.1) (And.intro (hso) (H87.out.2.2.2.2.2)))
    clear hso
    have x0 := H88.out.2.2.at 0 (v := .slice (some ⟨fq, 0, none⟩) 3 3) rfl
    have x1 := H88.out.2.2.at 1 (v := vi 2) rfl
    refine wp_words (by kernel_rfl) (region_late 9 8 (by kernel_rfl) (by kernel_rfl) (by decide) (by kernel_rfl) (fun W => Below w86.heap.size w86 W) (pickB [vIs (smV (flatM fq fa fc fd)), vArr w86.heap.size 2 #[vi 0, vi 0], vFr w86.heap.size [0, 0], vIs (.tuple #[.agg #[vi 0, vi 0], vi 7]), vIs (.tuple #[.agg #[vi 0, vi 0], vi 7]), vIs (.agg #[vi 0, vi 0]), vIs (vi 7), vNew w86.heap.size 31 #[vi 0, vi 0], (fun _ _ => True)] [(fun _ _ => True), (fun _ _ => True), (fun _ _ => True), (fun _ _ => True), vIs (.tuple #[.agg #[vi 0, vi 0], vi 7]), (fun _ _ => True), vIs (vi 7), vNew w86.heap.size 31 #[vi 0, vi 0], (fun _ _ => True)]) (pickB_stable ⟨vIs_st, vArr_st, vFr_st, vIs_st, vIs_st, vIs_st, vIs_st, vNew_st, (fun _ _ _ h _ => h), trivial⟩ ⟨(fun _ _ _ h _ => h), (fun _ _ _ h _ => h), (fun _ _ _ h _ => h), (fun _ _ _ h _ => h), vIs_st, (fun _ _ _ h _ => h), vIs_st, vNew_st, (fun _ _ _ h _ => h), trivial⟩) (Below.refl _ w86).drew ?_ ?_)
    ·refine ⟨?_, ?_, ?_, ?_, ?_, ?_, ?_, ?_, ?_, trivial⟩
     ·intro a W hG hO hp; have h18 := hO.slot 18 (by kernel_rfl); have c0 := keep_cell x0 hG; have c1 := keep_cell x1 hG; refine wp_yields (v := smV (flatM fq fa fc fd)) ?_ ⟨_, rfl, rfl, Below.refl _ _, hG⟩; simp [slotOf] at h18; simp [execOp, go_sem, h18, c0, c1]
     ·intro a W hG hO hp; refine wp_makes (v := .slice (some ⟨W.heap.size, 0, none⟩) 2 2) (W' := W.alloc (.cells #[vi 0, vi 0] 3)) ?_ ⟨_, rfl, ⟨_, rfl, hG.size, Whole.made _ _ _⟩, newer_allocH _ _, hG.alloc hG.size _⟩; simp [execOp, go_sem]
     ·intro a W hG hO hp
      have h200 := hp.1
      obtain ⟨nb, h200, hnb, hW⟩ := h200
      refine wp_enters (f := 55) (args := #[.slice (some ⟨nb, 0, none⟩) 2 2]) ?_ ((from0_any (some ⟨nb, 0, none⟩) 2 2 W).mono ?_)
      ·simp [slotOf] at h200
       simp [go_sem, h200]
      ·rintro e w' ⟨rfl, hb⟩
       exact ⟨_, rfl, _, rfl, ⟨nb, rfl, hnb, (row_of_whole (enc := intL) (s := 1) (l := [0, 0]) (fun _ => rfl) (hW.below hb hW.lt) rfl)⟩, hb, below_next hG hb⟩
     ·intro a W hG hO hp
      have h199 : slotOf a 199 = smV (flatM fq fa fc fd) := hp.1
      have h201 := hp.2.1
      obtain ⟨nb, h201, hnb, hrw⟩ := h201
      refine wp_enters (f := 18) (args := #[smV (flatM fq fa fc fd), .agg #[vi 0, .slice (some ⟨nb, 0, none⟩) 2 2]]) ?_ ((flat_sp nb 2 W (H88.out.2.1.next hG) hrw).mono ?_)
      ·simp [slotOf] at h199 h201
       simp [go_sem, h199, h201]
      ·rintro e w' ⟨rfl, hb⟩
       exact ⟨_, rfl, _, rfl, rfl, hb, below_next hG hb⟩
     ·intro a W hG hO hp; have h202 : slotOf a 202 = .tuple #[.agg #[vi 0, vi 0], vi 7] := hp.1; refine wp_yields (v := .tuple #[.agg #[vi 0, vi 0], vi 7]) ?_ ⟨_, rfl, rfl, Below.refl _ _, hG⟩; simp [slotOf] at h202; simp [execOp, go_sem, h202]
     ·intro a W hG hO hp; have h198 : slotOf a 198 = .tuple #[.agg #[vi 0, vi 0], vi 7] := hp.1; refine wp_yields (v := .agg #[vi 0, vi 0]) ?_ ⟨_, rfl, rfl, Below.refl _ _, hG⟩; simp [slotOf] at h198; simp [execOp, go_sem, h198]
     ·intro b a W hG hO hp
      have h198 : slotOf a 198 = .tuple #[.agg #[vi 0, vi 0], vi 7] := by cases b <;> exact hp.1
      refine wp_yields (v := vi 7) ?_ ⟨_, rfl, (by cases b <;> rfl), Below.refl _ _, hG⟩
      simp [slotOf] at h198
      simp [execOp, go_sem, h198]
     ·intro a W hG hO hp; refine wp_makes (v := .pointer (some ⟨W.heap.size, 0, none⟩)) (W' := W.alloc (.cells #[vi 0, vi 0] 31)) ?_ ⟨_, rfl, ⟨_, rfl, hG.size, Whole.made _ _ _⟩, newer_allocH _ _, below_next hG (newer_allocH _ _)⟩; skip; simp [execOp, go_sem]
     ·intro a W hG hO hp
      have h19 := hp.1
      have h203 : slotOf a 203 = .agg #[vi 0, vi 0] := hp.2.1
      obtain ⟨ob, h19, hfb, hwf⟩ := h19
      have b0 := hwf.at 0 rfl
      have b1 := hwf.at 1 rfl
      have f0 := hwf.free 0
      have f1 := hwf.free 1
      have hq := h19
      simp [slotOf] at h19 h203
      refine wp_storesE (W' := (W.setCell ⟨ob, 0, none⟩ (vi 0)).setCell ⟨ob, 1, none⟩ (vi 0)) (by simp [execOp, go_sem, h19, h203, b0, b1, f0, f1]) ⟨rfl, (hG.setCell (p := ⟨ob, 0, none⟩) hfb _).setCell (p := ⟨ob, 1, none⟩) hfb _, ?_⟩
      intro j oj d hj hoj hd hD
      match j, hoj, hD with
      | 0, _, _ => trivial
      | 1, _, _ => trivial
      | 2, _, _ => trivial
      | 3, _, _ => trivial
      | 4, _, hD =>
       exact hD
      | 5, _, _ => trivial
      | 6, _, hD =>
       exact hD
      | 7, hoj, _ =>
       obtain rfl := Option.some.inj hoj
       obtain rfl := Option.some.inj hd
       exact ⟨ob, hq, hfb, (hwf.set 0 _).set 1 _⟩
      | 8, _, _ => trivial
      | (_ + 9), _, _ => omega
    ·intro wz20 hG
     rintro _ - _ - _ - _ - _ - _ - _ rfl _ ⟨ob, rfl, hfb, hwf⟩
     change wpList _ _ _ _ _ _
     simp only [Act.put, List.setIfInBounds_toArray, List.set_cons_zero, List.set_cons_succ, List.drop_succ_cons, List.drop_zero]
     have H89 := Lib.hid ((newer_trans H88.out.1 hG))
     clear hG hfb hwf H88 x0 x1
     go_upto_region 22 with fail
     have hnm := none_made wz20
     refine genQ (fun X => newer w X /\ SmOk (noneM wz20.heap.size (wz20.heap.size + 1)) X /\ Whole X (wz20.heap.size + 1 + 1) 37 #[.slice (some ⟨wz20.heap.size + 1, 0, none⟩) 1 1, vi 1]) ⟨newer_trans H89.out hnm.1, hnm.2.1, hnm.2.2⟩ ?_
     clear hnm
     obtain ⟨nb, hnb⟩ : ∃ nb, nb = wz20.heap.size + 1 + 1 := ⟨_, rfl⟩
     rw [<- hnb]
     obtain ⟨nc, hnc⟩ : ∃ nc, nc = wz20.heap.size := ⟨_, rfl⟩
     obtain ⟨nq, hnq⟩ : ∃ nq, nq = wz20.heap.size + 1 := ⟨_, rfl⟩
     rw [<- hnq, <- hnc]
     clear hnb hnc hnq
     rintro w22 ⟨g0_, g1_, g2_⟩
     have H90 := Lib.hid (And.intro (g0_) (And.intro (g1_) (g2_)))
     clear g0_ g1_ g2_ H89
     have x0 := H90.out.2.2.at 0 (v := .slice (some ⟨nq, 0, none⟩) 1 1) rfl
     have x1 := H90.out.2.2.at 1 (v := vi 1) rfl
     go_wp2_with fail
     refine (worst_nil (noneM nc nq) _ H90.out.2.1 (noneM_few _ _) c_none1.1 c_none1.2).mono ?_
     rintro e w91 ⟨rfl, hb⟩
     have H92 := Lib.hid (And.intro ((newer_trans H90.out.1 hb)) (And.intro ((H90.out.2.1.next hb)) ((H90.out.2.2.below hb H90.out.2.2.lt))))
     clear hb H90 x0 x1
     go_upto_region 23 with fail
     refine genQ (fun X => newer w X /\ SmOk (noneM nc nq) X /\ Whole X nb 37 #[.slice (some ⟨nq, 0, none⟩) 1 1, vi 1] /\ Whole X w91.heap.size 39 #[vi 0, .slice none 0 0]) ⟨(newer_trans H92.out.1 (newer_allocH w91 (.cells #[vi 0, .slice none 0 0] 39))), (H92.out.2.1.next (newer_allocH w91 (.cells #[vi 0, .slice none 0 0] 39))), (H92.out.2.2.below (newer_allocH w91 (.cells #[vi 0, .slice none 0 0] 39)) H92.out.2.2.lt), Whole.made _ _ _⟩ ?_
     obtain ⟨ub, hub⟩ : ∃ ub, ub = w91.heap.size := ⟨_, rfl⟩
     have Lub := Lib.hid (show w.heap.size <= ub /\ nb < ub /\ w91.heap.size <= ub by rw [hub]; exact ⟨H92.out.1.size, H92.out.2.2.lt, Nat.le_refl _⟩)
     rw [<- hub]
     clear hub
     rintro w93 ⟨g0_, g1_, g2_, g3_⟩
     have H94 := Lib.hid (And.intro (g0_) (And.intro (g1_) (And.intro (g2_) (g3_))))
     clear g0_ g1_ g2_ g3_ H92
     have x0 := H94.out.2.2.1.at 0 (v := .slice (some ⟨nq, 0, none⟩) 1 1) rfl
     have x1 := H94.out.2.2.1.at 1 (v := vi 1) rfl
     go_wp2_with fail
     refine (none_mar _ H94.out.2.1).mono ?_
     rintro e w95 ⟨rfl, hb⟩
     have H96 := Lib.hid ((newer_trans H94.out.1 hb))
     clear hb H94 x0 x1
     have HW0 := Lib.hid (H96.out.size)
     go_wp2_with fail
     refine (valley_any _).mono ?_
     rintro e w97 ⟨oq, oa, oc, od, rfl, hv, hb⟩
     have H98 := Lib.hid (And.intro ((newer_trans H96.out hb)) (hv))
     clear hb hv H96
     obtain ⟨hmq, hm0, hm1, hm2, hge⟩ := H98.out.2
     have HVO := Lib.hid hge
     have H99 := Lib.hid (And.intro (H98.out.1) (And.intro (hmq) (And.intro (hm0) (And.intro (hm1) (hm2)))))
     clear hmq hm0 hm1 hm2 hge H98
     go_upto_region 25 with fail
     refine genQ (fun X => newer w X /\ Whole X oq 105 #[.slice (some ⟨oa, 0, none⟩) 2 2, .slice (some ⟨oc, 0, none⟩) 2 2, .slice (some ⟨od, 0, none⟩) 2 2] /\ Whole X oa 104 (valX 0) /\ Whole X oc 104 (valX 1) /\ Whole X od 104 (valX 2) /\ Whole X w97.heap.size 37 #[.slice (some ⟨oq, 0, none⟩) 3 3, vi 2]) ⟨(newer_trans H99.out.1 (newer_allocH w97 (.cells #[.slice (some ⟨oq, 0, none⟩) 3 3, vi 2] 37))), (H99.out.2.1.below (newer_allocH w97 (.cells #[.slice (some ⟨oq, 0, none⟩) 3 3, vi 2] 37)) H99.out.2.1.lt), (H99.out.2.2.1.below (newer_allocH w97 (.cells #[.slice (some ⟨oq, 0, none⟩) 3 3, vi 2] 37)) H99.out.2.2.1.lt), (H99.out.2.2.2.1.below (newer_allocH w97 (.cells #[.slice (some ⟨oq, 0, none⟩) 3 3, vi 2] 37)) H99.out.2.2.2.1.lt), (H99.out.2.2.2.2.below (newer_allocH w97 (.cells #[.slice (some ⟨oq, 0, none⟩) 3 3, vi 2] 37)) H99.out.2.2.2.2.lt), Whole.made _ _ _⟩ ?_
     obtain ⟨db, hdb⟩ : ∃ db, db = w97.heap.size := ⟨_, rfl⟩
     have Ldb := Lib.hid (show w.heap.size <= db /\ oq < db /\ oa < db /\ oc < db /\ od < db /\ w97.heap.size <= db by rw [hdb]; exact ⟨H99.out.1.size, H99.out.2.1.lt, H99.out.2.2.1.lt, H99.out.2.2.2.1.lt, H99.out.2.2.2.2.lt, Nat.le_refl _⟩)
     rw [<- hdb]
     clear hdb
     rintro w100 ⟨g0_, g1_, g2_, g3_, g4_, g5_⟩
     have H101 := Lib.hid (And.intro (g0_) (And.intro (g1_) (And.intro (g2_) (And.intro (g3_) (And.intro (g4_) (g5_))))))
     clear g0_ g1_ g2_ g3_ g4_ g5_ H99
     have HNO : Hid (oa ≠ oq /\ oc ≠ oq /\ od ≠ oq) := Lib.hid (by have h := apart3 H101.out.2.2.1 H101.out.2.2.2.1 H101.out.2.2.2.2.1 H101.out.2.1; exact ⟨fun e => h.2.2.2.1 e.symm, fun e => h.2.2.2.2 e.symm, apart_q H101.out.2.1 H101.out.2.2.2.2.1⟩)
     have HWO : Hid (w.heap.size <= oq) := Lib.hid (by have h1 := HVO.out; have h2 := HW0.out; omega)
     have x0 := H101.out.2.2.2.2.2.at 0 (v := .slice (some ⟨oq, 0, none⟩) 3 3) rfl
     have x1 := H101.out.2.2.2.2.2.at 1 (v := vi 2) rfl
     have y0 := H101.out.2.1.at 0 (v := .slice (some ⟨oa, 0, none⟩) 2 2) rfl
     have y1 := H101.out.2.1.at 1 (v := .slice (some ⟨oc, 0, none⟩) 2 2) rfl
     have y2 := H101.out.2.1.at 2 (v := .slice (some ⟨od, 0, none⟩) 2 2) rfl
     refine wp_words (by kernel_rfl) (region_told 7 (by kernel_rfl) (by kernel_rfl) (fun W => Below w100.heap.size w100 W) newer (pickD [vIs (.pointer (some ⟨db, 0, none⟩)), vIs (.slice (some ⟨oq, 0, none⟩) 3 3), vIs (.pointer (some ⟨db, 0, none⟩)), vIs (.slice (some ⟨oq, 0, none⟩) 3 3), vIs (.pointer (some ⟨oq, 2, none⟩)), vIs (.slice (some ⟨od, 0, none⟩) 2 2), vIs (.slice (some ⟨od, 0, none⟩) 1 2)]) (fun h k => newer_trans h k) (pickD_stable _ ⟨vIs_st, vIs_st, vIs_st, vIs_st, vIs_st, vIs_st, vIs_st, trivial⟩) (Below.refl _ w100).drew (Below.refl _ _) ?_ ?_)
     ·refine ⟨?_, ?_, ?_, ?_, ?_, ?_, ?_, trivial⟩
      ·intro a W hG hR hO hp; have h27 := hO.slot 27 (by kernel_rfl); refine kY (v := .pointer (some ⟨db, 0, none⟩)) hG rfl ?_; simp [slotOf] at h27; simp [execOp, go_sem, h27]
      ·intro a W hG hR hO hp; have h221 : slotOf a 221 = .pointer (some ⟨db, 0, none⟩) := hp.1; have c0 := keep_cell x0 hG; refine kY (v := .slice (some ⟨oq, 0, none⟩) 3 3) hG rfl ?_; simp [slotOf] at h221; simp [execOp, go_sem, h221, c0]
      ·intro a W hG hR hO hp; have h27 := hO.slot 27 (by kernel_rfl); refine kY (v := .pointer (some ⟨db, 0, none⟩)) hG rfl ?_; simp [slotOf] at h27; simp [execOp, go_sem, h27]
      ·intro a W hG hR hO hp; have h223 : slotOf a 223 = .pointer (some ⟨db, 0, none⟩) := hp.1; have c0 := keep_cell x0 hG; refine kY (v := .slice (some ⟨oq, 0, none⟩) 3 3) hG rfl ?_; simp [slotOf] at h223; simp [execOp, go_sem, h223, c0]
      ·intro a W hG hR hO hp; have h224 : slotOf a 224 = .slice (some ⟨oq, 0, none⟩) 3 3 := hp.1; refine kY (v := .pointer (some ⟨oq, 2, none⟩)) hG rfl ?_; simp [slotOf] at h224; simp [execOp, go_sem, h224]
      ·intro a W hG hR hO hp; have h225 : slotOf a 225 = .pointer (some ⟨oq, 2, none⟩) := hp.1; have c0 := keep_cell y2 hG; refine kY (v := .slice (some ⟨od, 0, none⟩) 2 2) hG rfl ?_; simp [slotOf] at h225; simp [execOp, go_sem, h225, c0]
      ·intro a W hG hR hO hp; have h226 : slotOf a 226 = .slice (some ⟨od, 0, none⟩) 2 2 := hp.1; refine kY (v := .slice (some ⟨od, 0, none⟩) 1 2) hG rfl ?_; simp [slotOf] at h226; simp [execOp, go_sem, h226]
     ·intro wz25 hG hR
      rintro _ rfl _ rfl _ rfl _ rfl _ rfl _ rfl _ rfl
      change wpList _ _ _ _ _ _
      simp only [Act.put, List.setIfInBounds_toArray, List.set_cons_zero, List.set_cons_succ, List.drop_succ_cons, List.drop_zero]
      have H102 := Lib.hid (And.intro ((newer_trans H101.out.1 hG)) (And.intro ((H101.out.2.1.below hG H101.out.2.1.lt)) (And.intro ((H101.out.2.2.1.below hG H101.out.2.2.1.lt)) (And.intro ((H101.out.2.2.2.1.below hG H101.out.2.2.2.1.lt)) (And.intro ((H101.out.2.2.2.2.1.below hG H101.out.2.2.2.2.1.lt)) ((H101.out.2.2.2.2.2.below hG H101.out.2.2.2.2.2.lt)))))))
      clear hG hR H101 x0 x1 y0 y1 y2
      have a0 := H102.out.2.1.at 2 (v := .slice (some ⟨od, 0, none⟩) 2 2) rfl
      have f0 := H102.out.2.1.free 2
      go_upto_region 26 with fail
      refine genQ (fun X => newer w X /\ Whole X oq 105 #[.slice (some ⟨oa, 0, none⟩) 2 2, .slice (some ⟨oc, 0, none⟩) 2 2, .slice (some ⟨od, 0, none⟩) 1 2] /\ Whole X oa 104 (valX 0) /\ Whole X oc 104 (valX 1) /\ Whole X od 104 (valX 2) /\ Whole X db 37 #[.slice (some ⟨oq, 0, none⟩) 3 3, vi 2]) ⟨H102.out.1.setCell (p := ⟨oq, 2, none⟩) HWO.out (.slice (some ⟨od, 0, none⟩) 1 2), H102.out.2.1.set 2 (.slice (some ⟨od, 0, none⟩) 1 2), H102.out.2.2.1.far (p := ⟨oq, 2, none⟩) HNO.out.1 (.slice (some ⟨od, 0, none⟩) 1 2), H102.out.2.2.2.1.far (p := ⟨oq, 2, none⟩) HNO.out.2.1 (.slice (some ⟨od, 0, none⟩) 1 2), H102.out.2.2.2.2.1.far (p := ⟨oq, 2, none⟩) HNO.out.2.2 (.slice (some ⟨od, 0, none⟩) 1 2), H102.out.2.2.2.2.2.far (p := ⟨oq, 2, none⟩) (Nat.ne_of_gt Ldb.out.2.1) (.slice (some ⟨od, 0, none⟩) 1 2)⟩ ?_
      rintro w103 ⟨g0_, g1_, g2_, g3_, g4_, g5_⟩
      have H104 := Lib.hid (And.intro (g0_) (And.intro (g1_) (And.intro (g2_) (And.intro (g3_) (And.intro (g4_) (g5_))))))
      clear g0_ g1_ g2_ g3_ g4_ g5_ H102 a0 f0
      have hso := odd_ok H104.out.2.1 H104.out.2.2.1 H104.out.2.2.2.1 H104.out.2.2.2.2.1
      have H105 := Lib.hid (And.intro (H104.out.1) (And.intro (hso) (H104.out.2.2.2.2.2)))
      clear hso
      have x0 := H105.out.2.2.at 0 (v := .slice (some ⟨oq, 0, none⟩) 3 3) rfl
      have x1 := H105.out.2.2.at 1 (v := vi 2) rfl
      go_wp2_with fail
      refine (odd_check _ H105.out.2.1).mono ?_
      rintro e w106 ⟨rfl, hb⟩
      have H107 := Lib.hid ((newer_trans H105.out.1 hb))
      clear hb H105 x0 x1
      go_wp2_with fail
      refine (nil_check _).mono ?_
      rintro e w108 ⟨rfl, hb⟩
      have H109 := Lib.hid ((newer_trans H107.out hb))
      clear hb H107
      go_wp2_with fail
      refine (wakes_any _).mono ?_
      rintro e w110 ⟨rfl, hb⟩
      have H111 := Lib.hid ((newer_trans H109.out hb))
      clear hb H109
      go_wp2_with fail
      go_ret
      exact ⟨rfl, H111.out⟩
end
set_option maxRecDepth 100000 in
set_option maxHeartbeats 1000000 in
theorem slopeNames_lifted (os : Os) (started : os.Started) (H : Type) (enc : TypeId × Value -> H) :
  ReturnsInHanded {} Try.checked os 15 .any (Rows.slopeNamesSpec.pre6 enc Try.prog Try.f15 Rows.slopeNamesRow.domain false) (Rows.slopeNamesSpec.post enc Try.prog Try.f15 false true false false) := by
 refine returnsInHanded_of_change (C := Try.checked) Try.own started (by kernel_rfl) Try.func15
  (ChangeSpec.witness6 (enc := enc) (C := Try.checked) false ⟨#[], #[], []⟩ 8 (by kernel_rfl) (by kernel_rfl) (by kernel_rfl) (by kernel_rfl)) ?_
 intro W base args ds gs before hval0 hW hcnd _
 have hval : ∀ (j : Nat) t v, Try.f15.params[j]? = some t -> args[j]? = some v -> Value.okWide Try.prog W .any base t v := hval0
 have hW' := hW
 obtain ⟨p, q, hA0, hV, rfl, hfz, hnd⟩ := hW
 have hA : DataW.TrodAll enc Try.prog W 0 (fun _ => true) true Try.f15.params.toList args.toList ds p := hA0
 rw [Try.params15] at hA hval
 obtain ⟨hargs, rfl, rfl⟩ := trodAll_nil hA
 obtain rfl : args = #[] := by
  clear hval hW' hA hval0 hA0 hcnd
  cases args
  simp_all
 obtain ⟨rfl, rfl⟩ := trodVars_none hV
 clear hA0 hval0
 refine (slopeNames_walk W).mono fun e W' ⟨he, bel⟩ => ?_
 subst he
 exact ⟨_, rfl, _, _, _, [], _, [], hW', trodAll_mk1 (shut_bool Try.underlying4 _), trodAll_mk0, rfl, bel.frame _, fun h => by cases h⟩
theorem slopeNames_holds : Rows.SlopeNamesSaid :=
 OpenClaim.holds_of_wide 15 Try.f15 rfl rfl rfl rfl rfl rfl rfl ⟨rfl, rfl, rfl, rfl, rfl⟩ rfl rfl rfl rfl rfl (by kernel_rfl) Try.func15 (by kernel_rfl)
  (of_decide_eq_true (by kernel_rfl)) (by unfold Func.isWrapper; first | (rw [if_pos (by decide +kernel)]; kernel_rfl) | (rw [if_neg (by decide +kernel)]; exact ⟨rfl, rfl⟩))
  (fun os started H enc _ => slopeNames_lifted os started H enc)
end

#print axioms slopeNames_holds

end Go.Proofs.Ytkenokpobbichaa
