/- What the last text of this chain needs: AL, AN, AH2, AJ, AR, CE, CF, CG, CI, BH, BF, BK, BD, BL, CJ. -/
import Derived.Test.YtkenokpobbichaaZL07
namespace Go.Proofs.Ytkenokpobbichaa
section
open Go.RowKit Go.Shelf Go.Deep
theorem row_grown {α : Type} {enc : α → List Value} {s : Nat} {w w' : World} {A : Option Addr} {l : List α} {x : Option Nat} (h : Row enc s w w.heap.size A l) (hg : w.grownBy w' x) (hne : ∀ ad, A = some ad → x ≠ some ad.block) : Row enc s w' w'.heap.size A l := by
  intro hl
  obtain ⟨b, off, rfl, hb, hc⟩ := h hl
  have hk := hg.block b hb (fun e => hne _ rfl e.symm)
  refine ⟨b, off, rfl, Nat.lt_of_lt_of_le hb hg.size, fun i y hy j u hu => ?_⟩
  rw [cell_of_same hk]
  exact hc i y hy j u hu
def suL (u : Su) : List Value := [vi u.frm, .slice u.a u.beds.length u.c]
def suK (u : Su) : Int × List Int := (u.frm, u.beds)
/-- Surfaces, each of blocks from B on, or with the row a. -/
structure SfIn (B : Nat) (a : Option Addr) (us : List Su) (W : World) : Prop where
  ok : ∀ x ∈ us, SuOk x W
  ne : ∀ x ∈ us, x.beds ≠ []
  hi : ∀ x ∈ us, ∀ ad, x.a = some ad → B ≤ ad.block ∨ x.a = a
/-- Surfaces behind one another in a row of one's own. -/
structure SfJ (B : Nat) (a : Option Addr) (L : List (Int × List Int)) (us : List Su) (A : Option Addr) (c : Nat) (W : World) : Prop where
  own : W.ownsRow B 27 2 (.slice A us.length c) us.length (us.flatMap suL)
  sin : SfIn B a us W
  far : ∀ x ∈ us, ∀ ad, x.a = some ad → (Value.slice A us.length c).ownBlock ≠ some ad.block
  eq : us.map suK = L
section
variable {B : Nat} {a : Option Addr} {L : List (Int × List Int)} {us : List Su} {A : Option Addr} {c : Nat} {W W' : World}
theorem SfIn.next (h : SfIn B a us W) (hb : newer W W') : SfIn B a us W' := ⟨fun x hx => (h.ok x hx).next hb, h.ne, h.hi⟩
theorem SfJ.next (h : SfJ B a L us A c W) (hb : newer W W') : SfJ B a L us A c W' := ⟨own_below h.own hb, h.sin.next hb, h.far, h.eq⟩
theorem SfJ.none (B : Nat) (a : Option Addr) (W : World) : SfJ B a [] [] none 0 W := ⟨⟨rfl, .inl ⟨rfl, rfl⟩⟩, ⟨fun x hx => by simp at hx, fun x hx => by simp at hx, fun x hx => by simp at hx⟩, fun x hx => by simp at hx, rfl⟩
/-- More surfaces behind. -/
theorem SfJ.app (h : SfJ B a L us A c W) {vs : List Su} (hv : SfIn B a vs W) (hf : ∀ x ∈ vs, ∀ ad, x.a = some ad → (Value.slice A us.length c).ownBlock ≠ some ad.block) {A' : Option Addr} {c' : Nat}
    (hown : W'.ownsRow B 27 2 (.slice A' (us.length + vs.length) c') (us.length + vs.length) (us.flatMap suL ++ vs.flatMap suL)) (hg : W.grownBy W' (Value.slice A us.length c).ownBlock)
    (hat : ∀ g, (Value.slice A' (us.length + vs.length) c').ownBlock = some g → (Value.slice A us.length c).ownBlock = some g ∨ g = W.heap.size) : SfJ B a (L ++ vs.map suK) (us ++ vs) A' c' W' := by
  have hall : ∀ x ∈ us ++ vs, SuOk x W ∧ x.beds ≠ [] ∧ ∀ ad, x.a = some ad → (Value.slice A us.length c).ownBlock ≠ some ad.block := fun x hx => by
    rcases List.mem_append.1 hx with hx | hx
    · exact ⟨h.sin.ok x hx, h.sin.ne x hx, h.far x hx⟩
    · exact ⟨hv.ok x hx, hv.ne x hx, hf x hx⟩
  refine ⟨by rw [List.length_append, List.flatMap_append]; exact hown, ⟨fun x hx => ?_, fun x hx => (hall x hx).2.1, fun x hx => ?_⟩, fun x hx ad had e => ?_, by rw [List.map_append, h.eq]⟩
  · exact row_grown (hall x hx).1 hg (hall x hx).2.2
  · rcases List.mem_append.1 hx with hx | hx
    · exact h.sin.hi x hx
    · exact hv.hi x hx
  · rw [List.length_append] at e
    rcases hat _ e with e | e
    · exact (hall x hx).2.2 ad had e
    · obtain ⟨b, off, h1, h2, _⟩ := (hall x hx).1 (hall x hx).2.1
      rw [had] at h1
      injection h1 with h1
      subst h1
      simp at e
      omega
theorem SfJ.new (h : SfJ B a L us A c W) {w : World} (hB : w.heap.size ≤ B) (hn : newer w W) (hg : W.grownBy W' (Value.slice A us.length c).ownBlock) : newer w W' := by
  cases hx : (Value.slice A us.length c).ownBlock with
  | none =>
    rw [hx] at hg
    exact newer_trans hn (below_grown hg (fun q e => by cases e) (Nat.le_refl _))
  | some k =>
    rw [hx] at hg
    exact Below.trans hn (below_of_grown hg (Nat.le_trans hB (own_ge h.own k hx)) hn.size)
end
end

section
open Go.RowKit Go.Shelf Go.Deep
theorem SfIn.high {B H : Nat} {a : Option Addr} {us : List Su} {W : World} (h : SfIn B a us W) (hB : H ≤ B) (ha : ∀ ad, a = some ad → H ≤ ad.block) : SfIn H none us W := ⟨h.ok, h.ne, fun x hx ad had => .inl (by
  rcases h.hi x hx ad had with h1 | h1
  · omega
  · exact ha ad (by rw [← h1]; exact had))⟩
/-- What Surfaces returns. -/
def surfOut (H : Nat) (a : Option Addr) (L : List (Int × List Int)) (e : Ending) (w' : World) : Prop := ∃ us A c, e = .returned (.slice A (us : List Su).length c) ∧ Row suL 2 w' w'.heap.size A us ∧ SfIn H a us w' ∧ us.map suK = L
theorem SfIn.low {B H : Nat} {a : Option Addr} {us : List Su} {W : World} (h : SfIn B a us W) (hH : H ≤ B) : SfIn H a us W := ⟨h.ok, h.ne, fun x hx ad had => (h.hi x hx ad had).imp (fun h1 => Nat.le_trans hH h1) id⟩
theorem SfJ.out {H B : Nat} {a : Option Addr} {L : List (Int × List Int)} {us : List Su} {A : Option Addr} {c : Nat} {W : World} (h : SfJ B a L us A c W) (hH : H ≤ B) : surfOut H a L (.returned (.slice A us.length c)) W := ⟨us, A, c, rfl, row_of_own (by omega) (fun _ => rfl) h.own, h.sin.low hH, h.eq⟩
end

section
open Go.RowKit Go.Shelf Go.Deep
theorem hK_cons (x : Bd) (bs : List Bd) (tr : Nat → Rl) : ∀ m, hK (x :: bs) tr (m + 1) = holdsN x (tr 0) + hK bs (fun i => tr (i + 1)) m
  | 0 => by simp [hK, List.getD]
  | m + 1 => by
    rw [hK, hK_cons x bs tr m]
    simp [hK, List.getD]
    omega
theorem dK_cons (x : Bd) (bs : List Bd) : ∀ m, dK (x :: bs) (m + 1) = x.drive + dK bs m
  | 0 => by simp [dK, List.getD]
  | m + 1 => by
    rw [dK, dK_cons x bs m]
    simp [dK, List.getD]
    omega
theorem hK_sum (s : Sd) (hi : Bool) : ∀ (l : List Nat) (k : Nat), hK (bedsL s.cols k l) (fun i => endR hi ((bedsL s.cols k l).getD i zeroBd)) l.length = sumH (hAt hi s) k l
  | [], _ => rfl
  | b :: t, k => by
    show hK (bdAt s.cols k b :: bedsL s.cols (k + 1) t) (fun i => endR hi ((bdAt s.cols k b :: bedsL s.cols (k + 1) t).getD i zeroBd)) (t.length + 1) = hAt hi s k b + sumH (hAt hi s) (k + 1) t
    rw [hK_cons]
    have ih := hK_sum s hi t (k + 1)
    have e : holdsN (bdAt s.cols k b) (endR hi (bdAt s.cols k b)) = hAt hi s k b := by
      unfold bdAt hAt
      cases bedAt s.cols k b with
      | none => cases hi <;> decide
      | some x => rfl
    simp only [List.getD_cons_zero, List.getD_cons_succ]
    rw [ih, e]
theorem dK_sum (s : Sd) : ∀ (l : List Nat) (k : Nat), dK (bedsL s.cols k l) l.length = sumH (dAt s) k l
  | [], _ => rfl
  | b :: t, k => by
    show dK (bdAt s.cols k b :: bedsL s.cols (k + 1) t) (t.length + 1) = dAt s k b + sumH (dAt s) (k + 1) t
    rw [dK_cons, dK_sum s t (k + 1)]
    have e : (bdAt s.cols k b).drive = dAt s k b := by
      unfold bdAt dAt
      cases bedAt s.cols k b with
      | none => rfl
      | some x => rfl
    rw [e]
end

section
open Go.RowKit Go.Shelf Go.Deep
def spanE (s : Sd) (frm : Int) (l : List Int) : Int := if checkUN s frm l = 0 then (if dK (bedsU s frm l) (bedsU s frm l).length < 1 then 7 else 0) else checkUN s frm l
def spanP (s : Sd) (frm : Int) (l : List Int) (hi : Bool) : Int := if spanE s frm l = 0 then facE (bedsU s frm l) hi else 0
theorem spanV_is (s : Sd) (frm : Int) (l : List Int) : spanV s frm l = .tuple #[.agg #[vi (spanP s frm l false), vi (spanP s frm l true)], vi (spanE s frm l)] := by
  unfold spanV spanP spanE
  by_cases h1 : checkUN s frm l = 0
  · rw [if_pos h1, if_pos h1]
    by_cases h2 : dK (bedsU s frm l) (bedsU s frm l).length < 1
    · rw [if_pos h2, if_pos h2, if_neg (by decide), if_neg (by decide)]
    · rw [if_neg h2, if_neg h2, if_pos rfl, if_pos rfl]
  · rw [if_neg h1, if_neg h1, if_neg h1, if_neg h1]
/-- A slope for the program, and a surface, in memory. -/
def vSlo (d : Sd) (v : Value) (W : World) : Prop := ∃ s : Sm, v = smV s ∧ s.sd = d ∧ SmOk s W
theorem vSlo_st {d : Sd} : ∀ v W W', vSlo d v W → newer W W' → vSlo d v W' := fun _ _ _ ⟨s, h1, h2, h3⟩ hb => ⟨s, h1, h2, h3.next hb⟩
def vSuf (frm : Int) (l : List Int) (v : Value) (W : World) : Prop := ∃ u : Su, v = suV u ∧ u.frm = frm ∧ u.beds = l ∧ SuOk u W
theorem vSuf_st {frm : Int} {l : List Int} : ∀ v W W', vSuf frm l v W → newer W W' → vSuf frm l v W' := fun _ _ _ ⟨u, h1, h2, h3, h4⟩ hb => ⟨u, h1, h2, h3, h4.next hb⟩
theorem few_sd {s s2 : Sm} (h : s2.sd = s.sd) (f : SmFew s) : SmFew s2 := by
  have hc : s2.cs.map (fun x => x.beds) = s.cs.map (fun x => x.beds) := congrArg Sd.cols h
  refine ⟨by have := congrArg List.length hc; simp at this; rw [this]; exact f.cs, fun x hx => ?_⟩
  have hm : x.beds ∈ s.cs.map (fun x => x.beds) := by rw [← hc]; exact List.mem_map.2 ⟨x, hx, rfl⟩
  obtain ⟨y, hy, hxy⟩ := List.mem_map.1 hm
  rw [← hxy]
  exact f.bd y hy
end

section
open Go.RowKit Go.Shelf Go.Deep
theorem lawListO (l : List Int) (A : Option Addr) (cp : Nat) (w : World) (hl : l.length ≤ 1000) (hr : Row intL 1 w w.heap.size A l) : Calls Try.prog 29 #[.slice A l.length cp] w fun e w' => ∃ B c, e = .returned (.slice B l.length c) ∧ w'.ownsRow w.heap.size 3 1 (.slice B l.length c) l.length (l.flatMap intL) ∧ newer w w' := by
  have HR := Lib.hid (row_alloc hr (.cells #[] 3))
  obtain ⟨i0, hi0, hz0, hz1, hz2⟩ := info_parts info_int
  have HI := Lib.hid (And.intro hi0 (And.intro hz0 (And.intro hz1 hz2)))
  have HW := Lib.hid (Whole.made w 3 #[])
  clear hr hi0 hz0 hz1 hz2
  go_enter Try.func29, Try.ntmps29
  go_wp2_with (at_builtin; go_loud ((refine wpList_plain rfl fun K hK => wp_append_owncopy (enc := intL) (size := 1) w.heap.size (.tmp 3) (.tmp 4) 25 3 i0 (.int .i64 0) 8 Try.underlying25 HI.out.1 HI.out.2.1 HI.out.2.2.1 HI.out.2.2.2 rfl (by omega) (by omega) (fun _ => rfl) rfl w.heap.size rfl (Nat.le_refl _) HW.out l A cp rfl hl HR.out (by rw [World.size_alloc]; omega) fun B c w' hB hb hc => hK _ _ ?_); have HB := Lib.hid (And.intro hB (newer_trans (newer_allocH w (.cells #[] 3)) hb)); clear hB hb hc))
  go_ret
  exact ⟨_, _, rfl, HB.out.1, HB.out.2⟩
end

section
open Go.RowKit Go.Shelf Go.Deep
theorem info_l25 : (Try.prog.info? 25).map (fun i => (i.zero, i.size, i.bytes)) = some (some (.slice none 0 0), 1, 24) := by kernel_rfl
theorem info_l89 : (Try.prog.info? 89).map (fun i => (i.zero, i.size, i.bytes)) = some (some (.slice none 0 0), 1, 24) := by kernel_rfl
theorem own_old {w : World} {base size n c : Nat} {e : TypeId} {A : Option Addr} {a : Addr} {xs : List Value} (h : w.ownsRow base e size (.slice A n c) n xs) (ha : A = some a) : base ≤ a.block ∧ a.block < w.heap.size := by
  subst ha
  rcases h.2 with ⟨h0, _⟩ | ⟨g, cap, cur, hv, hb, hg, _⟩
  · cases h0
  · injection hv with e1
    injection e1 with e1
    rw [e1]
    exact ⟨hb, (Array.getElem?_eq_some_iff.1 hg).1⟩
def apL (xs : List Ln) : Prop := ∀ (p q : Nat) (x y : Ln), xs[p]? = some x → xs[q]? = some y → p ≠ q → x.a = y.a → x.a = none
theorem get_snoc {α : Type} {xs : List α} {y : α} {r : Nat} {t : α} (ht : (xs ++ [y])[r]? = some t) : (r < xs.length ∧ xs[r]? = some t) ∨ (r = xs.length ∧ t = y) := by
  by_cases hr : r < xs.length
  · rw [List.getElem?_append_left hr] at ht
    exact .inl ⟨hr, ht⟩
  · rw [List.getElem?_append_right (by omega)] at ht
    obtain ⟨h1, h2⟩ := List.getElem?_eq_some_iff.1 ht
    simp at h1
    refine .inr ⟨by omega, ?_⟩
    rw [← h2]
    simp
/-- A row of lists that is laid anew: what lies in memory behind so many lists. -/
structure LnQ (src : List Ln) (k : Nat) (xs : List Ln) (A : Option Addr) (c : Nat) (w W : World) : Prop where
  nw : newer w W
  own : W.ownsRow w.heap.size 25 1 (.slice A xs.length c) xs.length (xs.flatMap lnL)
  ls : ∀ x ∈ xs, W.ownsRow w.heap.size 3 1 (.slice x.a x.l.length x.c) x.l.length (x.l.flatMap intL)
  eq : xs.map (fun x => x.l) = (src.take k).map fun x => x.l
  ln : xs.length = k
  ap : apL xs
section
variable {src : List Ln} {k : Nat} {xs : List Ln} {A : Option Addr} {c : Nat} {w W W' : World}
theorem LnQ.next (h : LnQ src k xs A c w W) (hb : newer W W') : LnQ src k xs A c w W' := ⟨newer_trans h.nw hb, own_below h.own hb, fun x hx => own_below (h.ls x hx) hb, h.eq, h.ln, h.ap⟩
theorem LnQ.add (h : LnQ src k xs A c w W) {x y : Ln} (hx : src[k]? = some x) (hy : y.l = x.l) (hc : W.ownsRow w.heap.size 3 1 (.slice y.a y.l.length y.c) y.l.length (y.l.flatMap intL)) (hfar : ∀ z ∈ xs, z.a = y.a → z.a = none)
    {g2 c2 : Nat} (hown : W'.ownsRow w.heap.size 25 1 (.slice (some ⟨g2, 0, none⟩) (xs.length + 1) c2) (xs.length + 1) (xs.flatMap lnL ++ [lnV y])) (hw : (A = some ⟨g2, 0, none⟩ ∧ c2 = c ∧ W.grownBy W' (some g2)) ∨ (W.heap.size ≤ g2 ∧ W.grownBy W' none)) :
    LnQ src (k + 1) (xs ++ [y]) (some ⟨g2, 0, none⟩) c2 w W' := by
  have hgr : W.grownBy W' (Value.slice A xs.length c).ownBlock := by
    rcases hw with ⟨h1, _, h3⟩ | ⟨_, h3⟩
    · rw [h1]; exact h3
    · exact h3.but _
  have k4 : ∀ z : Ln, W.ownsRow w.heap.size 3 1 (.slice z.a z.l.length z.c) z.l.length (z.l.flatMap intL) → W'.ownsRow w.heap.size 3 1 (.slice z.a z.l.length z.c) z.l.length (z.l.flatMap intL) := fun z h2 => h2.kept hgr (own_apart h2 h.own (by decide))
  have hnw : newer w W' := by
    rcases hw with ⟨h1, _, h3⟩ | ⟨_, h3⟩
    · refine Below.trans h.nw (below_of_grown h3 (own_ge h.own g2 (by rw [h1]; rfl)) h.nw.size)
    · exact newer_trans h.nw (below_grown h3 (fun q e => by cases e) (Nat.le_refl _))
  refine ⟨hnw, ?_, fun z hz => ?_, ?_, by rw [List.length_append, h.ln]; rfl, fun p q u v hp hq hpq e => ?_⟩
  · rw [List.length_append, List.flatMap_append]
    exact hown
  · rcases List.mem_append.1 hz with hz | hz
    · exact k4 z (h.ls z hz)
    · obtain rfl : z = y := List.mem_singleton.1 hz
      exact k4 z hc
  · rw [List.map_append, h.eq, List.take_add_one, hx, List.map_append]
    congr 1
    simp [hy]
  · rcases get_snoc hp with ⟨a1, a2⟩ | ⟨a1, rfl⟩ <;> rcases get_snoc hq with ⟨b1, b2⟩ | ⟨b1, rfl⟩
    · exact h.ap p q u v a2 b2 hpq e
    · exact hfar u (List.mem_of_getElem? a2) e
    · rw [e]; exact hfar v (List.mem_of_getElem? b2) e.symm
    · omega
end
/-- A table whose rows and lists are one's own, and apart. -/
structure TbOwn (B : Nat) (xs : List Rw) (A : Option Addr) (c : Nat) (W : World) : Prop where
  own : W.ownsRow B 89 1 (.slice A xs.length c) xs.length (xs.flatMap rwL)
  rows : ∀ r ∈ xs, W.ownsRow B 25 1 (.slice r.a r.ls.length r.c) r.ls.length (r.ls.flatMap lnL)
  ls : ∀ r ∈ xs, ∀ x ∈ r.ls, W.ownsRow B 3 1 (.slice x.a x.l.length x.c) x.l.length (x.l.flatMap intL)
  ap : ∀ (p q i j : Nat) (r t : Rw) (x y : Ln), xs[p]? = some r → xs[q]? = some t → r.ls[i]? = some x → t.ls[j]? = some y → (p ≠ q ∨ i ≠ j) → x.a = y.a → x.a = none
theorem TbOwn.next {B : Nat} {xs : List Rw} {A : Option Addr} {c : Nat} {W W' : World} (h : TbOwn B xs A c W) (hb : newer W W') : TbOwn B xs A c W' := ⟨own_below h.own hb, fun r hr => own_below (h.rows r hr) hb, fun r hr x hx => own_below (h.ls r hr x hx) hb, h.ap⟩
theorem TbOwn.ok {B : Nat} {xs : List Rw} {A : Option Addr} {c : Nat} {W : World} (h : TbOwn B xs A c W) : TbOk xs A W := ⟨row_of_own (by omega) (fun _ => rfl) h.own, fun r hr => row_of_own (by omega) (fun _ => rfl) (h.rows r hr), fun r hr x hx => row_of_own (by omega) (fun _ => rfl) (h.ls r hr x hx)⟩
/-- A table that is laid anew: what lies in memory behind so many rows. -/
structure TbQ (src : List Rw) (k : Nat) (xs : List Rw) (A : Option Addr) (c : Nat) (w W : World) : Prop where
  nw : newer w W
  tb : TbOwn w.heap.size xs A c W
  eq : xs.map Rw.d = (src.take k).map Rw.d
  ln : xs.length = k
section
variable {src : List Rw} {k : Nat} {xs : List Rw} {A : Option Addr} {c : Nat} {w W W' : World}
theorem TbQ.next (h : TbQ src k xs A c w W) (hb : newer W W') : TbQ src k xs A c w W' := ⟨newer_trans h.nw hb, h.tb.next hb, h.eq, h.ln⟩
theorem TbQ.add (h : TbQ src k xs A c w W) {W1 : World} (hb1 : newer W W1) {x : Rw} {ys : List Ln} {A2 : Option Addr} {d : Nat} (hx : src[k]? = some x) (hq : LnQ x.ls x.ls.length ys A2 d W W1)
    {g2 c2 : Nat} (hown : W'.ownsRow w.heap.size 89 1 (.slice (some ⟨g2, 0, none⟩) (xs.length + 1) c2) (xs.length + 1) (xs.flatMap rwL ++ [.slice A2 ys.length d])) (hw : (A = some ⟨g2, 0, none⟩ ∧ c2 = c ∧ W1.grownBy W' (some g2)) ∨ (W1.heap.size ≤ g2 ∧ W1.grownBy W' none)) :
    TbQ src (k + 1) (xs ++ [⟨ys, A2, d⟩]) (some ⟨g2, 0, none⟩) c2 w W' := by
  have h1 := h.next hb1
  have hgr : W1.grownBy W' (Value.slice A xs.length c).ownBlock := by
    rcases hw with ⟨h1, _, h3⟩ | ⟨_, h3⟩
    · rw [h1]; exact h3
    · exact h3.but _
  have k3 : ∀ z : Rw, W1.ownsRow w.heap.size 25 1 (.slice z.a z.ls.length z.c) z.ls.length (z.ls.flatMap lnL) → W'.ownsRow w.heap.size 25 1 (.slice z.a z.ls.length z.c) z.ls.length (z.ls.flatMap lnL) := fun z h2 => h2.kept hgr (own_apart h2 h1.tb.own (by decide))
  have k4 : ∀ z : Ln, W1.ownsRow w.heap.size 3 1 (.slice z.a z.l.length z.c) z.l.length (z.l.flatMap intL) → W'.ownsRow w.heap.size 3 1 (.slice z.a z.l.length z.c) z.l.length (z.l.flatMap intL) := fun z h2 => h2.kept hgr (own_apart h2 h1.tb.own (by decide))
  have hnw : newer w W' := by
    rcases hw with ⟨h0, _, h3⟩ | ⟨_, h3⟩
    · refine Below.trans h1.nw (below_of_grown h3 (own_ge h1.tb.own g2 (by rw [h0]; rfl)) h1.nw.size)
    · exact newer_trans h1.nw (below_grown h3 (fun q e => by cases e) (Nat.le_refl _))
  have hold : ∀ r ∈ xs, ∀ z ∈ r.ls, ∀ y ∈ ys, z.a = y.a → z.a = none ∧ y.a = none := fun r hr z hz y hy e => by
    cases ha : z.a with
    | none => exact ⟨rfl, by rw [← e, ha]⟩
    | some a =>
      have g1 := (own_old (h.tb.ls r hr z hz) ha).2
      have g2 := (own_old (hq.ls y hy) (by rw [← e, ha])).1
      omega
  refine ⟨hnw, ⟨?_, fun z hz => ?_, fun z hz y hy => ?_, fun p q i j r t u v hp hq' hi hj hne e => ?_⟩, ?_, by rw [List.length_append, h.ln]; rfl⟩
  · rw [List.length_append, List.flatMap_append]
    exact hown
  · rcases List.mem_append.1 hz with hz | hz
    · exact k3 z (h1.tb.rows z hz)
    · obtain rfl := List.mem_singleton.1 hz
      exact k3 ⟨ys, A2, d⟩ (own_more hq.own h.nw.size)
  · rcases List.mem_append.1 hz with hz | hz
    · exact k4 y (h1.tb.ls z hz y hy)
    · obtain rfl := List.mem_singleton.1 hz
      exact k4 y (own_more (hq.ls y hy) h.nw.size)
  · rcases get_snoc hp with ⟨a1, a2⟩ | ⟨a1, rfl⟩ <;> rcases get_snoc hq' with ⟨b1, b2⟩ | ⟨b1, rfl⟩
    · exact h.tb.ap p q i j r t u v a2 b2 hi hj hne e
    · exact (hold r (List.mem_of_getElem? a2) u (List.mem_of_getElem? hi) v (List.mem_of_getElem? hj) e).1
    · exact (hold t (List.mem_of_getElem? b2) v (List.mem_of_getElem? hj) u (List.mem_of_getElem? hi) e.symm).2
    · exact hq.ap i j u v hi hj (by omega) e
  · rw [List.map_append, h.eq, List.take_add_one, hx, List.map_append]
    congr 1
    have e := hq.eq
    rw [List.take_length] at e
    simp [Rw.d, e]
end
set_option maxRecDepth 100000 in
set_option maxHeartbeats 1000000 in
theorem table_any (ts : List Rw) (A : Option Addr) (c : Nat) (w : World) (ht : TbOk ts A w) (tfe : TbFew ts) : Calls Try.prog 52 #[.slice A ts.length c] w fun e w' => ∃ (t2 : List Rw) (A9 : Option Addr) (c9 : Nat), e = .returned (.slice A9 t2.length c9) ∧ t2.map Rw.d = ts.map Rw.d ∧ TbOwn w.heap.size t2 A9 c9 w' ∧ newer w w' := by
  obtain ⟨i25, hj0, hy0, hy1, hy2⟩ := info_parts info_l25
  have HI := Lib.hid (And.intro hj0 (And.intro hy0 (And.intro hy1 hy2)))
  clear hj0 hy0 hy1 hy2
  obtain ⟨i89, hj0, hy0, hy1, hy2⟩ := info_parts info_l89
  have HI9 := Lib.hid (And.intro hj0 (And.intro hy0 (And.intro hy1 hy2)))
  clear hj0 hy0 hy1 hy2
  have HT := Lib.hid (And.intro ht tfe)
  have H0 := Lib.hid (newer_refl w)
  clear ht tfe
  go_enter Try.func52, Try.ntmps52
  go_wp2_with fail
  go_loopw [3, 4] (fun s3 s4 wr => ∃ (k : Nat) (xs : List Rw) (B : Option Addr) (d : Nat), s4 = vi k ∧ k ≤ ts.length ∧ s3 = .slice B xs.length d ∧ TbQ ts k xs B d w wr) (fun _ s4 _ => ts.length - (intOf s4).toNat)
  case atStart => exact ⟨0, [], none, 0, rfl, Nat.zero_le _, rfl, H0.out, ⟨⟨rfl, .inl ⟨rfl, rfl⟩⟩, fun r hr => by simp at hr, fun r hr => by simp at hr, fun p q i j r t x y hp => by simp at hp⟩, rfl, rfl⟩
  case round =>
    obtain ⟨k, xs, B, d, rfl, hk, rfl, hj⟩ := hrel
    have HJ := Lib.hid hj
    clear hj H0
    have hkb : (k : Int) ≤ 1000 := by have := HT.out.2.rows; omega
    by_cases hlt : k < ts.length
    case neg =>
      have hltI : ¬ ((k : Int) < ts.length) := by omega
      have HE : Hid (xs.map Rw.d = ts.map Rw.d) := Lib.hid (by
        have e := HJ.out.eq
        rw [List.take_of_length_le (by omega)] at e
        exact e)
      go_wp2_with fail
      go_ret
      exact ⟨xs, B, d, rfl, HE.out, HJ.out.tb, HJ.out.nw⟩
    case pos =>
    have hltI : (k : Int) < ts.length := by omega
    obtain ⟨x, hx⟩ := get_of_lt hlt
    obtain ⟨tb, to_, hA, _, hc0⟩ := rowRw (HT.out.1.next HJ.out.nw).rows hx
    subst hA
    have HX := Lib.hid (And.intro hx (HT.out.2.lss x (List.mem_of_getElem? hx)))
    have HXN := Lib.hid (HT.out.2.nums x (List.mem_of_getElem? hx))
    clear hx
    obtain ⟨wo, rfl⟩ : ∃ wo : World, wo = wr := ⟨_, rfl⟩
    go_wp2_with fail
    go_loopw [5, 6] (fun s5 s6 wr => ∃ (j : Nat) (ys : List Ln) (B2 : Option Addr) (d2 : Nat), s6 = vi j ∧ j ≤ x.ls.length ∧ s5 = .slice B2 ys.length d2 ∧ LnQ x.ls j ys B2 d2 wo wr) (fun _ s6 _ => x.ls.length - (intOf s6).toNat)
    case atStart => exact ⟨0, [], none, 0, rfl, Nat.zero_le _, rfl, newer_refl _, ⟨rfl, .inl ⟨rfl, rfl⟩⟩, fun r hr => by simp at hr, rfl, rfl, fun p q x y hp => by simp at hp⟩
    case round =>
      obtain ⟨j, ys, B2, d2, rfl, hjl, rfl, hq⟩ := hrel
      have HQ := Lib.hid hq
      have hjb : (j : Int) ≤ 1000 := by have := HX.out.2; omega
      have c0 := keep_cell hc0 hq.nw
      clear hq hc0
      have l0 : ((x.ls.length : Int) ≤ 1000) := by have := HX.out.2; omega
      by_cases hlt2 : j < x.ls.length
      case neg =>
        have hlt2I : ¬ ((j : Int) < x.ls.length) := by omega
        obtain rfl : j = x.ls.length := by omega
        have hb1 := newer_allocH wr (.cells #[.slice B2 ys.length d2] 89)
        have hHq : Hid (LnQ x.ls x.ls.length ys B2 d2 wo (wr.alloc (.cells #[.slice B2 ys.length d2] 89))) := Lib.hid (HQ.out.next hb1)
        have HCW : Hid ((wr.alloc (.cells #[.slice B2 ys.length d2] 89)).cell? ⟨wr.heap.size, 0, none⟩ = some (.slice B2 ys.length d2)) := Lib.hid ((Whole.made wr 89 #[.slice B2 ys.length d2]).at 0 rfl)
        have HO := Lib.hid (HJ.out.next hHq.out.nw)
        have HXL : Hid (xs.length ≤ 1000) := Lib.hid (by have := HJ.out.ln; have := HT.out.2.rows; omega)
        clear hb1
        go_wp2_with (at_builtin; go_loud ((refine wpList_plain rfl fun _ hK => wp_append_one (.tmp 33) (.tmp 35) 87 rfl w.heap.size 89 i89 (.slice none 0 0) 24 Try.underlying87 HI9.out.1 HI9.out.2.1 HI9.out.2.2.1 HI9.out.2.2.2 rfl B xs.length d (xs.flatMap rwL) rfl HO.out.tb.own ⟨wr.heap.size, 0, none⟩ 1 (.slice B2 ys.length d2) rfl HCW.out rfl (by have := HXL.out; unfold maxLen; omega) (by have := HXL.out; omega) HO.out.nw.size fun g2 c2 w5 hown hwh => hK _ _ ?_); have HE := Lib.hid (HJ.out.add hHq.out.nw HX.out.1 hHq.out hown hwh); clear hown hwh))
        refine ⟨⟨k + 1, xs ++ [⟨ys, B2, d2⟩], some ⟨g2, 0, none⟩, c2, by simp, by omega, by simp, HE.out⟩, ?_⟩
        simp [intOf]
        omega
      case pos =>
      have hlt2I : (j : Int) < x.ls.length := by omega
      obtain ⟨y, hy⟩ := get_of_lt hlt2
      have hok := HT.out.1.next (newer_trans HJ.out.nw HQ.out.nw)
      have hmx := List.mem_of_getElem? HX.out.1
      have hmy := List.mem_of_getElem? hy
      obtain ⟨lb, lo_, hlA, _, c1⟩ := rowLn (hok.lss x hmx) hy
      have HL := Lib.hid (lawListO y.l y.a y.c wr (HXN.out y hmy) (hok.nums x hmx y hmy))
      have HY := Lib.hid hy
      rw [hlA] at c0
      clear hok hmx hmy hlA hy
      go_wp2_with fail
      refine (HL.out).mono ?_
      rintro e wl ⟨B3, d3, rfl, ho3, hb3⟩
      have hb1 := newer_allocH wl (.cells #[.slice B3 y.l.length d3] 25)
      have HQ2 : Hid (LnQ x.ls j ys B2 d2 wo (wl.alloc (.cells #[.slice B3 y.l.length d3] 25))) := Lib.hid (HQ.out.next (newer_trans hb3 hb1))
      have HCW : Hid ((wl.alloc (.cells #[.slice B3 y.l.length d3] 25)).cell? ⟨wl.heap.size, 0, none⟩ = some (.slice B3 y.l.length d3)) := Lib.hid ((Whole.made wl 25 #[.slice B3 y.l.length d3]).at 0 rfl)
      have HADD := Lib.hid (fun g2 c2 w5 => HQ2.out.add (W' := w5) HY.out (y := ⟨y.l, B3, d3⟩) rfl (own_more (own_below ho3 hb1) HQ.out.nw.size) (fun z hz e => by
        cases ha : z.a with
        | none => rfl
        | some a =>
          have g1 := (own_old (HQ.out.ls z hz) ha).2
          have g2 := (own_old ho3 (e.symm.trans ha)).1
          omega) (g2 := g2) (c2 := c2))
      have HYL : Hid (ys.length ≤ 1000) := Lib.hid (by have := HQ.out.ln; have := HX.out.2; omega)
      clear hb1 hb3 ho3 c0 c1 HL
      go_wp2_with (at_builtin; go_loud ((refine wpList_plain rfl fun _ hK => wp_append_one (.tmp 22) (.tmp 31) 89 rfl wo.heap.size 25 i25 (.slice none 0 0) 24 Try.underlying89 HI.out.1 HI.out.2.1 HI.out.2.2.1 HI.out.2.2.2 rfl B2 ys.length d2 (ys.flatMap lnL) rfl HQ2.out.own ⟨wl.heap.size, 0, none⟩ 1 (.slice B3 y.l.length d3) rfl HCW.out rfl (by have := HYL.out; unfold maxLen; omega) (by have := HYL.out; omega) HQ2.out.nw.size fun g2 c2 w5 hown hwh => hK _ _ ?_); have HE := Lib.hid (HADD.out g2 c2 w5 hown hwh); clear hown hwh))
      refine ⟨⟨j + 1, ys ++ [⟨y.l, B3, d3⟩], some ⟨g2, 0, none⟩, c2, by simp, by omega, by simp, HE.out⟩, ?_⟩
      simp [intOf]
      omega
end

section
open Go.RowKit Go.Shelf Go.Deep
theorem get_set {α : Type} {xs : List α} {r p : Nat} {x' t : α} (h : (xs.set r x')[p]? = some t) : (p = r ∧ t = x') ∨ (p ≠ r ∧ xs[p]? = some t) := by
  rw [List.getElem?_set] at h
  by_cases e : r = p
  · rw [if_pos e] at h
    split at h
    · injection h with h
      exact .inl ⟨e.symm, h.symm⟩
    · cases h
  · rw [if_neg e] at h
    exact .inr ⟨fun k => e k.symm, h⟩
theorem own_at {w : World} {base size n c : Nat} {e : TypeId} {A : Option Addr} {xs : List Value} (h : w.ownsRow base e size (.slice A n c) n xs) : A = none ∨ ∃ g, A = some ⟨g, 0, none⟩ := by
  rcases h.2 with ⟨h0, _⟩ | ⟨g, cap, cur, hv, _⟩
  · injection h0 with h1
    exact .inl h1
  · injection hv with h1
    exact .inr ⟨g, h1⟩
theorem own_far {w : World} {base size n c base2 size2 n2 c2 : Nat} {e e2 : TypeId} {A A2 : Option Addr} {xs xs2 : List Value} (h : w.ownsRow base e size (.slice A n c) n xs) (h2 : w.ownsRow base2 e2 size2 (.slice A2 n2 c2) n2 xs2) (ha : A = A2 → A = none) : (Value.slice A n c).ownBlock = none ∨ (Value.slice A n c).ownBlock ≠ (Value.slice A2 n2 c2).ownBlock := by
  rcases own_at h with rfl | ⟨g, rfl⟩
  · exact .inl rfl
  · refine .inr fun e => ?_
    rcases own_at h2 with rfl | ⟨g2, rfl⟩
    · simp [Value.ownBlock] at e
    · have e3 : g = g2 := by simpa [Value.ownBlock] using e
      subst e3
      cases ha rfl
theorem own_setFar {w : World} {base size n c g i : Nat} {e : TypeId} {A A2 : Option Addr} {n2 c2 : Nat} {xs : List Value} (h : w.ownsRow base e size (.slice A n c) n xs) (hf : (Value.slice A n c).ownBlock = none ∨ (Value.slice A n c).ownBlock ≠ (Value.slice A2 n2 c2).ownBlock) (h2 : A2 = some ⟨g, 0, none⟩) (u : Value) : (w.setCell ⟨g, i, none⟩ u).ownsRow base e size (.slice A n c) n xs := by
  refine own_set h ?_ u
  subst h2
  rcases hf with h0 | h0
  · rw [h0]; simp
  · exact h0
theorem flat_lnL (ls : List Ln) : ls.flatMap lnL = ls.map fun x => lnV x := by
  induction ls with
  | nil => rfl
  | cons y t ih => rw [List.flatMap_cons, ih]; rfl
/-- A table of one's own, its rows apart. -/
structure TbP (xs : List Rw) (A : Option Addr) (c : Nat) (w W : World) : Prop where
  nw : newer w W
  tb : TbOwn w.heap.size xs A c W
  apr : ∀ (p q : Nat) (r t : Rw), xs[p]? = some r → xs[q]? = some t → p ≠ q → r.a = t.a → r.a = none
section
variable {xs : List Rw} {A : Option Addr} {c : Nat} {w W W' W1 : World}
theorem TbP.next (h : TbP xs A c w W) (hb : newer W W') : TbP xs A c w W' := ⟨newer_trans h.nw hb, h.tb.next hb, h.apr⟩
theorem TbP.row (h : TbP xs A c w W) (hb1 : newer W W1) {ys : List Ln} {A2 : Option Addr} {d : Nat} (hq : LnQ ys ys.length ys A2 d W W1)
    {g2 c2 : Nat} (hown : W'.ownsRow w.heap.size 89 1 (.slice (some ⟨g2, 0, none⟩) (xs.length + 1) c2) (xs.length + 1) (xs.flatMap rwL ++ [.slice A2 ys.length d])) (hw : (A = some ⟨g2, 0, none⟩ ∧ c2 = c ∧ W1.grownBy W' (some g2)) ∨ (W1.heap.size ≤ g2 ∧ W1.grownBy W' none)) :
    TbP (xs ++ [⟨ys, A2, d⟩]) (some ⟨g2, 0, none⟩) c2 w W' := by
  have h0 : TbQ (xs ++ [⟨ys, A2, d⟩]) xs.length xs A c w W := ⟨h.nw, h.tb, by rw [List.take_left], rfl⟩
  have h1 := h0.add hb1 (x := ⟨ys, A2, d⟩) (by simp) hq hown hw
  refine ⟨h1.nw, h1.tb, fun p q r t hp hq' hpq e => ?_⟩
  have hold : ∀ r ∈ xs, r.a = A2 → r.a = none ∧ A2 = none := fun r hr e => by
    cases ha : r.a with
    | none => exact ⟨rfl, by rw [← e, ha]⟩
    | some a =>
      have g1 := (own_old (h.tb.rows r hr) ha).2
      have g2 := (own_old hq.own (by rw [← e, ha])).1
      omega
  rcases get_snoc hp with ⟨a1, a2⟩ | ⟨a1, rfl⟩ <;> rcases get_snoc hq' with ⟨b1, b2⟩ | ⟨b1, rfl⟩
  · exact h.apr p q r t a2 b2 hpq e
  · exact (hold r (List.mem_of_getElem? a2) e).1
  · exact (hold t (List.mem_of_getElem? b2) e.symm).2
  · omega
/-- One number more, behind the append. -/
theorem TbP.app (h : TbP xs A c w W) {r k : Nat} {x : Rw} {y : Ln} (hx : xs[r]? = some x) (hy : x.ls[k]? = some y) {g2 c2 : Nat} (hw : (y.a = some ⟨g2, 0, none⟩ ∧ c2 = y.c ∧ W.grownBy W' (some g2)) ∨ (W.heap.size ≤ g2 ∧ W.grownBy W' none)) :
    newer w W' ∧ W'.ownsRow w.heap.size 89 1 (.slice A xs.length c) xs.length (xs.flatMap rwL) ∧ (∀ z ∈ xs, W'.ownsRow w.heap.size 25 1 (.slice z.a z.ls.length z.c) z.ls.length (z.ls.flatMap lnL)) ∧
    (∀ (p i : Nat) (t : Rw) (z : Ln), xs[p]? = some t → t.ls[i]? = some z → (p ≠ r ∨ i ≠ k) → W'.ownsRow w.heap.size 3 1 (.slice z.a z.l.length z.c) z.l.length (z.l.flatMap intL)) := by
  have hyo := h.tb.ls x (List.mem_of_getElem? hx) y (List.mem_of_getElem? hy)
  have hgr : W.grownBy W' (Value.slice y.a y.l.length y.c).ownBlock := by
    rcases hw with ⟨h1, _, h3⟩ | ⟨_, h3⟩
    · rw [h1]; exact h3
    · exact h3.but _
  have hnw : newer w W' := by
    rcases hw with ⟨h1, _, h3⟩ | ⟨_, h3⟩
    · refine Below.trans h.nw (below_of_grown h3 (own_ge hyo g2 (by rw [h1]; rfl)) h.nw.size)
    · exact newer_trans h.nw (below_grown h3 (fun q e => by cases e) (Nat.le_refl _))
  refine ⟨hnw, h.tb.own.kept hgr (own_apart h.tb.own hyo (by decide)), fun z hz => (h.tb.rows z hz).kept hgr (own_apart (h.tb.rows z hz) hyo (by decide)), fun p i t z hp hi hne => ?_⟩
  have hz := h.tb.ls t (List.mem_of_getElem? hp) z (List.mem_of_getElem? hi)
  exact hz.kept hgr (own_far hz hyo fun e => h.tb.ap p r i k t x z y hp hx hi hy hne e)
/-- One number more, behind the store. -/
theorem TbP.put (h : TbP xs A c w W) {r k : Nat} {x : Rw} {y : Ln} (hx : xs[r]? = some x) (hy : x.ls[k]? = some y) {v : Int} {g g2 c2 : Nat} (hg : x.a = some ⟨g, 0, none⟩)
    (hown : W'.ownsRow w.heap.size 3 1 (.slice (some ⟨g2, 0, none⟩) (y.l.length + 1) c2) (y.l.length + 1) (y.l.flatMap intL ++ [vi v])) (hw : (y.a = some ⟨g2, 0, none⟩ ∧ c2 = y.c ∧ W.grownBy W' (some g2)) ∨ (W.heap.size ≤ g2 ∧ W.grownBy W' none)) :
    TbP (xs.set r ⟨x.ls.set k ⟨y.l ++ [v], some ⟨g2, 0, none⟩, c2⟩, x.a, x.c⟩) A c w (W'.setCell ⟨g, k, none⟩ (.slice (some ⟨g2, 0, none⟩) (y.l.length + 1) c2)) := by
  obtain ⟨q1, q2, q3, q4⟩ := h.app hx hy hw
  have hrl := (List.getElem?_eq_some_iff.1 hx).1
  have hxo := q3 x (List.mem_of_getElem? hx)
  have hxo' := h.tb.rows x (List.mem_of_getElem? hx)
  have hyo := h.tb.ls x (List.mem_of_getElem? hx) y (List.mem_of_getElem? hy)
  have hge : w.heap.size ≤ g := (own_old hxo hg).1
  have hrw : (xs.set r ⟨x.ls.set k ⟨y.l ++ [v], some ⟨g2, 0, none⟩, c2⟩, x.a, x.c⟩).flatMap rwL = xs.flatMap rwL := by
    rw [List.flatMap_def, List.flatMap_def, List.map_set]
    congr 1
    refine List.ext_getElem? fun q => ?_
    rw [List.getElem?_set]
    by_cases hq : r = q
    · subst hq
      rw [if_pos rfl, List.length_map, if_pos hrl, List.getElem?_map, hx]
      simp [rwL]
    · rw [if_neg hq]
  have hnew : ∀ (p i : Nat) (t : Rw) (z : Ln), xs[p]? = some t → t.ls[i]? = some z → (p ≠ r ∨ i ≠ k) → z.a = some ⟨g2, 0, none⟩ → False := fun p i t z hp hi hne e => by
    have hz := h.tb.ls t (List.mem_of_getElem? hp) z (List.mem_of_getElem? hi)
    rcases hw with ⟨h1, _⟩ | ⟨h1, _⟩
    · have := h.tb.ap p r i k t x z y hp hx hi hy hne (e.trans h1.symm)
      rw [e] at this
      cases this
    · have := (own_old hz e).2
      have h3 : g2 < W.heap.size := this
      omega
  -- the lists of the new table
  have hlist : ∀ (p i : Nat) (t : Rw) (z : Ln), (xs.set r ⟨x.ls.set k ⟨y.l ++ [v], some ⟨g2, 0, none⟩, c2⟩, x.a, x.c⟩)[p]? = some t → t.ls[i]? = some z → (p = r ∧ i = k ∧ z = ⟨y.l ++ [v], some ⟨g2, 0, none⟩, c2⟩) ∨ ((p ≠ r ∨ i ≠ k) ∧ ∃ t0, xs[p]? = some t0 ∧ t0.ls[i]? = some z) := fun p i t z hp hi => by
    rcases get_set hp with ⟨e1, e2⟩ | ⟨e1, e2⟩
    · subst e1
      rw [e2] at hi
      rcases get_set hi with ⟨e3, e4⟩ | ⟨e3, e4⟩
      · exact .inl ⟨rfl, e3, e4⟩
      · exact .inr ⟨.inr e3, x, hx, e4⟩
    · exact .inr ⟨.inl e1, t, e2, hi⟩
  refine ⟨q1.setCell (p := ⟨g, k, none⟩) hge _, ⟨?_, fun z hz => ?_, fun z hz u hu => ?_, fun p q i j s t u v' hp hq hi hj hne e => ?_⟩, fun p q s t hp hq hne e => ?_⟩
  · rw [hrw, List.length_set]
    exact own_setFar q2 (own_apart q2 hxo (by decide)) hg _
  · obtain ⟨p, hp⟩ := List.mem_iff_getElem?.1 hz
    rcases get_set hp with ⟨e1, e2⟩ | ⟨e1, e2⟩
    · subst e2
      have h5 := hxo
      rw [hg] at h5
      have h6 := own_setAt (off := k) (u := .slice (some ⟨g2, 0, none⟩) (y.l.length + 1) c2) h5
      simp only [List.length_set]
      rw [hg, flat_lnL, List.map_set, ← flat_lnL, show lnV ⟨y.l ++ [v], some ⟨g2, 0, none⟩, c2⟩ = .slice (some ⟨g2, 0, none⟩) (y.l.length + 1) c2 by simp [lnV]]
      exact h6
    · exact own_setFar (q3 z (List.mem_of_getElem? e2)) (own_far (q3 z (List.mem_of_getElem? e2)) hxo fun e => h.apr p r z x e2 hx e1 e) hg _
  · obtain ⟨p, hp⟩ := List.mem_iff_getElem?.1 hz
    obtain ⟨i, hi⟩ := List.mem_iff_getElem?.1 hu
    rcases hlist p i z u hp hi with ⟨_, _, e3⟩ | ⟨e1, t0, e2, e3⟩
    · subst e3
      have h5 : W'.ownsRow w.heap.size 3 1 (.slice (some ⟨g2, 0, none⟩) (y.l ++ [v]).length c2) (y.l ++ [v]).length ((y.l ++ [v]).flatMap intL) := by
        rw [List.length_append, List.flatMap_append]
        exact hown
      exact own_setFar h5 (own_apart h5 hxo (by decide)) hg _
    · have h5 := q4 p i t0 u e2 e3 e1
      exact own_setFar h5 (own_apart h5 hxo (by decide)) hg _
  · rcases hlist p i s u hp hi with ⟨a1, a2, a3⟩ | ⟨a1, t0, a2, a3⟩ <;> rcases hlist q j t v' hq hj with ⟨b1, b2, b3⟩ | ⟨b1, t1, b2, b3⟩
    · omega
    · subst a3
      exact absurd e.symm (fun e => hnew q j t1 v' b2 b3 b1 e)
    · subst b3
      exact absurd e (fun e => hnew p i t0 u a2 a3 a1 e)
    · exact h.tb.ap p q i j t0 t1 u v' a2 b2 a3 b3 hne e
  · rcases get_set hp with ⟨a1, a2⟩ | ⟨a1, a2⟩ <;> rcases get_set hq with ⟨b1, b2⟩ | ⟨b1, b2⟩
    · omega
    · subst a2 a1
      exact h.apr p q x t hx b2 hne e
    · subst b2 b1
      exact h.apr p q s x a2 hx hne e
    · exact h.apr p q s t a2 b2 hne e
end
end

section
open Go.RowKit Go.Shelf Go.Deep
abbrev farN : Int := 100000000000000
/-- The table that proves a factor, as data. -/
def tabD (s : Sd) (f : Int) : List (List (List Int)) := (List.range s.K).map fun r => (List.range s.cols.length).map fun k => (List.range s.n).map fun b => tabT (cS s f) bigN farN s.n s.K r k b
/-- How far a table has come. -/
structure FD (T : Nat → Nat → Nat → Int) (cols : Nat) (xs : List Rw) (len : Nat) (cnt : Nat → Nat → Nat) : Prop where
  ln : xs.length = len
  rw_ : ∀ (r : Nat) (x : Rw), xs[r]? = some x → x.ls.length = cols ∧ (∃ g, x.a = some ⟨g, 0, none⟩) ∧ ∀ (i : Nat) (y : Ln), x.ls[i]? = some y → y.l = (List.range (cnt r i)).map (T r i)
def cntP (n k b N : Nat) (r i : Nat) : Nat := if r < n ∨ (r = n ∧ i < k) then N else if r = n ∧ i = k then b else 0
section
variable {T : Nat → Nat → Nat → Int} {cols len : Nat} {xs : List Rw} {cnt cnt' : Nat → Nat → Nat}
theorem FD.congr (h : FD T cols xs len cnt) (he : ∀ r i, r < len → i < cols → cnt r i = cnt' r i) : FD T cols xs len cnt' := ⟨h.ln, fun r x hx => by
  obtain ⟨h1, h2, h3⟩ := h.rw_ r x hx
  refine ⟨h1, h2, fun i y hy => ?_⟩
  rw [h3 i y hy, he r i (by have := (List.getElem?_eq_some_iff.1 hx).1; have := h.ln; omega) (by have := (List.getElem?_eq_some_iff.1 hy).1; omega)]⟩
theorem FD.row {N : Nat} (h : FD T cols xs len (fun _ _ => N)) (g d : Nat) : FD T cols (xs ++ [⟨List.replicate cols ⟨[], none, 0⟩, some ⟨g, 0, none⟩, d⟩]) (len + 1) (cntP len 0 0 N) := ⟨by rw [List.length_append, h.ln]; rfl, fun r x hx => by
  rcases get_snoc hx with ⟨a1, a2⟩ | ⟨a1, rfl⟩
  · obtain ⟨h1, h2, h3⟩ := h.rw_ r x a2
    refine ⟨h1, h2, fun i y hy => ?_⟩
    rw [h3 i y hy]
    unfold cntP
    rw [if_pos (by have := h.ln; omega)]
  · refine ⟨by simp, ⟨g, rfl⟩, fun i y hy => ?_⟩
    have h1 : y = ⟨[], none, 0⟩ := by
      have := List.mem_of_getElem? hy
      exact List.eq_of_mem_replicate this
    subst h1
    unfold cntP
    rw [if_neg (by have := h.ln; omega)]
    have e : (if r = len ∧ i = 0 then 0 else 0) = 0 := by split <;> rfl
    rw [e]
    rfl⟩
theorem FD.put {n k b N : Nat} (h : FD T cols xs (n + 1) (cntP n k b N)) {x : Rw} {y : Ln} (hx : xs[n]? = some x) (hy : x.ls[k]? = some y) (hk : k < cols) (a : Option Addr) (c : Nat) : FD T cols (xs.set n ⟨x.ls.set k ⟨y.l ++ [T n k b], a, c⟩, x.a, x.c⟩) (n + 1) (cntP n k (b + 1) N) := ⟨by rw [List.length_set, h.ln], fun r t ht => by
  obtain ⟨h1, h2, h3⟩ := h.rw_ n x hx
  rcases get_set ht with ⟨a1, a2⟩ | ⟨a1, a2⟩
  · subst a1
    subst a2
    refine ⟨by simpa using h1, h2, fun i z hz => ?_⟩
    rcases get_set hz with ⟨b1, b2⟩ | ⟨b1, b2⟩
    · subst b1
      subst b2
      show y.l ++ [T r i b] = _
      rw [h3 i y hy]
      unfold cntP
      rw [if_neg (by omega), if_pos ⟨rfl, rfl⟩, if_neg (by omega), if_pos ⟨rfl, rfl⟩, List.range_succ, List.map_append]
      rfl
    · rw [h3 i z b2]
      have e : cntP r k b N r i = cntP r k (b + 1) N r i := by unfold cntP; simp [b1]
      rw [e]
  · obtain ⟨g1, g2, g3⟩ := h.rw_ r t a2
    refine ⟨g1, g2, fun i z hz => ?_⟩
    rw [g3 i z hz]
    have e : cntP n k b N r i = cntP n k (b + 1) N r i := by unfold cntP; simp [a1]
    rw [e]⟩
theorem FD.done {N : Nat} (h : FD T cols xs len (fun _ _ => N)) : xs.map Rw.d = (List.range len).map fun r => (List.range cols).map fun k => (List.range N).map (T r k) := by
  refine List.ext_getElem? fun r => ?_
  rw [List.getElem?_map, List.getElem?_map]
  by_cases hr : r < len
  · obtain ⟨x, hx⟩ := get_of_lt (l := xs) (k := r) (by rw [h.ln]; exact hr)
    obtain ⟨h1, _, h3⟩ := h.rw_ r x hx
    rw [hx, List.getElem?_range hr]
    simp only [Option.map_some]
    congr 1
    refine List.ext_getElem? fun i => ?_
    unfold Rw.d
    rw [List.getElem?_map, List.getElem?_map]
    by_cases hi : i < cols
    · obtain ⟨y, hy⟩ := get_of_lt (l := x.ls) (k := i) (by omega)
      rw [hy, List.getElem?_range hi]
      simp only [Option.map_some]
      rw [h3 i y hy]
    · rw [List.getElem?_eq_none (by omega), List.getElem?_eq_none (by simp; omega)]
      rfl
  · rw [List.getElem?_eq_none (by rw [h.ln]; omega), List.getElem?_eq_none (by simp; omega)]
    rfl
end
/-- A number of the table, by those behind it. -/
def befN (c : Nat → Nat → Int) (big far : Int) (n K : Nat) (r k b : Nat) : Int := if 0 < k ∧ 0 < r then behindN big n (tabT c big far n K (r - 1) (k - 1)) b else if r = 0 then 0 else far
def befM (c : Nat → Nat → Int) (big far : Int) (n K : Nat) (r k b : Nat) : Int := if 0 < k ∧ r = K - 1 then mnI (befN c big far n K r k b) (behindN big n (tabT c big far n K r (k - 1)) b) else befN c big far n K r k b
theorem tab_zero {c : Nat → Nat → Int} {big far : Int} {n K : Nat} (r b : Nat) : tabT c big far n K r 0 b = c 0 b + (if r = 0 then 0 else far) := by cases r <;> rfl
theorem tab_succ {c : Nat → Nat → Int} {big far : Int} {n K : Nat} (r k b : Nat) : tabT c big far n K r (k + 1) b = c (k + 1) b + (if r = K - 1 then mnI (if r = 0 then 0 else behindN big n (tabT c big far n K (r - 1) k) b) (behindN big n (tabT c big far n K r k) b) else (if r = 0 then 0 else behindN big n (tabT c big far n K (r - 1) k) b)) := by
  cases r with
  | zero => rfl
  | succ r => rfl
theorem tab_is {c : Nat → Nat → Int} {big far : Int} {n K : Nat} (r k b : Nat) : tabT c big far n K r k b = c k b + befM c big far n K r k b := by
  unfold befM befN
  cases k with
  | zero => rw [tab_zero]; simp
  | succ k =>
    rw [tab_succ]
    simp only [Nat.zero_lt_succ, true_and, Nat.add_sub_cancel, Nat.pos_iff_ne_zero, ne_eq]
    by_cases hr : r = 0
    · simp [hr]
    · simp [hr]
end

section
open Go.RowKit Go.Shelf Go.Deep
/-- What the rounds hold. -/
structure PfJ (s : Sm) (f : Int) (w : World) (lb : Nat) (T : Nat → Nat → Nat → Int) (xs : List Rw) (A : Option Addr) (c len : Nat) (cnt : Nat → Nat → Nat) (W : World) : Prop where
  tp : TbP xs A c w W
  sx : Whole W w.heap.size 37 (smC s)
  lx : Whole W lb 115 (lkC s f (some false))
  fd : FD T s.cs.length xs len cnt
theorem PfJ.next {s : Sm} {f : Int} {w W W' : World} {lb : Nat} {T : Nat → Nat → Nat → Int} {xs : List Rw} {A : Option Addr} {c len : Nat} {cnt : Nat → Nat → Nat} (h : PfJ s f w lb T xs A c len cnt W) (hb : newer W W') : PfJ s f w lb T xs A c len cnt W' := ⟨h.tp.next hb, h.sx.below hb h.sx.lt, h.lx.below hb h.lx.lt, h.fd⟩
/-- One number more. -/
theorem PfJ.put {s : Sm} {f : Int} {w W W' : World} {lb : Nat} {T : Nat → Nat → Nat → Int} {xs : List Rw} {A : Option Addr} {c r k b n : Nat} (h : PfJ s f w lb T xs A c (r + 1) (cntP r k b n) W) {x : Rw} {y : Ln} (hx : xs[r]? = some x) (hy : x.ls[k]? = some y) (hk : k < s.cs.length) {g g2 c2 : Nat} (hg : x.a = some ⟨g, 0, none⟩)
    (hown : W'.ownsRow w.heap.size 3 1 (.slice (some ⟨g2, 0, none⟩) (y.l.length + 1) c2) (y.l.length + 1) (y.l.flatMap intL ++ [vi (T r k b)])) (hw : (y.a = some ⟨g2, 0, none⟩ ∧ c2 = y.c ∧ W.grownBy W' (some g2)) ∨ (W.heap.size ≤ g2 ∧ W.grownBy W' none)) :
    PfJ s f w lb T (xs.set r ⟨x.ls.set k ⟨y.l ++ [T r k b], some ⟨g2, 0, none⟩, c2⟩, x.a, x.c⟩) A c (r + 1) (cntP r k (b + 1) n) (W'.setCell ⟨g, k, none⟩ (.slice (some ⟨g2, 0, none⟩) (y.l.length + 1) c2)) := by
  have hyo := h.tp.tb.ls x (List.mem_of_getElem? hx) y (List.mem_of_getElem? hy)
  have hxo := h.tp.tb.rows x (List.mem_of_getElem? hx)
  have hgr : W.grownBy W' (Value.slice y.a y.l.length y.c).ownBlock := by
    rcases hw with ⟨h1, _, h3⟩ | ⟨_, h3⟩
    · rw [h1]; exact h3
    · exact h3.but _
  rw [hg] at hxo
  have n1 : w.heap.size ≠ g := fun e => own_ne hxo h.sx (by decide) (by rw [e]; rfl)
  have n2 : lb ≠ g := fun e => own_ne hxo h.lx (by decide) (by rw [e]; rfl)
  exact ⟨h.tp.put hx hy hg hown hw, (h.sx.grown hgr (fun e => own_ne hyo h.sx (by decide) e.symm)).far (p := ⟨g, k, none⟩) n1 _, (h.lx.grown hgr (fun e => own_ne hyo h.lx (by decide) e.symm)).far (p := ⟨g, k, none⟩) n2 _, h.fd.put hx hy hk _ _⟩
/-- The place of the number that comes next, and what an append behind it does. -/
theorem PfJ.num {s : Sm} {f : Int} {w W : World} {lb : Nat} {T : Nat → Nat → Nat → Int} {us : List Rw} {c r k b n g2 : Nat} (h : PfJ s f w lb T us (some ⟨g2, 0, none⟩) c (r + 1) (cntP r k b n) W) (hk : k < s.cs.length) :
    ∃ (y : Ln) (g xc : Nat), W.cell? ⟨g2, r, none⟩ = some (.slice (some ⟨g, 0, none⟩) s.cs.length xc) ∧ W.cell? ⟨g, k, none⟩ = some (.slice y.a b y.c) ∧
      W.ownsRow w.heap.size 3 1 (.slice y.a b y.c) b (y.l.map vi) ∧ some g2 ≠ (Value.slice y.a b y.c).ownBlock ∧ some g ≠ (Value.slice y.a b y.c).ownBlock ∧ some lb ≠ (Value.slice y.a b y.c).ownBlock ∧ (∀ q, (Value.slice y.a b y.c).ownBlock = some q → w.heap.size ≤ q ∧ q < W.heap.size) ∧
      (∀ g3 c3 W', Onto1 y.a y.c g3 c3 W W' → W'.ownsRow w.heap.size 3 1 (.slice (some ⟨g3, 0, none⟩) (b + 1) c3) (b + 1) (y.l.map vi ++ [vi (T r k b)]) →
        W'.cell? ⟨g, k, none⟩ = some (.slice y.a b y.c) ∧ W'.frozen? ⟨g, k, none⟩ = false ∧ ∃ us2, PfJ s f w lb T us2 (some ⟨g2, 0, none⟩) c (r + 1) (cntP r k (b + 1) n) (W'.setCell ⟨g, k, none⟩ (.slice (some ⟨g3, 0, none⟩) (b + 1) c3))) := by
  obtain ⟨x, hx⟩ := get_of_lt (l := us) (k := r) (by rw [h.fd.ln]; omega)
  obtain ⟨h1, ⟨g, hg⟩, h3⟩ := h.fd.rw_ r x hx
  obtain ⟨y, hy⟩ := get_of_lt (l := x.ls) (k := k) (by omega)
  have hyl := h3 k y hy
  have hcn : cntP r k b n r k = b := by unfold cntP; rw [if_neg (by omega), if_pos ⟨rfl, rfl⟩]
  rw [hcn] at hyl
  have hlb : y.l.length = b := by rw [hyl]; simp
  have hmx := List.mem_of_getElem? hx
  have hyo := h.tp.tb.ls x hmx y (List.mem_of_getElem? hy)
  have hxo := h.tp.tb.rows x hmx
  have hto := h.tp.tb.ok
  obtain ⟨p1, o1, e1, c1⟩ := rwAll hto.rows (ne_nil_of_get hx)
  injection e1 with e1
  injection e1 with e1 e1'
  subst e1
  subst e1'
  obtain ⟨p2, o2, e2, c3⟩ := lnAll (hto.lss x hmx) (ne_nil_of_get hy)
  rw [hg] at e2
  injection e2 with e2
  injection e2 with e2 e2'
  subst e2
  subst e2'
  have cx := c1 r x hx W (newer_refl W)
  rw [hg, h1, Nat.zero_add] at cx
  have cy := c3 k y hy W (newer_refl W)
  rw [hlb, Nat.zero_add] at cy
  have hyo2 := hyo
  rw [hlb, ints_flat] at hyo2
  have nx : ∀ (z : Option Addr) (q m d : Nat) (e : TypeId) (xs : List Value), W.ownsRow w.heap.size e 1 (.slice z m d) m xs → z = some ⟨q, 0, none⟩ → e ≠ 3 → some q ≠ (Value.slice y.a b y.c).ownBlock := fun z q m d e xs ho hz hne => by
    rcases own_apart ho hyo2 hne with h5 | h5
    · rw [hz] at h5
      simp [Value.ownBlock] at h5
    · rw [hz] at h5
      simpa [Value.ownBlock] using h5
  refine ⟨y, g, x.c, cx, cy, hyo2, nx _ _ _ _ _ _ h.tp.tb.own rfl (by decide), nx _ _ _ _ _ _ hxo hg (by decide), (own_ne hyo2 h.lx (by decide)).symm, fun q hq => ⟨own_ge hyo2 q hq, own_lt hyo2 q hq⟩, fun g3 c3 W' hon hown => ?_⟩
  have hgr := hon.grown (n := b)
  obtain ⟨q1, q2, q3, q4⟩ := h.tp.app hx hy (W' := W') (g2 := g3) (c2 := c3) hon
  have hxo' := q3 x hmx
  rw [hg] at hxo'
  obtain ⟨cs, hcs⟩ := own_cells hxo'
  refine ⟨hgr.cell cy (nx _ _ _ _ _ _ hxo hg (by decide)), hcs.free k, ?_⟩
  have hput := h.put hx hy hk hg (W' := W') (g2 := g3) (c2 := c3) (by rw [hlb, ints_flat]; exact hown) hon
  rw [hlb] at hput
  exact ⟨_, hput⟩
end

section
open Go.RowKit Go.Shelf Go.Deep
/-- Do the numbers of a truth lie in the ranges of the beds? -/
def fitsA (bs : List Bd) (tl : List Rl) : Bool := decide (tl.length = bs.length) && goodB bs.length (fun i => fitB (bs.getD i zeroBd) (tl.getD i ⟨0, 0, 0⟩))
theorem fitsA_iff {bs : List Bd} {tl : List Rl} : fitsA bs tl = true ↔ tl.length = bs.length ∧ ∀ i, i < bs.length → fitB (bs.getD i zeroBd) (tl.getD i ⟨0, 0, 0⟩) = true := by
  unfold fitsA
  rw [Bool.and_eq_true, decide_eq_true_eq, goodB_iff]
/-- The factor of a surface in a truth, and the error. -/
def facO (s : Sd) (frm : Int) (l : List Int) (tl : List Rl) : Int × Int := if checkUN s frm l = 0 then (if fitsA (bedsU s frm l) tl then (if dK (bedsU s frm l) (bedsU s frm l).length < 1 then (0, 7) else (factorN (hK (bedsU s frm l) (fun i => tl.getD i ⟨0, 0, 0⟩) (bedsU s frm l).length) (dK (bedsU s frm l) (bedsU s frm l).length), 0)) else (0, 9)) else (0, checkUN s frm l)
end

section
open Go.ChangeShapes Go.WideShapes Go.ChangeAt Go.RowKit Go.Shelf Go.Deep
theorem Try.cells5 : Try.prog.cellsOf 5 = 1 := by kernel_rfl
section
variable {H : Type} {enc : TypeId × Value → H} {w : World} {base : Nat} {spare : Nat → Bool} {held : Bool} {fuel : Nat} {cs : List Value} {x : DataW H × List MemPlace}
theorem byte_cells (h : DataW.trod enc Try.prog w base spare held fuel 5 cs = some x) : ∃ y : Byt, cs = byL y ∧ True := by
  obtain ⟨z, e, _, hw⟩ := DataW.trod_int Try.underlying5 h
  have hb : 0 ≤ z ∧ z ≤ 255 := by
    simp [Lit.wf] at hw
    exact hw
  exact ⟨⟨z, hb.1, hb.2⟩, e, trivial⟩
theorem bytes_open (h : DataW.trod enc Try.prog w base spare held fuel 65 cs = some x) : ∃ (D : Option Addr) (l : List Byt) (dp : Nat), cs = [.slice D l.length dp] ∧ l.length ≤ maxLen ∧ Row byL 1 w w.heap.size D l := by
  obtain ⟨A, l, cp, e, hl, hr, _⟩ := open_rowP (ec := byL) Try.underlying65 Try.cells5 (fun _ => rfl) (by omega) byte_cells h
  exact ⟨A, l, cp, e, hl, hr⟩
end
end

section
open Go.RowKit Go.Shelf Go.Deep
/-- What lies in memory while a truth is made. -/
structure PkJ (s : Sm) (u : Su) (bs : List Bd) (k : Nat) (tl : List Rl) (A : Option Addr) (c : Nat) (w W : World) : Prop where
  nw : newer w W
  xb : Whole W w.heap.size 24 (smC s)
  ub : Whole W (w.heap.size + 1) 27 (suC u)
  own : W.ownsRow w.heap.size 125 3 (.slice A k c) k (tl.flatMap rlL)
  ln : tl.length = k
  fit : ∀ i, i < k → fitB (bs.getD i zeroBd) (tl.getD i ⟨0, 0, 0⟩) = true
theorem PkJ.next {s : Sm} {u : Su} {bs : List Bd} {k : Nat} {tl : List Rl} {A : Option Addr} {c : Nat} {w W W' : World} (h : PkJ s u bs k tl A c w W) (hb : newer W W') : PkJ s u bs k tl A c w W' := ⟨newer_trans h.nw hb, h.xb.below hb h.xb.lt, h.ub.below hb h.ub.lt, own_below h.own hb, h.ln, h.fit⟩
end

section
open Go.RowKit Go.Shelf Go.Deep
/-- May a statement play a slope? -/
def readyB (s : Sd) : Bool := thinS s && slopeB s && decide (s.least ≤ (s.cols.length : Int))
theorem ready_ok {s : Sm} (h : readyB s.sd = true) : SdOk s.sd ∧ SmFew s ∧ s.sd.least ≤ (s.sd.cols.length : Int) := by
  unfold readyB at h
  rw [Bool.and_eq_true, Bool.and_eq_true, decide_eq_true_eq] at h
  exact ⟨sdOk_iff.1 h.1.2, (thinS_few h.1.1).1, h.2⟩
set_option maxRecDepth 100000 in
set_option maxHeartbeats 1000000 in
theorem ready_any (s : Sm) (w : World) (hok : SmOk s w) : Calls Try.prog 38 #[smV s] w fun e w' => e = .returned (.bool (readyB s.sd)) ∧ newer w w' := by
  have hnw := newer_allocH w (.cells (smC s) 24)
  have hxb := Whole.made w 24 (smC s)
  have H1 := Lib.hid (And.intro (hnw) (hxb))
  clear hnw hxb
  have HOK := Lib.hid hok
  have HTH : Hid (∀ W, newer w W → Calls Try.prog 16 #[smV s] W fun e w' => e = .returned (.bool (thinS s.sd)) ∧ newer W w') := Lib.hid (fun W hW => lawThin s W (HOK.out.next hW))
  unfold readyB
  clear hok
  have x0 := H1.out.2.at 0 (v := .slice s.a s.cs.length s.c) rfl
  have x1 := H1.out.2.at 1 (v := vi s.least) rfl
  cases ht : thinS s.sd with
  | false =>
    rw [ht] at HTH
    clear ht
    go_enter Try.func38, Try.ntmps38
    go_wp2_with fail
    refine (HTH.out _ H1.out.1).mono ?_
    rintro e w2 ⟨rfl, hb⟩
    have H3 := Lib.hid (And.intro ((newer_trans H1.out.1 hb)) ((H1.out.2.below hb H1.out.2.lt)))
    clear hb HTH H1 x0 x1
    go_wp2_with fail
    go_ret
    exact ⟨rfl, H3.out.1⟩
  | true =>
    obtain ⟨few, hc15, hb8⟩ := thinS_few ht
    have HRI : Hid (∀ W, newer w W → Calls Try.prog 26 #[smV s] W fun e w' => e = .returned (.bool (slopeB s.sd)) ∧ newer W w') := Lib.hid (fun W hW => right_any s W (HOK.out.next hW) few)
    rw [ht] at HTH
    cases hr : slopeB s.sd with
    | false =>
      rw [hr] at HRI
      clear ht hr few hc15 hb8 HOK
      go_enter Try.func38, Try.ntmps38
      go_wp2_with fail
      refine (HTH.out _ H1.out.1).mono ?_
      rintro e w4 ⟨rfl, hb⟩
      have H5 := Lib.hid (And.intro ((newer_trans H1.out.1 hb)) ((H1.out.2.below hb H1.out.2.lt)))
      clear hb HTH H1 x0 x1
      have x0 := H5.out.2.at 0 (v := .slice s.a s.cs.length s.c) rfl
      have x1 := H5.out.2.at 1 (v := vi s.least) rfl
      go_wp2_with fail
      refine (HRI.out _ H5.out.1).mono ?_
      rintro e w6 ⟨rfl, hb⟩
      have H7 := Lib.hid (And.intro ((newer_trans H5.out.1 hb)) ((H5.out.2.below hb H5.out.2.lt)))
      clear hb HRI H5 x0 x1
      have x0 := H7.out.2.at 0 (v := .slice s.a s.cs.length s.c) rfl
      have x1 := H7.out.2.at 1 (v := vi s.least) rfl
      go_wp2_with fail
      go_ret
      exact ⟨rfl, H7.out.1⟩
    | true =>
      rw [hr] at HRI
      clear ht few hc15 hb8 HOK
      have hle : s.sd.least = s.least := rfl
      rw [hle, sd_len]
      obtain ⟨r, hr2⟩ : ∃ r, r = (true && true && decide (s.least ≤ (s.cs.length : Int))) := ⟨_, rfl⟩
      rw [← hr2]
      have HV := Lib.hid (show r = decide (s.least ≤ (s.cs.length : Int)) from hr2)
      clear hr2 hr hle
      go_enter Try.func38, Try.ntmps38
      go_wp2_with fail
      refine (HTH.out _ H1.out.1).mono ?_
      rintro e w8 ⟨rfl, hb⟩
      have H9 := Lib.hid (And.intro ((newer_trans H1.out.1 hb)) ((H1.out.2.below hb H1.out.2.lt)))
      clear hb HTH H1 x0 x1
      have x0 := H9.out.2.at 0 (v := .slice s.a s.cs.length s.c) rfl
      have x1 := H9.out.2.at 1 (v := vi s.least) rfl
      go_wp2_with fail
      refine (HRI.out _ H9.out.1).mono ?_
      rintro e w10 ⟨rfl, hb⟩
      have H11 := Lib.hid (And.intro ((newer_trans H9.out.1 hb)) ((H9.out.2.below hb H9.out.2.lt)))
      clear hb HRI H9 x0 x1
      have x0 := H11.out.2.at 0 (v := .slice s.a s.cs.length s.c) rfl
      have x1 := H11.out.2.at 1 (v := vi s.least) rfl
      go_wp2_with fail
      go_ret
      exact ⟨by rw [HV.out]; rfl, H11.out.1⟩
/-- The least factor, and the error, that Worst returns. -/
def wE (s : Sd) : Int := match worstS s with
  | none => 7
  | some _ => 0
def wV (s : Sd) : Int := match worstS s with
  | none => 0
  | some (_, v) => v
theorem worst_of {s : Sd} (q : Option ((Nat × List Nat) × Int)) (h : worstS s = q) : (q = none ∧ wE s = 7 ∧ wV s = 0) ∨ ∃ u v, q = some (u, v) ∧ wE s = 0 ∧ wV s = v := by
  unfold wE wV
  rw [h]
  cases q with
  | none => exact .inl ⟨rfl, rfl, rfl⟩
  | some q => exact .inr ⟨_, _, rfl, rfl, rfl⟩
theorem worst_wet {s : Sd} (m : Int) : worstS (wetS s m) = worstR (hAt false (wetS s m)) (dAt s) s.n s.cols.length s.K := by
  unfold worstS
  rw [wet_drive, wet_n]
  have e1 : (wetS s m).cols.length = s.cols.length := by simp [wetS]
  rw [e1]
  rfl
theorem wE_is (s : Sd) : wE s = 0 ∨ wE s = 7 := by
  rcases worst_of _ (rfl : worstS s = worstS s) with ⟨_, h, _⟩ | ⟨_, _, _, h, _⟩
  · exact .inr h
  · exact .inl h
/-- Something is lower than a factor just if the least one is. -/
theorem low_w {s : Sd} (hs : SdOk s) {f : Int} (f0 : 0 ≤ f) (f1 : f ≤ 10000) (m : Nat) : (lowT (wetS s m) f (some false)).isSome = true ↔ wE (wetS s m) = 0 ∧ wV (wetS s m) < f := by
  rw [lowW_is, low_worst (wet_hd hs m) f0 f1, ← worst_wet]
  rcases worst_of _ (rfl : worstS (wetS s m) = worstS (wetS s m)) with ⟨h1, h2, h3⟩ | ⟨u, v, h1, h2, h3⟩
  · rw [h1, h2]
    constructor
    · rintro ⟨u, v, h, _⟩
      cases h
    · rintro ⟨h, _⟩
      cases h
  · rw [h1, h2, h3]
    constructor
    · rintro ⟨u', v', h, h4⟩
      simp only [Option.some.injEq, Prod.mk.injEq] at h
      exact ⟨rfl, by omega⟩
    · rintro ⟨_, h⟩
      exact ⟨u, v, rfl, h⟩
theorem worst_low0 {s : Sd} (hs : SdOk s) {f : Int} (f0 : 0 ≤ f) (f1 : f ≤ 10000) : (lowT s f (some false)).isSome = true ↔ wE s = 0 ∧ wV s < f := by
  have h := low_w hs f0 f1 0
  rw [show ((0 : Nat) : Int) = 0 from rfl, wet_zero hs] at h
  exact h
theorem few_of {s : Sm} (h : SdOk s.sd) : SmFew s := by
  have h1 := h.cols
  have h2 := h.beds
  rw [sd_len] at h1
  refine ⟨by omega, fun x hx => ?_⟩
  have h3 := h.len x.beds (List.mem_map.2 ⟨x, hx, rfl⟩)
  omega
theorem row_nats {w : World} {B : Nat} {A : Option Addr} {c : Nat} {l : List Nat} {L : List Int} (hL : L = l.map fun x : Nat => (x : Int)) (h : w.ownsRow B 3 1 (.slice A l.length c) l.length (l.map fun x : Nat => vi x)) : L.length = l.length ∧ Row intL 1 w w.heap.size A L := by
  have e2 : L.length = l.length := by rw [hL, List.length_map]
  have e1 : (l.map fun x : Nat => vi x) = L.flatMap intL := by rw [hL, ← map_intL, List.map_map]; rfl
  rw [e1, ← e2] at h
  exact ⟨e2, row_of_own (enc := intL) (size := 1) (by omega) (fun _ => rfl) h⟩
end

section
open Go.RowKit Go.Shelf Go.Deep
theorem hK_le {bs : List Bd} {tr tr' : Nat → Rl} : ∀ k, (∀ i, i < k → holdsN (bs.getD i zeroBd) (tr i) ≤ holdsN (bs.getD i zeroBd) (tr' i)) → hK bs tr k ≤ hK bs tr' k
  | 0, _ => Int.le_refl _
  | k + 1, h => by
    have h1 := hK_le (bs := bs) (tr := tr) (tr' := tr') k (fun i hi => h i (by omega))
    have h2 := h k (by omega)
    simp only [hK]
    omega
theorem hK_eq {bs : List Bd} {tr tr' : Nat → Rl} (k : Nat) (h : ∀ i, i < k → tr i = tr' i) : hK bs tr k = hK bs tr' k :=
  Int.le_antisymm (hK_le k (fun i hi => by rw [h i hi]; exact Int.le_refl _)) (hK_le k (fun i hi => by rw [h i hi]; exact Int.le_refl _))
theorem ends_get {bs : List Bd} {hi : Bool} {i : Nat} (h : i < bs.length) : (bs.map (endR hi)).getD i ⟨0, 0, 0⟩ = endR hi (bs.getD i zeroBd) := by
  obtain ⟨b, hb⟩ := get_of_lt h
  simp [List.getD, hb]
theorem ends_fit {bs : List Bd} (hb : ∀ b ∈ bs, bdB b = true) (hi : Bool) : fitsA bs (bs.map (endR hi)) = true := by
  refine fitsA_iff.2 ⟨by rw [List.length_map], fun i h => ?_⟩
  obtain ⟨b, hb2⟩ := get_of_lt h
  rw [ends_get h]
  have hge : bs.getD i zeroBd = b := by simp [List.getD, hb2]
  rw [hge]
  exact fit_end (hb b (List.mem_of_getElem? hb2)) hi
theorem fits_hK {bs : List Bd} (hb : ∀ b ∈ bs, bdB b = true) {tl : List Rl} (hf : fitsA bs tl = true) : hK bs (fun i => endR false (bs.getD i zeroBd)) bs.length ≤ hK bs (fun i => tl.getD i ⟨0, 0, 0⟩) bs.length ∧ hK bs (fun i => tl.getD i ⟨0, 0, 0⟩) bs.length ≤ hK bs (fun i => endR true (bs.getD i zeroBd)) bs.length := by
  have h := (fitsA_iff.1 hf).2
  have h1 : ∀ i, i < bs.length → bdB (bs.getD i zeroBd) = true := fun i hi => by
    obtain ⟨b, hb2⟩ := get_of_lt hi
    have hge : bs.getD i zeroBd = b := by simp [List.getD, hb2]
    rw [hge]
    exact hb b (List.mem_of_getElem? hb2)
  exact ⟨hK_le _ (fun i hi => (fit_mono (h1 i hi) (h i hi)).1), hK_le _ (fun i hi => (fit_mono (h1 i hi) (h i hi)).2)⟩
theorem hK_nonneg {bs : List Bd} (hb : ∀ b ∈ bs, bdB b = true) (hi : Bool) : 0 ≤ hK bs (fun i => endR hi (bs.getD i zeroBd)) bs.length :=
  (hK_bd (l := bs) (tr := fun i => endR hi (bs.getD i zeroBd)) bs.length (Nat.le_refl _) hb (fun i hi2 => by
    obtain ⟨b, hb2⟩ := get_of_lt hi2
    have e : bs.getD i zeroBd = b := by simp [List.getD, hb2]
    rw [e]
    exact end_rlB (hb b (List.mem_of_getElem? hb2)) hi)).1
/-- What is known of the surface that a law plays: its span, its factors, and the least factor of the slope. -/
structure SurfK (s : Sd) (frm : Int) (l : List Int) (e r0 r1 : Int) : Prop where
  ck : checkUN s frm l = 0
  sp : spanE s frm l = e ∧ spanP s frm l false = r0 ∧ spanP s frm l true = r1
  fit : ∀ tl, fitsA (bedsU s frm l) tl = true → (e = 7 → facO s frm l tl = (0, 7)) ∧ (e = 0 → (facO s frm l tl).2 = 0 ∧ r0 ≤ (facO s frm l tl).1 ∧ (facO s frm l tl).1 ≤ r1)
  ends : e = 0 → facO s frm l ((bedsU s frm l).map (endR false)) = (r0, 0) ∧ facO s frm l ((bedsU s frm l).map (endR true)) = (r1, 0)
  low : e = 0 → wE s = 0 ∧ wV s ≤ r0
  eor : e = 7 ∨ e = 0
theorem surf_known {s : Sm} (hs : SdOk s.sd) {frm : Int} {l : List Int} {k0 : Nat} {m : List Nat} (hf : frm = (k0 : Nat)) (hl : l = m.map fun x : Nat => (x : Int)) (hsf : SurfB s.sd.n s.cs.length s.sd.K k0 m) : bedsU s.sd frm l = bedsL s.sd.cols k0 m ∧ ∃ e r0 r1, SurfK s.sd frm l e r0 r1 := by
  have hsf' : SurfB s.sd.n s.sd.cols.length s.sd.K k0 m := by rw [sd_len]; exact hsf
  have hck : checkUN s.sd frm l = 0 := by
    unfold checkUN
    rw [sdOk_iff.2 hs, hf, hl, (surfB_nat hs).2 hsf']
    rfl
  have eb : bedsU s.sd frm l = bedsL s.sd.cols k0 m := by
    unfold bedsU
    rw [hf, hl, List.map_map]
    have e1 : (Int.toNat ∘ fun x : Nat => (x : Int)) = id := by funext x; simp
    rw [e1, List.map_id, Int.toNat_natCast]
  refine ⟨eb, ?_⟩
  have hbo := bedsL_ok hs hsf.2.2 hsf.2.1
  have hbl := bedsL_len s.sd.cols m k0
  obtain ⟨bs, hbs⟩ : ∃ bs, bs = bedsL s.sd.cols k0 m := ⟨_, rfl⟩
  rw [← hbs] at eb hbo hbl
  have hfac : ∀ tl, fitsA bs tl = true → facO s.sd frm l tl = if dK bs bs.length < 1 then (0, 7) else (factorN (hK bs (fun i => tl.getD i ⟨0, 0, 0⟩) bs.length) (dK bs bs.length), 0) := fun tl h => by
    unfold facO
    rw [hck, if_pos rfl, eb, if_pos h]
  by_cases hd : dK bs bs.length < 1
  · have he : spanE s.sd frm l = 7 := by unfold spanE; rw [hck, if_pos rfl, eb, if_pos hd]
    have hp : ∀ hi, spanP s.sd frm l hi = 0 := fun hi => by unfold spanP; rw [he, if_neg (by decide)]
    exact ⟨7, 0, 0, hck, ⟨he, hp _, hp _⟩, fun tl h => ⟨fun _ => by rw [hfac tl (by rw [eb] at h; exact h), if_pos hd], fun h => absurd h (by decide)⟩, fun h => absurd h (by decide), fun h => absurd h (by decide), .inl rfl⟩
  · have he : spanE s.sd frm l = 0 := by unfold spanE; rw [hck, if_pos rfl, eb, if_neg hd]
    have hp : ∀ hi, spanP s.sd frm l hi = facE bs hi := fun hi => by unfold spanP; rw [he, if_pos rfl, eb]
    have hend : ∀ hi, facO s.sd frm l (bs.map (endR hi)) = (facE bs hi, 0) := fun hi => by
      rw [hfac _ (ends_fit hbo hi), if_neg hd]
      unfold facE
      rw [hK_eq bs.length (fun i h => ends_get h)]
    refine ⟨0, facE bs false, facE bs true, hck, ⟨he, hp _, hp _⟩, fun tl h => ⟨fun h => absurd h (by decide), fun _ => ?_⟩, fun _ => by rw [eb]; exact ⟨hend _, hend _⟩, fun _ => ?_, .inr rfl⟩
    · rw [eb] at h
      rw [hfac tl h, if_neg hd]
      have h1 := fits_hK hbo h
      have h2 := hK_nonneg hbo false
      exact ⟨rfl, factor_le h2 h1.1 (by omega) (Int.le_refl _), factor_le (by omega) h1.2 (by omega) (Int.le_refl _)⟩
    · have hd2 : 1 ≤ sumH (dAt s.sd) k0 m := by rw [← dK_sum, ← hbs, ← hbl]; omega
      have hfe : facE bs false = factorN (sumH (hAt false s.sd) k0 m) (sumH (dAt s.sd) k0 m) := by
        unfold facE
        rw [hbl, hbs, hK_sum, dK_sum]
      rcases worst_of _ (rfl : worstS s.sd = worstS s.sd) with ⟨h1, _, _⟩ | ⟨⟨k, l'⟩, v, h1, h2, h3⟩
      · exact absurd hd2 (worst_none (hd_ok hs false) h1 k0 m hsf')
      · refine ⟨h2, ?_⟩
        rw [h3, hfe]
        exact (worst_some (hd_ok hs false) h1).2.2.2 k0 m hsf' hd2
end

section
open Go.RowKit Go.Shelf Go.Deep
theorem low_cost {s : Sd} (hs : SdOk s) {f : Int} (f0 : 0 ≤ f) (f1 : f ≤ 10000) : (lowT s f (some false)).isSome = true ↔ LowB (cS s f) s.n s.cols.length s.K :=
  have ok := hd_ok hs false
  lowS_iff (fun k b _ => cF_bd ok f0 (by omega) k b) (by decide) ok.n0 ok.K0 (few_big ok)
theorem prove_low {s : Sd} {f : Int} {D : List (List (List Int))} (h : provO s f D = true) : SdOk s ∧ 0 ≤ f ∧ f ≤ 10000 ∧ (lowT s f (some false)).isSome = false := by
  unfold provO at h
  simp only [Bool.and_eq_true, decide_eq_true_eq] at h
  obtain ⟨h1, h2, h3⟩ := h
  obtain ⟨hs, f0, f1⟩ := asked_zero h1
  refine ⟨hs, f0, f1, ?_⟩
  cases hl : (lowT s f (some false)).isSome with
  | false => rfl
  | true =>
    obtain ⟨k, l, h4, h5⟩ := (low_cost hs f0 f1).1 hl
    have h6 := table_low (provB_iff.1 h3) (hd_ok hs false).K0 h4
    omega
/-- A table proves a factor only if no surface is lower. -/
theorem prove_w {s : Sd} {f : Int} {D : List (List (List Int))} (h : provO s f D = true) (hw : wE s = 0) : f ≤ wV s := by
  obtain ⟨hs, f0, f1, h1⟩ := prove_low h
  by_cases hlt : f ≤ wV s
  · exact hlt
  · rw [(worst_low0 hs f0 f1).2 ⟨hw, by omega⟩] at h1
    cases h1
theorem behind_cong {big : Int} {n b : Nat} {row row' : Nat → Int} (hb : b < n) (h : ∀ x, x < n → row x = row' x) : behindN big n row b = behindN big n row' b := by
  unfold behindN
  congr 1
  exact List.map_congr_left fun x hx => h x ((mem_near hb).1 hx).1
theorem cell_cong {c : Nat → Nat → Int} {big : Int} {n cols K : Nat} {t t' : Nat → Nat → Nat → Int} (h : ∀ r k b, r < K → k < cols → b < n → t r k b = t' r k b) {r k b : Nat} (hr : r < K) (hk : k < cols) (hb : b < n) : cellT c big n K t r k b ↔ cellT c big n K t' r k b := by
  unfold cellT
  rw [h r k b hr hk hb]
  by_cases hk0 : 0 < k
  · rw [behind_cong hb (fun x hx => h r (k - 1) x hr (by omega) hx)]
    by_cases hr0 : 0 < r
    · rw [behind_cong hb (fun x hx => h (r - 1) (k - 1) x (by omega) (by omega) hx)]
    · simp [hr0]
  · simp [hk0]
theorem tab_at {s : Sd} {f : Int} {r k b : Nat} (hr : r < s.K) (hk : k < s.cols.length) (hb : b < s.n) : tN (tabD s f) r k b = tabT (cS s f) bigN farN s.n s.K r k b := by
  unfold tN tabD iAt
  simp only [List.getD_eq_getElem?_getD, List.getElem?_map, List.getElem?_range hr, List.getElem?_range hk, List.getElem?_range hb, Option.map_some, Option.getD_some]
/-- The table of Proof is one that proves. -/
theorem tab_prov {s : Sd} {f : Int} (h : enoughN s f = 0) : provO s f (tabD s f) = true := by
  obtain ⟨hs, f0, f1, hl⟩ := enough_zero h
  have ok := hd_ok hs false
  have hcb := cS_bd hs f0 (show f ≤ 10001 by omega)
  have hcl := hs.cols
  have hbig : ((s.cols.length + 1 : Nat) : Int) * 1300100000 + farN ≤ bigN := by
    show ((s.cols.length + 1 : Nat) : Int) * 1300100000 + 100000000000000 ≤ 1000000000000000
    omega
  have hfar : ((s.cols.length + 1 : Nat) : Int) * 1300100000 ≤ farN := by
    show ((s.cols.length + 1 : Nat) : Int) * 1300100000 ≤ 100000000000000
    omega
  have hbd : ∀ r k b, r < s.K → k < s.cols.length → b < s.n → -bigN ≤ tabT (cS s f) bigN farN s.n s.K r k b ∧ tabT (cS s f) bigN farN s.n s.K r k b ≤ bigN := fun r k b hr hk hb => by
    have hbig2 : ((k + 1 : Nat) : Int) * 1300100000 + farN ≤ bigN := by
      show ((k + 1 : Nat) : Int) * 1300100000 + 100000000000000 ≤ 1000000000000000
      omega
    exact real_bd hcb (by decide) (by decide) hbig2 (tabT_real hcb (by decide) (by decide) ok.K0 hbig r hr k hk b hb)
  have hpr := tabT_proves hcb (by decide) (by decide) ok.K0 hbig hfar fun k l hsf => by
    by_cases hneg : 0 ≤ costP (cS s f) k l
    · exact hneg
    · have h1 := (low_cost hs f0 f1).2 ⟨k, l, hsf, by omega⟩
      rw [hl] at h1
      cases h1
  unfold provO
  simp only [Bool.and_eq_true, decide_eq_true_eq]
  refine ⟨?_, ?_, ?_⟩
  · unfold enoughN at h
    by_cases ha : askedN s f = 0
    · exact ha
    · rw [if_neg ha] at h
      exact h
  · have hKi : (s.K : Int) = s.least := by have := hs.least; unfold Sd.K; omega
    unfold shT shR shL tabD
    simp only [Bool.and_eq_true, decide_eq_true_eq, List.all_eq_true, List.length_map, List.length_range, List.mem_map, List.mem_range]
    refine ⟨hKi, ?_⟩
    rintro x ⟨r, hr, rfl⟩
    refine ⟨by simp, ?_⟩
    rintro y hy
    obtain ⟨k, hk, rfl⟩ := List.mem_map.1 hy
    refine ⟨by simp, ?_⟩
    intro z hz
    obtain ⟨b, hb, rfl⟩ := List.mem_map.1 hz
    have h2 := hbd r k b hr (List.mem_range.1 hk) (List.mem_range.1 hb)
    simp only [inB, Bool.and_eq_true, decide_eq_true_eq]
    exact h2
  · rw [provB_iff]
    intro r k b hr hk hb
    exact (cell_cong (fun r k b h1 h2 h3 => tab_at h1 h2 h3) hr hk hb).2 (hpr r k b hr hk hb)
/-- The surface of Worst has the least factor. -/
theorem worst_surf {s : Sm} (hs : SdOk s.sd) {k : Nat} {l : List Nat} {v : Int} (hw : worstS s.sd = some ((k, l), v)) : spanE s.sd k (l.map fun x : Nat => (x : Int)) = 0 ∧ spanP s.sd k (l.map fun x : Nat => (x : Int)) false = v ∧ wE s.sd = 0 ∧ wV s.sd = v ∧ l.length ≤ 12 := by
  obtain ⟨h1, h2, h3, _⟩ := worst_some (hd_ok hs false) hw
  have hck : checkUN s.sd k (l.map fun x : Nat => (x : Int)) = 0 := by
    unfold checkUN
    rw [sdOk_iff.2 hs, (surfB_nat hs).2 h1]
    rfl
  have eb : bedsU s.sd k (l.map fun x : Nat => (x : Int)) = bedsL s.sd.cols k l := by
    unfold bedsU
    rw [List.map_map]
    have e1 : (Int.toNat ∘ fun x : Nat => (x : Int)) = id := by funext x; simp
    rw [e1, List.map_id, Int.toNat_natCast]
  have hbl := bedsL_len s.sd.cols l k
  have hd : ¬ dK (bedsL s.sd.cols k l) (bedsL s.sd.cols k l).length < 1 := by rw [hbl, dK_sum]; omega
  have he : spanE s.sd k (l.map fun x : Nat => (x : Int)) = 0 := by unfold spanE; rw [hck, if_pos rfl, eb, if_neg hd]
  refine ⟨he, ?_, ?_, ?_, ?_⟩
  · unfold spanP
    rw [he, if_pos rfl, eb]
    unfold facE
    rw [hbl, hK_sum, dK_sum]
    exact h3
  · unfold wE; rw [hw]
  · unfold wV; rw [hw]
  · have := h1.2.1
    have := hs.cols
    omega
/-- What Proof's error is, told by the least factor. -/
theorem enough_w {s : Sd} (hs : SdOk s) {f : Int} (f0 : 0 ≤ f) (f1 : f ≤ 10000) : (enoughN s f = 10 ∧ wE s = 0 ∧ wV s < f) ∨ (enoughN s f = 0 ∧ (wE s = 0 → f ≤ wV s)) := by
  have ha : askedN s f = 0 := by
    unfold askedN
    rw [sdOk_iff.2 hs, show inB f 0 10000 = true by simp only [inB, Bool.and_eq_true, decide_eq_true_eq]; omega]
    rfl
  have hw := worst_low0 hs f0 f1
  unfold enoughN
  rw [if_pos ha]
  cases hl : (lowT s f (some false)).isSome with
  | true =>
    rw [hl] at hw
    exact .inl ⟨rfl, hw.1 rfl⟩
  | false =>
    rw [hl] at hw
    refine .inr ⟨rfl, fun h => ?_⟩
    by_cases hlt : f ≤ wV s
    · exact hlt
    · cases hw.2 ⟨h, by omega⟩
end

end Go.Proofs.Ytkenokpobbichaa
