/- A survey in which the tools know their whole turns. -/
import Derived.Test.YtpmafnifgegfbaaAM
import Derived.Test.YtpmafnifgegfbaaPC
import Derived.Test.YtpmafnifgegfbaaAN
namespace Go.Proofs.Ytpmafnifgegfbaa
open Go.RowKit Go.Shelf Go.Deep

theorem flat_set {α : Type} {enc : α → List Value} {s : Nat} (he : ∀ x, (enc x).length = s) {v : Value} {c : Nat} (hc : c < s) : ∀ (l : List α) (i : Nat) (x x' : α), l[i]? = some x → enc x' = (enc x).set c v → (l.flatMap enc).set (i * s + c) v = (l.set i x').flatMap enc
  | [], i, x, x', h, _ => by simp at h
  | a :: l, 0, x, x', h, h2 => by
    simp only [List.getElem?_cons_zero, Option.some.injEq] at h
    subst h
    rw [List.set_cons_zero, List.flatMap_cons, List.flatMap_cons, h2, Nat.zero_mul, Nat.zero_add, List.set_append_left _ _ (by rw [he]; exact hc)]
  | a :: l, i + 1, x, x', h, h2 => by
    simp only [List.getElem?_cons_succ] at h
    rw [List.set_cons_succ, List.flatMap_cons, List.flatMap_cons, ← flat_set he hc l i x x' h h2, List.set_append_right _ _ (by rw [he, Nat.add_mul]; omega), he]
    rw [show (i + 1) * s + c - s = i * s + c by rw [Nat.add_mul]; omega]
/-- A survey whose tools come to know their turns, in memory. -/
structure CtA (y : Sm) (w : World) (ob : Nat) (sa ta ra : Option Addr) (sc tc rc : Nat) (T : List Tl) (R : List Int) (W : World) : Prop where
  nw : newer w W
  rb : Whole W (w.heap.size + 1) 40 #[.slice none 0 0, vi 0, .slice none 0 0, vi 0, .slice none 0 0]
  oz : Whole W ob 40 #[.slice sa y.s.spots.length sc, vi y.s.strain, .slice ta y.s.tools.length tc, vi y.s.day, .slice ra y.s.reads.length rc]
  lo : w.heap.size + 1 < ob
  sp : W.ownsRow w.heap.size 56 4 (.slice sa y.s.spots.length sc) y.s.spots.length (y.s.spots.flatMap spL)
  tl : W.ownsRow w.heap.size 112 7 (.slice ta y.s.tools.length tc) y.s.tools.length (T.flatMap tlL)
  rd : W.ownsRow w.heap.size 3 1 (.slice ra y.s.reads.length rc) y.s.reads.length (R.flatMap intL)
section
variable {y : Sm} {w W W' : World} {ob : Nat} {sa ta ra : Option Addr} {sc tc rc : Nat} {T : List Tl} {R : List Int}
theorem CtA.next (h : CtA y w ob sa ta ra sc tc rc T R W) (hb : newer W W') : CtA y w ob sa ta ra sc tc rc T R W' :=
  ⟨newer_trans h.nw hb, h.rb.below hb h.rb.lt, h.oz.below hb h.oz.lt, h.lo, own_below h.sp hb, own_below h.tl hb, own_below h.rd hb⟩
theorem CtA.setR {g i : Nat} {v : Int} (h : CtA y w ob sa ta (some ⟨g, 0, none⟩) sc tc rc T R W) (hg : w.heap.size ≤ g) : CtA y w ob sa ta (some ⟨g, 0, none⟩) sc tc rc T (R.set i v) (W.setCell ⟨g, i, none⟩ (vi v)) := by
  have n1 : ∀ {b : Nat} {cs : Array Value}, Whole W b 40 cs → b ≠ g := fun hb e => own_ne h.rd hb (by decide) (by rw [e]; rfl)
  have far : ∀ {e : TypeId} {q n : Nat} {v2 : Value} {ys : List Value}, W.ownsRow w.heap.size e q v2 n ys → e ≠ 3 → (W.setCell ⟨g, i, none⟩ (vi v)).ownsRow w.heap.size e q v2 n ys := fun hv hne => own_set hv (fun e2 => own_own_ne hv h.rd hne g e2 rfl) _
  refine ⟨h.nw.setCell (p := ⟨g, i, none⟩) hg _, h.rb.far (p := ⟨g, i, none⟩) (n1 h.rb) _, h.oz.far (p := ⟨g, i, none⟩) (n1 h.oz) _, h.lo, far h.sp (by decide), far h.tl (by decide), ?_⟩
  rw [← set_rd]
  exact own_setAt h.rd
theorem CtA.setT {g i : Nat} {t : Tl} (h : CtA y w ob sa (some ⟨g, 0, none⟩) ra sc tc rc T R W) (hg : w.heap.size ≤ g) (ht : T[i]? = some t) : CtA y w ob sa (some ⟨g, 0, none⟩) ra sc tc rc (T.set i { t with turn := 0 }) R (W.setCell ⟨g, i * 7 + 3, none⟩ (vi 0)) := by
  have n1 : ∀ {b : Nat} {cs : Array Value}, Whole W b 40 cs → b ≠ g := fun hb e => own_ne h.tl hb (by decide) (by rw [e]; rfl)
  have far : ∀ {e : TypeId} {q n : Nat} {v2 : Value} {ys : List Value}, W.ownsRow w.heap.size e q v2 n ys → e ≠ 112 → (W.setCell ⟨g, i * 7 + 3, none⟩ (vi 0)).ownsRow w.heap.size e q v2 n ys := fun hv hne => own_set hv (fun e2 => own_own_ne hv h.tl hne g e2 rfl) _
  refine ⟨h.nw.setCell (p := ⟨g, i * 7 + 3, none⟩) hg _, h.rb.far (p := ⟨g, i * 7 + 3, none⟩) (n1 h.rb) _, h.oz.far (p := ⟨g, i * 7 + 3, none⟩) (n1 h.oz) _, h.lo, far h.sp (by decide), ?_, far h.rd (by decide)⟩
  rw [← flat_set (enc := tlL) (s := 7) (c := 3) (fun _ => rfl) (show 3 < 7 by decide) T i t { t with turn := 0 } ht rfl]
  exact own_setAt h.tl
end
theorem CtA.fin {y : Sm} {w W : World} {ob : Nat} {sa ta ra : Option Addr} {sc tc rc : Nat} {l : List Int} {i : Nat} (h : CtA y w ob sa ta ra sc tc rc (certN y.s l i).tools (certN y.s l i).reads W) (u0 u1 u2 u3 u4 : Value) :
    newer w (((((W.setCell ⟨w.heap.size + 1, 0, none⟩ u0).setCell ⟨w.heap.size + 1, 1, none⟩ u1).setCell ⟨w.heap.size + 1, 2, none⟩ u2).setCell ⟨w.heap.size + 1, 3, none⟩ u3).setCell ⟨w.heap.size + 1, 4, none⟩ u4) ∧ Whole (((((W.setCell ⟨w.heap.size + 1, 0, none⟩ u0).setCell ⟨w.heap.size + 1, 1, none⟩ u1).setCell ⟨w.heap.size + 1, 2, none⟩ u2).setCell ⟨w.heap.size + 1, 3, none⟩ u3).setCell ⟨w.heap.size + 1, 4, none⟩ u4) (w.heap.size + 1) 40 #[u0, u1, u2, u3, u4] ∧ SmOk ⟨certN y.s l i, sa, sc, ta, tc, ra, rc⟩ (((((W.setCell ⟨w.heap.size + 1, 0, none⟩ u0).setCell ⟨w.heap.size + 1, 1, none⟩ u1).setCell ⟨w.heap.size + 1, 2, none⟩ u2).setCell ⟨w.heap.size + 1, 3, none⟩ u3).setCell ⟨w.heap.size + 1, 4, none⟩ u4) := by
  have hge : ∀ k : Nat, w.heap.size ≤ (⟨w.heap.size + 1, k, none⟩ : Addr).block := fun k => by dsimp only; omega
  have hrow : ∀ {e : TypeId} {q n : Nat} {v : Value} {ys : List Value}, W.ownsRow w.heap.size e q v n ys → e ≠ 40 → (((((W.setCell ⟨w.heap.size + 1, 0, none⟩ u0).setCell ⟨w.heap.size + 1, 1, none⟩ u1).setCell ⟨w.heap.size + 1, 2, none⟩ u2).setCell ⟨w.heap.size + 1, 3, none⟩ u3).setCell ⟨w.heap.size + 1, 4, none⟩ u4).ownsRow w.heap.size e q v n ys := fun ho hne => own_put5 h.rb ho hne _ _ _ _ _
  refine ⟨((((h.nw.setCell (hge 0) u0).setCell (hge 1) u1).setCell (hge 2) u2).setCell (hge 3) u3).setCell (hge 4) u4, ((((h.rb.set 0 u0).set 1 u1).set 2 u2).set 3 u3).set 4 u4, ?_, ?_, ?_⟩
  · show Row spL 4 _ _ _ (certN y.s l i).spots
    rw [(cert_len y.s l i).2.2.1]
    exact row_of_own (enc := spL) (size := 4) (by decide) (fun _ => rfl) (hrow h.sp (by decide))
  · exact row_of_own (enc := tlL) (size := 7) (by decide) (fun _ => rfl) (hrow h.tl (by decide))
  · exact row_of_own (enc := intL) (size := 1) (by decide) (fun _ => rfl) (hrow h.rd (by decide))
/-- May a list be the turns of a survey, as far as its reads go? -/
def CertOk (s : Sd) (l : List Int) : Prop := turnN s.tools = l.length ∧ ∀ (j : Nat) (t : Tl), s.tools[j]? = some t → t.turn ≠ 0 → -1000 ≤ readAt s j + t.turn * l.getD (placeN s.tools j) 0 ∧ readAt s j + t.turn * l.getD (placeN s.tools j) 0 ≤ 1000
def CertUp (s : Sd) (l : List Int) (i : Nat) : Prop := ∀ (j : Nat) (t : Tl), j < i → s.tools[j]? = some t → t.turn ≠ 0 → -1000 ≤ readAt s j + t.turn * l.getD (placeN s.tools j) 0 ∧ readAt s j + t.turn * l.getD (placeN s.tools j) 0 ≤ 1000
theorem CertUp.succ {s : Sd} {l : List Int} {i : Nat} {t : Tl} (h : CertUp s l i) (ht : s.tools[i]? = some t) (hn : t.turn ≠ 0 → -1000 ≤ readAt s i + t.turn * l.getD (placeN s.tools i) 0 ∧ readAt s i + t.turn * l.getD (placeN s.tools i) 0 ≤ 1000) : CertUp s l (i + 1) := fun j u hj hu hT => by
  by_cases e : j = i
  · subst e
    rw [ht] at hu
    injection hu with hu
    subst hu
    exact hn hT
  · exact h j u (by omega) hu hT
/-- What certain returns. -/
def CertR (y : Sm) (l : List Int) (w : World) (e : Ending) (w' : World) : Prop := ∃ sa ta ra sc tc rc, ∃ ok : Bool, e = .returned (.tuple #[.agg #[.slice sa y.s.spots.length sc, vi y.s.strain, .slice ta y.s.tools.length tc, vi y.s.day, .slice ra y.s.reads.length rc], .bool ok]) ∧ newer w w' ∧ (ok = true → CertOk y.s l ∧ SmOk ⟨certN y.s l y.s.tools.length, sa, sc, ta, tc, ra, rc⟩ w')
set_option maxRecDepth 100000 in
set_option maxHeartbeats 4000000 in
theorem certain_any (y : Sm) (l : List Int) (la : Option Addr) (lc : Nat) (w : World) (hok : SmOk y w) (few : SmFew y) (hs : SdOk y.s) (hl : l.length ≤ 1000) (hr : Row intL 1 w w.heap.size la l) :
    Calls Try.prog 39 #[smV y, .slice la l.length lc] w (CertR y l w) := by
  have hb1 := newer_trans (newer_allocH w (.cells (smC y) 26)) (newer_allocH (w.alloc (.cells (smC y) 26)) (.cells #[.slice none 0 0, vi 0, .slice none 0 0, vi 0, .slice none 0 0] 40))
  have m0 := (Whole.made w 26 (smC y)).alloc (.cells #[.slice none 0 0, vi 0, .slice none 0 0, vi 0, .slice none 0 0] 40)
  have m1 := Whole.made (w.alloc (.cells (smC y) 26)) 40 #[.slice none 0 0, vi 0, .slice none 0 0, vi 0, .slice none 0 0]
  simp only [World.size_alloc] at m1
  have HSV := Lib.hid (survey_any y _ (hok.next hb1) few)
  have H0 := Lib.hid (And.intro hb1 m1)
  have HLR := Lib.hid hr
  have HSD := Lib.hid hs
  have x0 := m0.at 0 (v := .slice y.sa y.s.spots.length y.sc) rfl
  have x1 := m0.at 1 (v := vi y.s.strain) rfl
  have x2 := m0.at 2 (v := .slice y.ta y.s.tools.length y.tc) rfl
  have x3 := m0.at 3 (v := vi y.s.day) rfl
  have x4 := m0.at 4 (v := .slice y.ra y.s.reads.length y.rc) rfl
  clear hok few hs hr hb1 m0 m1
  go_enter Try.func39, Try.ntmps39
  go_wp2_with fail
  refine (HSV.out).mono ?_
  rintro e w2 ⟨sa, sc, ta, tc, ra, rc, rfl, ho, hn2⟩
  have HSO := Lib.hid (And.intro ho hn2)
  clear ho hn2 x0 x1 x2 x3 x4 HSV
  go_upto_region 2 with fail
  obtain ⟨ob, hob⟩ : ∃ q, q = w2.heap.size := ⟨_, rfl⟩
  rw [← hob]
  refine genQ (fun X => CtA y w ob sa ta ra sc tc rc y.s.tools y.s.reads X) ?_ ?_
  · have hn3 := newer_allocH w2 (.cells #[.slice sa y.s.spots.length sc, vi y.s.strain, .slice ta y.s.tools.length tc, vi y.s.day, .slice ra y.s.reads.length rc] 40)
    have h2 := HSO.out.2
    have hlw : w.heap.size + 1 < w2.heap.size := by have h1 := H0.out.2.below h2 H0.out.2.lt; have := h1.lt; have := h2.size; simp only [World.size_alloc] at this; omega
    have hlo : w.heap.size ≤ ((w.alloc (.cells (smC y) 26)).alloc (.cells #[.slice none 0 0, vi 0, .slice none 0 0, vi 0, .slice none 0 0] 40)).heap.size := by simp only [World.size_alloc]; omega
    have hso := (HSO.out.1.low hlo).next hn3
    exact ⟨newer_trans H0.out.1 (newer_trans h2 hn3), (H0.out.2.below h2 H0.out.2.lt).below hn3 (by have := (H0.out.2.below h2 H0.out.2.lt).lt; omega), by rw [hob]; exact Whole.made _ _ _, by rw [hob]; exact hlw, hso.sp, hso.tl, hso.rd⟩
  intro w3 hct
  have HC := Lib.hid hct
  have hn8 := HSD.out.few
  have hrl := HSD.out.reads
  have HRL := Lib.hid hrl
  clear HSO H0 hob hct hrl
  go_wp2_with fail
  go_loopw [7, 8, 9] (fun s7 s8 _ wr => ∃ i : Nat, i ≤ y.s.tools.length ∧ s8 = vi i ∧ s7 = vi (placeN y.s.tools i : Nat) ∧ CertUp y.s l i ∧ placeN y.s.tools i ≤ l.length ∧ CtA y w ob sa ta ra sc tc rc (certN y.s l i).tools (certN y.s l i).reads wr) (fun _ s8 _ _ => y.s.tools.length - (intOf s8).toNat)
  case atStart => exact ⟨0, Nat.zero_le _, rfl, rfl, fun j t hj => by omega, Nat.zero_le _, HC.out⟩
  case round =>
    obtain ⟨i, hi, rfl, rfl, hup, hpll, hct⟩ := hrel
    clear HC
    have HC := Lib.hid hct
    have HUP := Lib.hid (And.intro hup hpll)
    have z0 := hct.oz.at 0 (v := .slice sa y.s.spots.length sc) rfl
    have z1 := hct.oz.at 1 (v := vi y.s.strain) rfl
    have z2 := hct.oz.at 2 (v := .slice ta y.s.tools.length tc) rfl
    have z3 := hct.oz.at 3 (v := vi y.s.day) rfl
    have z4 := hct.oz.at 4 (v := .slice ra y.s.reads.length rc) rfl
    clear hup
    obtain ⟨pl, hpl⟩ : ∃ q, q = placeN y.s.tools i := ⟨_, rfl⟩
    have HPL := Lib.hid hpl
    rw [← hpl] at hpll ⊢
    have hpi : pl ≤ i := by rw [hpl]; exact placeN_le _ _
    clear hpl
    by_cases hlt : i < y.s.tools.length
    case neg =>
      obtain rfl : i = y.s.tools.length := by omega
      have hge : ¬ (y.s.tools.length : Int) < y.s.tools.length := by omega
      clear hct
      by_cases hpe : pl = l.length
      case pos =>
        have hpb : ((pl : Int) == (l.length : Int)) = true := by simp [hpe]
        have hpb2 : (pl == l.length) = true := by simp [hpe]
        have HOKC := Lib.hid (show CertOk y.s l from ⟨by rw [← placeN_all, ← HPL.out, hpe], fun j t ht hT => HUP.out.1 j t (List.getElem?_eq_some_iff.1 ht).1 ht hT⟩)
        clear hpe
        have hrb := HC.out.rb
        have b0 := hrb.at 0 rfl
        have b1 := hrb.at 1 rfl
        have b2 := hrb.at 2 rfl
        have b3 := hrb.at 3 rfl
        have b4 := hrb.at 4 rfl
        have f0 := hrb.free 0
        have f1 := hrb.free 1
        have f2 := hrb.free 2
        have f3 := hrb.free 3
        have f4 := hrb.free 4
        clear hrb
        go_wp2_with fail
        have HF := HC.out.fin (.slice sa y.s.spots.length sc) (vi y.s.strain) (.slice ta y.s.tools.length tc) (vi y.s.day) (.slice ra y.s.reads.length rc)
        obtain ⟨g1, g2, g3⟩ := HF
        have k0 := g2.at 0 (v := .slice sa y.s.spots.length sc) rfl
        have k1 := g2.at 1 (v := vi y.s.strain) rfl
        have k2 := g2.at 2 (v := .slice ta y.s.tools.length tc) rfl
        have k3 := g2.at 3 (v := vi y.s.day) rfl
        have k4 := g2.at 4 (v := .slice ra y.s.reads.length rc) rfl
        exact bodyPost_ret (v := .tuple #[.agg #[.slice sa y.s.spots.length sc, vi y.s.strain, .slice ta y.s.tools.length tc, vi y.s.day, .slice ra y.s.reads.length rc], .bool true]) (by simp [results, Try.results39, go_sem, k0, k1, k2, k3, k4]) rfl (show CertR y l w _ _ from ⟨_, _, _, _, _, _, true, rfl, g1, fun _ => ⟨HOKC.out, g3⟩⟩)
      case neg =>
        have hpb : ((pl : Int) == (l.length : Int)) = false := by simp; omega
        have hpb2 : (pl == l.length) = false := by simpa using hpe
        clear hpe
        have hrb := HC.out.rb
        have b0 := hrb.at 0 rfl
        have b1 := hrb.at 1 rfl
        have b2 := hrb.at 2 rfl
        have b3 := hrb.at 3 rfl
        have b4 := hrb.at 4 rfl
        have f0 := hrb.free 0
        have f1 := hrb.free 1
        have f2 := hrb.free 2
        have f3 := hrb.free 3
        have f4 := hrb.free 4
        clear hrb
        go_wp2_with fail
        have HF := HC.out.fin (.slice sa y.s.spots.length sc) (vi y.s.strain) (.slice ta y.s.tools.length tc) (vi y.s.day) (.slice ra y.s.reads.length rc)
        obtain ⟨g1, g2, g3⟩ := HF
        have k0 := g2.at 0 (v := .slice sa y.s.spots.length sc) rfl
        have k1 := g2.at 1 (v := vi y.s.strain) rfl
        have k2 := g2.at 2 (v := .slice ta y.s.tools.length tc) rfl
        have k3 := g2.at 3 (v := vi y.s.day) rfl
        have k4 := g2.at 4 (v := .slice ra y.s.reads.length rc) rfl
        exact bodyPost_ret (v := .tuple #[.agg #[.slice sa y.s.spots.length sc, vi y.s.strain, .slice ta y.s.tools.length tc, vi y.s.day, .slice ra y.s.reads.length rc], .bool false]) (by simp [results, Try.results39, go_sem, k0, k1, k2, k3, k4]) rfl (show CertR y l w _ _ from ⟨_, _, _, _, _, _, false, rfl, g1, fun h => by cases h⟩)
    case pos =>
      have hin : (i : Int) < y.s.tools.length := by omega
      obtain ⟨t, ht⟩ : ∃ t, y.s.tools[i]? = some t := ⟨_, List.getElem?_eq_getElem hlt⟩
      have htc : (certN y.s l i).tools[i]? = some t := by rw [cert_tool y.s l i i t ht, if_neg (by omega)]
      obtain ⟨tb, rfl, htb⟩ := own_some hct.tl (by omega)
      obtain ⟨g', o', eg, _, _, _, _, t3, _, _, _⟩ := row7 (row_of_own (enc := tlL) (size := 7) (by decide) (fun _ => rfl) hct.tl) htc
      injection eg with eg
      injection eg with e1 e2
      subst e1
      subst e2
      rw [Nat.zero_add] at t3
      obtain ⟨T, hT⟩ : ∃ q, q = t.turn := ⟨_, rfl⟩
      rw [← hT] at t3
      have HTT := Lib.hid (And.intro ht (And.intro htc (And.intro hT htb)))
      have hTb := (HSD.out.tool t (List.mem_of_getElem? ht)).turn
      rw [← hT] at hTb
      have hsucc := placeN_succ ht
      rw [← HPL.out, ← hT] at hsucc
      have HPS := Lib.hid hsucc
      clear hct ht htc hT hsucc htb
      by_cases hT0 : T = 0
      case pos =>
        have HN := Lib.hid (show certN y.s l (i + 1) = certN y.s l i from cert_no HTT.out.1 (by rw [← HTT.out.2.2.1]; exact hT0))
        have HP2 := Lib.hid (show placeN y.s.tools (i + 1) = pl by rw [HPS.out, if_pos hT0, Nat.add_zero])
        have HU2 := Lib.hid (HUP.out.1.succ HTT.out.1 (fun h => absurd (show t.turn = 0 by rw [← HTT.out.2.2.1]; exact hT0) h))
        subst hT0
        clear hTb
        go_wp2_with fail
        refine ⟨⟨i + 1, by omega, rfl, by rw [HP2.out], HU2.out, by rw [HP2.out]; exact hpll, by rw [HN.out]; exact HC.out⟩, ?_⟩
        simp [intOf]
        omega
      case neg =>
        have hTp : 2 ≤ T := by omega
        have hTq : T ≤ 200 := by omega
        have hTn : (T == 0) = false := by simpa using hT0
        have HT0 := Lib.hid hT0
        clear hTb hT0
        by_cases hk : pl < l.length
        case neg =>
          have hkb : (l.length : Int) ≤ pl := by omega
          have hkb2 : l.length ≤ pl := by omega
          have hrb := HC.out.rb
          have b0 := hrb.at 0 rfl
          have b1 := hrb.at 1 rfl
          have b2 := hrb.at 2 rfl
          have b3 := hrb.at 3 rfl
          have b4 := hrb.at 4 rfl
          have f0 := hrb.free 0
          have f1 := hrb.free 1
          have f2 := hrb.free 2
          have f3 := hrb.free 3
          have f4 := hrb.free 4
          clear hrb
          go_wp2_with fail
          have HF := HC.out.fin (.slice sa y.s.spots.length sc) (vi y.s.strain) (.slice (some ⟨tb, 0, none⟩) y.s.tools.length tc) (vi y.s.day) (.slice ra y.s.reads.length rc)
          obtain ⟨g1, g2, g3⟩ := HF
          have k0 := g2.at 0 (v := .slice sa y.s.spots.length sc) rfl
          have k1 := g2.at 1 (v := vi y.s.strain) rfl
          have k2 := g2.at 2 (v := .slice (some ⟨tb, 0, none⟩) y.s.tools.length tc) rfl
          have k3 := g2.at 3 (v := vi y.s.day) rfl
          have k4 := g2.at 4 (v := .slice ra y.s.reads.length rc) rfl
          exact bodyPost_ret (v := .tuple #[.agg #[.slice sa y.s.spots.length sc, vi y.s.strain, .slice (some ⟨tb, 0, none⟩) y.s.tools.length tc, vi y.s.day, .slice ra y.s.reads.length rc], .bool false]) (by simp [results, Try.results39, go_sem, k0, k1, k2, k3, k4]) rfl (show CertR y l w _ _ from ⟨_, _, _, _, _, _, false, rfl, g1, fun h => by cases h⟩)
        case pos =>
          have hkl : (pl : Int) < l.length := by omega
          obtain ⟨va, hva⟩ : ∃ a, l[pl]? = some a := ⟨_, List.getElem?_eq_getElem hk⟩
          obtain ⟨r, hrr⟩ : ∃ r, (certN y.s l i).reads[i]? = some r := ⟨_, List.getElem?_eq_getElem (by rw [(cert_len y.s l i).2.1]; have := HRL.out; omega)⟩
          have hrs : r = readAt y.s i := by
            have h := cert_read HSD.out l i i t HTT.out.1
            rw [if_neg (by omega)] at h
            rw [← h]
            unfold readAt
            rw [List.getD_eq_getElem?_getD, hrr]
            rfl
          have hvd : l.getD pl 0 = va := by rw [List.getD_eq_getElem?_getD, hva]; rfl
          obtain ⟨lb, lo, el, _, l0⟩ := row1 (HLR.out.below HC.out.nw) hva
          have HLQ := Lib.hid (And.intro hrs (And.intro hvd hrr))
          have hrb := HSD.out.rdAt i
          rw [← hrs] at hrb
          have hrb1 := hrb.1
          have hrb2 := hrb.2
          have HI2 := Lib.hid (fun W => in_any va (-2000) 2000 W)
          rw [el]
          clear hva hrr hrs hvd hrb el
          cases hb : inB va (-2000) 2000 with
          | false =>
            rw [hb] at HI2
            clear hb
            go_wp2_with fail
            refine (HI2.out _).mono ?_
            rintro e w5 ⟨rfl, rfl⟩
            have hrb := HC.out.rb
            have b0 := hrb.at 0 rfl
            have b1 := hrb.at 1 rfl
            have b2 := hrb.at 2 rfl
            have b3 := hrb.at 3 rfl
            have b4 := hrb.at 4 rfl
            have f0 := hrb.free 0
            have f1 := hrb.free 1
            have f2 := hrb.free 2
            have f3 := hrb.free 3
            have f4 := hrb.free 4
            clear hrb
            go_wp2_with fail
            have HF := HC.out.fin (.slice sa y.s.spots.length sc) (vi y.s.strain) (.slice (some ⟨tb, 0, none⟩) y.s.tools.length tc) (vi y.s.day) (.slice ra y.s.reads.length rc)
            obtain ⟨g1, g2, g3⟩ := HF
            have k0 := g2.at 0 (v := .slice sa y.s.spots.length sc) rfl
            have k1 := g2.at 1 (v := vi y.s.strain) rfl
            have k2 := g2.at 2 (v := .slice (some ⟨tb, 0, none⟩) y.s.tools.length tc) rfl
            have k3 := g2.at 3 (v := vi y.s.day) rfl
            have k4 := g2.at 4 (v := .slice ra y.s.reads.length rc) rfl
            exact bodyPost_ret (v := .tuple #[.agg #[.slice sa y.s.spots.length sc, vi y.s.strain, .slice (some ⟨tb, 0, none⟩) y.s.tools.length tc, vi y.s.day, .slice ra y.s.reads.length rc], .bool false]) (by simp [results, Try.results39, go_sem, k0, k1, k2, k3, k4]) rfl (show CertR y l w _ _ from ⟨_, _, _, _, _, _, false, rfl, g1, fun h => by cases h⟩)
          | true =>
            rw [hb] at HI2
            unfold inB at hb
            rw [Bool.and_eq_true, decide_eq_true_eq, decide_eq_true_eq] at hb
            have hv1 := hb.1
            have hv2 := hb.2
            have hmul := mulb (a := T) (x := va) (A := 200) (X := 2000) (by omega) hb
            have hm1 : -400000 ≤ T * va := hmul.1
            have hm2 : T * va ≤ 400000 := hmul.2
            have hwm : IntKind.i64.wrap (T * va) = T * va := IntWalk.i64_in _ (by omega)
            have hwa : IntKind.i64.wrap (r + T * va) = r + T * va := IntWalk.i64_in _ (by omega)
            have HM := Lib.hid (And.intro hm1 hm2)
            clear hb hmul
            go_wp2_with fail
            refine (HI2.out _).mono ?_
            rintro e w5 ⟨rfl, rfl⟩
            have hrd := HC.out.rd
            obtain ⟨rb, rfl, hrb⟩ := own_some hrd (by have := HRL.out; omega)
            obtain ⟨rcs, hrc⟩ := own_cells hrd
            obtain ⟨g', o', eg, _, r0⟩ := row1 (row_of_own (enc := intL) (size := 1) (by decide) (fun _ => rfl) hrd) HLQ.out.2.2
            injection eg with eg
            injection eg with e1 e2
            subst e1
            subst e2
            rw [Nat.zero_add] at r0
            have HRC := Lib.hid (And.intro hrc hrb)
            have hir : (i : Int) < y.s.reads.length := by have := HRL.out; omega
            clear hrd hrc hrb HI2
            go_upto_region 10 with fail
            refine wp_words (by kernel_rfl) (region_told 16 (by kernel_rfl) (by kernel_rfl) (fun W => Below wr.heap.size wr W) newer (pickD [vIs (.pointer (some ⟨ob, 4, none⟩)), vIs (.slice (some ⟨rb, 0, none⟩) y.s.reads.length rc), vIs (vi i), vIs (.pointer (some ⟨rb, i, none⟩)), vIs (vi r), vIs (.pointer (some ⟨tb, i * 7, none⟩)), vIs (.pointer (some ⟨tb, i * 7, none⟩)), vIs (.pointer (some ⟨tb, i * 7 + 3, none⟩)), vIs (vi T), vIs (.slice (some ⟨lb, lo, none⟩) l.length lc), vIs (vi pl), vIs (.pointer (some ⟨lb, lo + pl, none⟩)), vIs (vi va), vIs (vi (T * va)), vIs (vi (r + T * va)), vIs (.pointer (some ⟨rb, i, none⟩))]) (fun h k => newer_trans h k) (pickD_stable _ ⟨vIs_st, vIs_st, vIs_st, vIs_st, vIs_st, vIs_st, vIs_st, vIs_st, vIs_st, vIs_st, vIs_st, vIs_st, vIs_st, vIs_st, vIs_st, vIs_st, trivial⟩) (Below.refl _ wr).drew (Below.refl _ _) ?_ ?_)
            · refine ⟨?_, ?_, ?_, ?_, ?_, ?_, ?_, ?_, ?_, ?_, ?_, ?_, ?_, ?_, ?_, ?_, trivial⟩
              · intro a W hG hR hO hp
                have h6 := hO.slot 6 (by kernel_rfl)
                refine kY (v := .pointer (some ⟨ob, 4, none⟩)) hG rfl ?_
                simp [slotOf] at h6
                simp [execOp, go_sem, h6]
              · intro a W hG hR hO hp
                have h41 : slotOf a 41 = .pointer (some ⟨ob, 4, none⟩) := hp.1
                have c0 := keep_cell z4 hG
                refine kY (v := .slice (some ⟨rb, 0, none⟩) y.s.reads.length rc) hG rfl ?_
                simp [slotOf] at h41
                simp [execOp, go_sem, h41, c0]
              · exact fun a W hG _ hO _ => kM 8 rfl (hO.slot 8 (by kernel_rfl)) rfl hG
              · intro a W hG hR hO hp
                have h42 : slotOf a 42 = .slice (some ⟨rb, 0, none⟩) y.s.reads.length rc := hp.1
                have h43 : slotOf a 43 = vi i := hp.2.1
                refine kY (v := .pointer (some ⟨rb, i, none⟩)) hG rfl ?_
                simp [slotOf] at h42 h43
                simp [execOp, go_sem, h42, h43, hir]
              · intro a W hG hR hO hp
                have h44 : slotOf a 44 = .pointer (some ⟨rb, i, none⟩) := hp.1
                have c0 := keep_cell r0 hG
                refine kY (v := vi r) hG rfl ?_
                simp [slotOf] at h44
                simp [execOp, go_sem, h44, c0]
              · exact fun a W hG _ hO _ => kM 9 rfl (hO.slot 9 (by kernel_rfl)) rfl hG
              · intro a W hG hR hO hp
                have h46 : slotOf a 46 = .pointer (some ⟨tb, i * 7, none⟩) := hp.1
                refine kY (v := .pointer (some ⟨tb, i * 7, none⟩)) hG rfl ?_
                simp [slotOf] at h46
                simp [execOp, go_sem, h46]
              · intro a W hG hR hO hp
                have h47 : slotOf a 47 = .pointer (some ⟨tb, i * 7, none⟩) := hp.1
                refine kY (v := .pointer (some ⟨tb, i * 7 + 3, none⟩)) hG rfl ?_
                simp [slotOf] at h47
                simp [execOp, go_sem, h47]
              · intro a W hG hR hO hp
                have h48 : slotOf a 48 = .pointer (some ⟨tb, i * 7 + 3, none⟩) := hp.1
                have c0 := keep_cell t3 hG
                refine kY (v := vi T) hG rfl ?_
                simp [slotOf] at h48
                simp [execOp, go_sem, h48, c0]
              · exact fun a W hG _ hO _ => kM 1 rfl (hO.slot 1 (by kernel_rfl)) rfl hG
              · exact fun a W hG _ hO _ => kM 7 rfl (hO.slot 7 (by kernel_rfl)) rfl hG
              · intro a W hG hR hO hp
                have h50 : slotOf a 50 = .slice (some ⟨lb, lo, none⟩) l.length lc := hp.1
                have h51 : slotOf a 51 = vi pl := hp.2.1
                refine kY (v := .pointer (some ⟨lb, lo + pl, none⟩)) hG rfl ?_
                simp [slotOf] at h50 h51
                simp [execOp, go_sem, h50, h51, hkl]
              · intro a W hG hR hO hp
                have h52 : slotOf a 52 = .pointer (some ⟨lb, lo + pl, none⟩) := hp.1
                have c0 := keep_cell l0 hG
                refine kY (v := vi va) hG rfl ?_
                simp [slotOf] at h52
                simp [execOp, go_sem, h52, c0]
              · intro a W hG hR hO hp
                have h49 : slotOf a 49 = vi T := hp.1
                have h53 : slotOf a 53 = vi va := hp.2.1
                refine kY (v := vi (T * va)) hG rfl ?_
                simp [slotOf] at h49 h53
                simp [execOp, go_sem, h49, h53, hwm]
              · intro a W hG hR hO hp
                have h45 : slotOf a 45 = vi r := hp.1
                have h54 : slotOf a 54 = vi (T * va) := hp.2.1
                refine kY (v := vi (r + T * va)) hG rfl ?_
                simp [slotOf] at h45 h54
                simp [execOp, go_sem, h45, h54, hwa]
              · intro a W hG hR hO hp
                have h42 : slotOf a 42 = .slice (some ⟨rb, 0, none⟩) y.s.reads.length rc := hp.1
                have h43 : slotOf a 43 = vi i := hp.2.1
                refine kY (v := .pointer (some ⟨rb, i, none⟩)) hG rfl ?_
                simp [slotOf] at h42 h43
                simp [execOp, go_sem, h42, h43, hir]
            · intro w6 hG hR
              rintro _ rfl _ rfl _ rfl _ rfl _ rfl _ rfl _ rfl _ rfl _ rfl _ rfl _ rfl _ rfl _ rfl _ rfl _ rfl _ rfl
              change wpList _ _ _ _ _ _
              simp only [Act.put, List.setIfInBounds_toArray, List.set_cons_zero, List.set_cons_succ, List.drop_succ_cons, List.drop_zero]
              have HC6 := Lib.hid (HC.out.next hG)
              have hrc6 := HRC.out.1.below hG HRC.out.1.lt
              have r06 := keep_cell r0 hG
              have rf6 := hrc6.free i
              clear hG hR r0 t3 l0 z0 z1 z2 z3 z4 hrc6
              go_upto_region 11 with fail
              refine genQ (fun X => CtA y w ob sa (some ⟨tb, 0, none⟩) (some ⟨rb, 0, none⟩) sc tc rc (certN y.s l i).tools ((certN y.s l i).reads.set i (r + T * va)) X) (HC6.out.setR HRC.out.2) ?_
              intro w7 hc7
              have HC7 := Lib.hid hc7
              obtain ⟨tcs, htc7⟩ := own_cells hc7.tl
              obtain ⟨g', o', eg, _, _, _, _, t3, _, _, _⟩ := row7 (row_of_own (enc := tlL) (size := 7) (by decide) (fun _ => rfl) hc7.tl) HTT.out.2.1
              injection eg with eg
              injection eg with e1 e2
              subst e1
              subst e2
              rw [Nat.zero_add, ← HTT.out.2.2.1] at t3
              have tf := htc7.free (i * 7 + 3)
              clear hc7 htc7 r06 rf6 HC6
              go_upto_region 12 with fail
              refine genQ (fun X => CtA y w ob sa (some ⟨tb, 0, none⟩) (some ⟨rb, 0, none⟩) sc tc rc ((certN y.s l i).tools.set i { t with turn := 0 }) ((certN y.s l i).reads.set i (r + T * va)) X) (HC7.out.setT HTT.out.2.2.2 HTT.out.2.1) ?_
              intro w8 hc8
              have hsuc : certN y.s l (i + 1) = { certN y.s l i with tools := (certN y.s l i).tools.set i { t with turn := 0 }, reads := (certN y.s l i).reads.set i (r + T * va) } := by
                rw [cert_yes HTT.out.1 (by rw [← HTT.out.2.2.1]; exact HT0.out), ← HLQ.out.1, ← HTT.out.2.2.1, ← HPL.out, HLQ.out.2.1]
              have hct9 : CtA y w ob sa (some ⟨tb, 0, none⟩) (some ⟨rb, 0, none⟩) sc tc rc (certN y.s l (i + 1)).tools (certN y.s l (i + 1)).reads w8 := by rw [hsuc]; exact hc8
              have HC9 := Lib.hid hct9
              have z4 := hc8.oz.at 4 (v := .slice (some ⟨rb, 0, none⟩) y.s.reads.length rc) rfl
              obtain ⟨g', o', eg, _, r0⟩ := row1 (row_of_own (enc := intL) (size := 1) (by decide) (fun _ => rfl) hc8.rd) (k := i) (c := r + T * va) (by rw [List.getElem?_set, if_pos rfl, if_pos (by rw [(cert_len y.s l i).2.1]; have := HRL.out; omega)])
              injection eg with eg
              injection eg with e1 e2
              subst e1
              subst e2
              rw [Nat.zero_add] at r0
              obtain ⟨v, hv⟩ : ∃ v, v = r + T * va := ⟨_, rfl⟩
              rw [← hv] at r0
              have HV := Lib.hid hv
              have HI3 := Lib.hid (fun W => in_any v (-1000) 1000 W)
              clear hc8 hsuc hct9 t3 tf HC7 hv hwm hwa
              cases hb : inB v (-1000) 1000 with
              | false =>
                rw [hb] at HI3
                clear hb
                go_wp2_with fail
                refine (HI3.out _).mono ?_
                rintro e w9 ⟨rfl, rfl⟩
                have hz := HC9.out.oz
                have z0 := hz.at 0 (v := .slice sa y.s.spots.length sc) rfl
                have z1 := hz.at 1 (v := vi y.s.strain) rfl
                have z2 := hz.at 2 (v := .slice (some ⟨tb, 0, none⟩) y.s.tools.length tc) rfl
                have z3 := hz.at 3 (v := vi y.s.day) rfl
                clear hz r0
                have hrb := HC9.out.rb
                have b0 := hrb.at 0 rfl
                have b1 := hrb.at 1 rfl
                have b2 := hrb.at 2 rfl
                have b3 := hrb.at 3 rfl
                have b4 := hrb.at 4 rfl
                have f0 := hrb.free 0
                have f1 := hrb.free 1
                have f2 := hrb.free 2
                have f3 := hrb.free 3
                have f4 := hrb.free 4
                clear hrb
                go_wp2_with fail
                have HF := HC9.out.fin (.slice sa y.s.spots.length sc) (vi y.s.strain) (.slice (some ⟨tb, 0, none⟩) y.s.tools.length tc) (vi y.s.day) (.slice (some ⟨rb, 0, none⟩) y.s.reads.length rc)
                obtain ⟨g1, g2, g3⟩ := HF
                have k0 := g2.at 0 (v := .slice sa y.s.spots.length sc) rfl
                have k1 := g2.at 1 (v := vi y.s.strain) rfl
                have k2 := g2.at 2 (v := .slice (some ⟨tb, 0, none⟩) y.s.tools.length tc) rfl
                have k3 := g2.at 3 (v := vi y.s.day) rfl
                have k4 := g2.at 4 (v := .slice (some ⟨rb, 0, none⟩) y.s.reads.length rc) rfl
                exact bodyPost_ret (v := .tuple #[.agg #[.slice sa y.s.spots.length sc, vi y.s.strain, .slice (some ⟨tb, 0, none⟩) y.s.tools.length tc, vi y.s.day, .slice (some ⟨rb, 0, none⟩) y.s.reads.length rc], .bool false]) (by simp [results, Try.results39, go_sem, k0, k1, k2, k3, k4]) rfl (show CertR y l w _ _ from ⟨_, _, _, _, _, _, false, rfl, g1, fun h => by cases h⟩)
              | true =>
                rw [hb] at HI3
                unfold inB at hb
                rw [Bool.and_eq_true, decide_eq_true_eq, decide_eq_true_eq] at hb
                have HB2 := Lib.hid hb
                have HP2 := Lib.hid (show placeN y.s.tools (i + 1) = pl + 1 by rw [HPS.out, if_neg HT0.out])
                have HU2 := Lib.hid (HUP.out.1.succ HTT.out.1 (fun _ => by
                  rw [← HLQ.out.1, ← HTT.out.2.2.1, ← HPL.out, HLQ.out.2.1, ← HV.out]
                  exact HB2.out))
                clear hb
                go_wp2_with fail
                refine (HI3.out _).mono ?_
                rintro e w9 ⟨rfl, rfl⟩
                clear r0 z4
                go_wp2_with fail
                refine ⟨⟨i + 1, by omega, rfl, by rw [HP2.out]; rfl, HU2.out, by rw [HP2.out]; omega, HC9.out⟩, ?_⟩
                simp [intOf]
                omega

end Go.Proofs.Ytpmafnifgegfbaa
