/- RadarMore walked: it returns true, and leaves what was there. -/
import Derived.Test.YtpmafnifgegfbaaAT
import Derived.Test.YtpmafnifgegfbaaAL3
import Derived.Test.YtpmafnifgegfbaaPD
import Derived.Test.YtpmafnifgegfbaaGV
import Derived.Deep.CutBlock
namespace Go.Proofs.Ytpmafnifgegfbaa
open Go.RowKit Go.Shelf Go.Deep

theorem info_rspot : (Try.prog.info? 73).map (fun i => (i.zero, i.size, i.bytes)) = some (some (.agg #[vi 0, vi 0, vi 0, vi 0]), 4, 32) := by kernel_rfl
/-- A survey whose fields are fields of another one. -/
def MoreOk (s x : Sd) : Prop := x.spots.length = s.spots.length ∧ (SdOk x → ∀ f, Agree x (freeL x) f → Agree s (freeL s) f)
def MoreR (y : Sm) (w : World) (xb : Nat) (W : World) : Prop := ∃ X : Sm, newer w W ∧ Whole W w.heap.size 26 (smC y) ∧ Whole W xb 26 (smC X) ∧ SmOk X W ∧ SmFew X ∧ MoreOk y.s X.s
/-- A copy of a survey that is to be changed. -/
structure MoreA (y : Sm) (w : World) (xb gs sc2 : Nat) (TA : Option Addr) (tc2 b : Nat) (W : World) : Prop where
  nw : newer w W
  b0 : Whole W w.heap.size 26 (smC y)
  bx : Whole W xb 26 #[.slice (some ⟨gs, 0, none⟩) y.s.spots.length sc2, vi y.s.strain, .slice TA y.s.tools.length tc2, vi y.s.day, .slice y.ra y.s.reads.length y.rc]
  os : W.ownsRow b 73 4 (.slice (some ⟨gs, 0, none⟩) y.s.spots.length sc2) y.s.spots.length (y.s.spots.flatMap spL)
  ot : W.ownsRow b 43 7 (.slice TA y.s.tools.length tc2) y.s.tools.length (y.s.tools.flatMap tlL)
  lx : w.heap.size < xb
  lb : w.heap.size ≤ b
theorem own_base {w : World} {base : Nat} {e : TypeId} {size n c : Nat} {g : Nat} {xs : List Value} (h : w.ownsRow base e size (.slice (some ⟨g, 0, none⟩) n c) n xs) : base ≤ w.heap.size := by
  have h1 := own_ge h g rfl
  have h2 := own_lt h g rfl
  omega
section
variable {y : Sm} {w W W' : World} {xb gs sc2 : Nat} {TA : Option Addr} {tc2 b : Nat}
theorem MoreA.next (h : MoreA y w xb gs sc2 TA tc2 b W) (hb : newer W W') : MoreA y w xb gs sc2 TA tc2 b W' := ⟨newer_trans h.nw hb, h.b0.below hb h.b0.lt, h.bx.below hb h.bx.lt, own_below h.os hb, own_below h.ot hb, h.lx, h.lb⟩
theorem MoreA.spot (h : MoreA y w xb gs sc2 TA tc2 b W) (hok : SmOk y w) (hs : SdOk y.s) (few : SmFew y) {k c : Nat} {p p' : Sp} {v : Value} (hc : c < 4) (hp : y.s.spots[k]? = some p) (h2 : spL p' = (spL p).set c v) (hrg : rgOk p'.x ∧ rgOk p'.y) (hn : (p.x.lo ≤ p'.x.lo ∧ p'.x.hi ≤ p.x.hi) ∧ p.y.lo ≤ p'.y.lo ∧ p'.y.hi ≤ p.y.hi) : MoreR y w xb (W.setCell ⟨gs, k * 4 + c, none⟩ v) := by
  have hgs : w.heap.size ≤ gs := Nat.le_trans h.lb (own_ge h.os gs rfl)
  have n0 : w.heap.size ≠ gs := fun e => own_ne h.os h.b0 (by decide) (by rw [e]; rfl)
  have nx : xb ≠ gs := fun e => own_ne h.os h.bx (by decide) (by rw [e]; rfl)
  have hn1 := h.nw.setCell (p := ⟨gs, k * 4 + c, none⟩) hgs v
  refine ⟨⟨spotS y.s k p', some ⟨gs, 0, none⟩, sc2, TA, tc2, y.ra, y.rc⟩, hn1, h.b0.far (p := ⟨gs, k * 4 + c, none⟩) n0 v, ?_, ⟨?_, ?_, (hok.next hn1).rd⟩, ⟨?_, few.tl, few.rd⟩, spotS_len _ _ _, fun _ f ha => more_spot hs hp hrg hn f ha⟩
  · have e : smC ⟨spotS y.s k p', some ⟨gs, 0, none⟩, sc2, TA, tc2, y.ra, y.rc⟩ = #[.slice (some ⟨gs, 0, none⟩) y.s.spots.length sc2, vi y.s.strain, .slice TA y.s.tools.length tc2, vi y.s.day, .slice y.ra y.s.reads.length y.rc] := by
      show (#[Value.slice _ (spotS y.s k p').spots.length _, _, _, _, _] : Array Value) = _
      rw [spotS_len]
      rfl
    rw [e]
    exact h.bx.far (p := ⟨gs, k * 4 + c, none⟩) nx v
  · have h3 := own_put_one (enc := spL) (fun _ => rfl) hc h.os hp h2
    rw [show y.s.spots.length = (y.s.spots.set k p').length by rw [List.length_set]] at h3
    exact row_of_own (enc := spL) (size := 4) (by decide) (fun _ => rfl) h3
  · exact row_of_own (enc := tlL) (size := 7) (by decide) (fun _ => rfl) (own_set h.ot (fun e => own_own_ne h.ot h.os (by decide) gs e rfl) v)
  · show (spotS y.s k p').spots.length ≤ _
    rw [spotS_len]
    exact few.sp
theorem MoreA.strain (h : MoreA y w xb gs sc2 TA tc2 b W) (hok : SmOk y w) (hs : SdOk y.s) (few : SmFew y) {q : Int} (hq : 0 ≤ q ∧ q ≤ y.s.strain) : MoreR y w xb (W.setCell ⟨xb, 1, none⟩ (vi q)) := by
  have hn1 := h.nw.setCell (p := ⟨xb, 1, none⟩) (Nat.le_of_lt h.lx) (vi q)
  exact ⟨⟨{ y.s with strain := q }, some ⟨gs, 0, none⟩, sc2, TA, tc2, y.ra, y.rc⟩, hn1, h.b0.far (p := ⟨xb, 1, none⟩) (Nat.ne_of_lt h.lx) _, h.bx.set 1 _, ⟨row_of_own (enc := spL) (size := 4) (by decide) (fun _ => rfl) (own_set h.os (own_ne h.os h.bx (by decide)) _), row_of_own (enc := tlL) (size := 7) (by decide) (fun _ => rfl) (own_set h.ot (own_ne h.ot h.bx (by decide)) _), (hok.next hn1).rd⟩, ⟨few.sp, few.tl, few.rd⟩, rfl, fun _ f ha => (more_strain hs hq).2 f ha⟩
theorem MoreA.same (h : MoreA y w xb gs sc2 TA tc2 b W) (hok : SmOk y w) (few : SmFew y) : MoreR y w xb W :=
  ⟨⟨y.s, some ⟨gs, 0, none⟩, sc2, TA, tc2, y.ra, y.rc⟩, h.nw, h.b0, h.bx, ⟨row_of_own (enc := spL) (size := 4) (by decide) (fun _ => rfl) h.os, row_of_own (enc := tlL) (size := 7) (by decide) (fun _ => rfl) h.ot, (hok.next h.nw).rd⟩, ⟨few.sp, few.tl, few.rd⟩, rfl, fun _ _ ha => ha⟩
theorem MoreA.tool {gt : Nat} (h : MoreA y w xb gs sc2 (some ⟨gt, 0, none⟩) tc2 b W) (hok : SmOk y w) (hs : SdOk y.s) (few : SmFew y) {j : Nat} {t : Tl} {e d : Int} (ht : y.s.tools[j]? = some t) (he : 0 ≤ e ∧ e ≤ t.err) (hd : 0 ≤ d ∧ d ≤ t.drift) : MoreR y w xb ((W.setCell ⟨gt, j * 7 + 4, none⟩ (vi e)).setCell ⟨gt, j * 7 + 5, none⟩ (vi d)) := by
  have hgt : w.heap.size ≤ gt := Nat.le_trans h.lb (own_ge h.ot gt rfl)
  have n0 : w.heap.size ≠ gt := fun e => own_ne h.ot h.b0 (by decide) (by rw [e]; rfl)
  have nx : xb ≠ gt := fun e => own_ne h.ot h.bx (by decide) (by rw [e]; rfl)
  have hn1 := (h.nw.setCell (p := ⟨gt, j * 7 + 4, none⟩) hgt (vi e)).setCell (p := ⟨gt, j * 7 + 5, none⟩) hgt (vi d)
  have hne : (Value.slice (some ⟨gs, 0, none⟩) y.s.spots.length sc2).ownBlock ≠ some gt := fun e => own_own_ne h.os h.ot (by decide) gt e rfl
  refine ⟨⟨{ y.s with tools := y.s.tools.set j { t with err := e, drift := d } }, some ⟨gs, 0, none⟩, sc2, some ⟨gt, 0, none⟩, tc2, y.ra, y.rc⟩, hn1, (h.b0.far (p := ⟨gt, j * 7 + 4, none⟩) n0 _).far (p := ⟨gt, j * 7 + 5, none⟩) n0 _, ?_, ⟨row_of_own (enc := spL) (size := 4) (by decide) (fun _ => rfl) (own_set (own_set h.os hne _) hne _), ?_, (hok.next hn1).rd⟩, ⟨few.sp, ?_, few.rd⟩, rfl, fun _ f ha => (more_tool hs ht he hd).2 f ha⟩
  · have e1 : smC ⟨{ y.s with tools := y.s.tools.set j { t with err := e, drift := d } }, some ⟨gs, 0, none⟩, sc2, some ⟨gt, 0, none⟩, tc2, y.ra, y.rc⟩ = #[.slice (some ⟨gs, 0, none⟩) y.s.spots.length sc2, vi y.s.strain, .slice (some ⟨gt, 0, none⟩) y.s.tools.length tc2, vi y.s.day, .slice y.ra y.s.reads.length y.rc] := by
      show (#[_, _, Value.slice _ (y.s.tools.set j _).length _, _, _] : Array Value) = _
      rw [List.length_set]
    rw [e1]
    exact (h.bx.far (p := ⟨gt, j * 7 + 4, none⟩) nx _).far (p := ⟨gt, j * 7 + 5, none⟩) nx _
  · have h3 := own_put_one (x' := { t with err := e }) (enc := tlL) (fun _ => rfl) (show 4 < 7 by decide) h.ot ht (v := vi e) rfl
    have h4 := own_put_one (x' := { t with err := e, drift := d }) (enc := tlL) (fun _ => rfl) (show 5 < 7 by decide) h3 (set_at ht) (v := vi d) rfl
    rw [List.set_set, show y.s.tools.length = (y.s.tools.set j { t with err := e, drift := d }).length by rw [List.length_set]] at h4
    exact row_of_own (enc := tlL) (size := 7) (by decide) (fun _ => rfl) h4
  · show (y.s.tools.set j _).length ≤ _
    rw [List.length_set]
    exact few.tl
theorem MoreA.with_ {TB RB : Option Addr} {tb rb : Nat} {t : Tl} {r : Int} (h : MoreA y w xb gs sc2 TA tc2 b W) (hs : SdOk y.s) (ht : W.ownsRow b 43 7 (.slice TB (y.s.tools.length + 1) tb) (y.s.tools.length + 1) (y.s.tools.flatMap tlL ++ [t].flatMap tlL)) (hi : W.ownsRow b 3 1 (.slice RB (y.s.reads.length + 1) rb) (y.s.reads.length + 1) (y.s.reads.flatMap intL ++ [vi r])) :
    MoreR y w xb ((((((W).setCell ⟨xb, 0, none⟩ (.slice (some ⟨gs, 0, none⟩) y.s.spots.length sc2)).setCell ⟨xb, 1, none⟩ (vi y.s.strain)).setCell ⟨xb, 2, none⟩ (.slice TB (y.s.tools.length + 1) tb)).setCell ⟨xb, 3, none⟩ (vi y.s.day)).setCell ⟨xb, 4, none⟩ (.slice RB (y.s.reads.length + 1) rb)) := by
  have hw := (((((h.bx).set 0 (.slice (some ⟨gs, 0, none⟩) y.s.spots.length sc2)).set 1 (vi y.s.strain)).set 2 (.slice TB (y.s.tools.length + 1) tb)).set 3 (vi y.s.day)).set 4 (.slice RB (y.s.reads.length + 1) rb)
  have hn1 : newer w ((((((W).setCell ⟨xb, 0, none⟩ (.slice (some ⟨gs, 0, none⟩) y.s.spots.length sc2)).setCell ⟨xb, 1, none⟩ (vi y.s.strain)).setCell ⟨xb, 2, none⟩ (.slice TB (y.s.tools.length + 1) tb)).setCell ⟨xb, 3, none⟩ (vi y.s.day)).setCell ⟨xb, 4, none⟩ (.slice RB (y.s.reads.length + 1) rb)) := (((((h.nw).setCell (p := ⟨xb, 0, none⟩) (Nat.le_of_lt h.lx) (.slice (some ⟨gs, 0, none⟩) y.s.spots.length sc2)).setCell (p := ⟨xb, 1, none⟩) (Nat.le_of_lt h.lx) (vi y.s.strain)).setCell (p := ⟨xb, 2, none⟩) (Nat.le_of_lt h.lx) (.slice TB (y.s.tools.length + 1) tb)).setCell (p := ⟨xb, 3, none⟩) (Nat.le_of_lt h.lx) (vi y.s.day)).setCell (p := ⟨xb, 4, none⟩) (Nat.le_of_lt h.lx) (.slice RB (y.s.reads.length + 1) rb)
  have hsp := own_put5 h.bx h.os (by decide) (.slice (some ⟨gs, 0, none⟩) y.s.spots.length sc2) (vi y.s.strain) (.slice TB (y.s.tools.length + 1) tb) (vi y.s.day) (.slice RB (y.s.reads.length + 1) rb)
  have hto := own_put5 h.bx ht (by decide) (.slice (some ⟨gs, 0, none⟩) y.s.spots.length sc2) (vi y.s.strain) (.slice TB (y.s.tools.length + 1) tb) (vi y.s.day) (.slice RB (y.s.reads.length + 1) rb)
  have hin := own_put5 h.bx hi (by decide) (.slice (some ⟨gs, 0, none⟩) y.s.spots.length sc2) (vi y.s.strain) (.slice TB (y.s.tools.length + 1) tb) (vi y.s.day) (.slice RB (y.s.reads.length + 1) rb)
  have hz := with_ok (y := ⟨y.s, some ⟨gs, 0, none⟩, sc2, TA, tc2, y.ra, y.rc⟩) (row_of_own (enc := spL) (size := 4) (by decide) (fun _ => rfl) hsp) hto hin
  refine ⟨⟨withS y.s t r, some ⟨gs, 0, none⟩, sc2, TB, tb, RB, rb⟩, hn1, (((((h.b0).far (p := ⟨xb, 0, none⟩) (Nat.ne_of_lt h.lx) (.slice (some ⟨gs, 0, none⟩) y.s.spots.length sc2)).far (p := ⟨xb, 1, none⟩) (Nat.ne_of_lt h.lx) (vi y.s.strain)).far (p := ⟨xb, 2, none⟩) (Nat.ne_of_lt h.lx) (.slice TB (y.s.tools.length + 1) tb)).far (p := ⟨xb, 3, none⟩) (Nat.ne_of_lt h.lx) (vi y.s.day)).far (p := ⟨xb, 4, none⟩) (Nat.ne_of_lt h.lx) (.slice RB (y.s.reads.length + 1) rb), ?_, hz, ⟨?_, ?_, ?_⟩, rfl, fun h' f ha => more_with hs h' f ha⟩
  · have e1 : smC ⟨withS y.s t r, some ⟨gs, 0, none⟩, sc2, TB, tb, RB, rb⟩ = #[.slice (some ⟨gs, 0, none⟩) y.s.spots.length sc2, vi y.s.strain, .slice TB (y.s.tools.length + 1) tb, vi y.s.day, .slice RB (y.s.reads.length + 1) rb] := by
      show (#[_, _, Value.slice _ (y.s.tools ++ [t]).length _, _, Value.slice _ (y.s.reads ++ [r]).length _] : Array Value) = _
      rw [List.length_append, List.length_append]
      rfl
    rw [e1]
    exact hw
  · show y.s.spots.length ≤ _
    have := hs.spots.2
    omega
  · show (y.s.tools ++ [t]).length ≤ _
    rw [List.length_append]
    have := hs.few
    have e : [t].length = 1 := rfl
    omega
  · show (y.s.reads ++ [r]).length ≤ _
    rw [List.length_append]
    have := hs.few
    have := hs.reads
    have e : [r].length = 1 := rfl
    omega
end
set_option maxRecDepth 100000 in
set_option maxHeartbeats 4000000 in
theorem radarMore_walk (y : Sm) (wn an bn : Nat) (t : Tl) (r : Int) (w : World) (hok : SmOk y w) (hwn : wn ≤ 255) (han : an ≤ 255) (hbn : bn ≤ 255) : Calls Try.prog 7 #[smV y, .int .u8 (wn : Int), .int .u8 (an : Int), .int .u8 (bn : Int), tlV t, vi r] w fun e w' => e = .returned (.bool true) ∧ newer w w' := by
  have hnw := newer_trans (newer_allocH w (.cells (smC y) 26)) (newer_allocH (w.alloc (.cells (smC y) 26)) (.cells (tlC t) 43))
  have hxb := (Whole.made w 26 (smC y)).alloc (.cells (tlC t) 43)
  have htb := Whole.made (w.alloc (.cells (smC y) 26)) 43 (tlC t)
  rw [World.size_alloc] at htb
  have HRD := Lib.hid (ready_any y _ (hok.next hnw))
  have HN0 := Lib.hid (And.intro hnw (And.intro hxb htb))
  have HOK := Lib.hid hok
  obtain ⟨i4, hi0, hz0, hz1, hz2⟩ := info_parts info_rspot
  have HI4 := Lib.hid (And.intro hi0 (And.intro hz0 (And.intro hz1 hz2)))
  clear hi0 hz0 hz1 hz2
  obtain ⟨i7, hi0, hz0, hz1, hz2⟩ := info_parts info_rtool
  have HI7 := Lib.hid (And.intro hi0 (And.intro hz0 (And.intro hz1 hz2)))
  clear hi0 hz0 hz1 hz2
  have x0 := hxb.at 0 (v := .slice y.sa y.s.spots.length y.sc) rfl
  have x1 := hxb.at 1 (v := vi y.s.strain) rfl
  have x2 := hxb.at 2 (v := .slice y.ta y.s.tools.length y.tc) rfl
  have x3 := hxb.at 3 (v := vi y.s.day) rfl
  have x4 := hxb.at 4 (v := .slice y.ra y.s.reads.length y.rc) rfl
  clear hok hnw hxb htb
  cases ht : readyB y.s with
  | false =>
    rw [ht] at HRD
    clear ht
    go_enter Try.func7, Try.ntmps7
    go_wp2_with fail
    refine (HRD.out).mono ?_
    rintro e w1 ⟨rfl, hb1⟩
    have HN := Lib.hid (newer_trans HN0.out.1 hb1)
    clear hb1 HRD HN0 x0 x1 x2 x3 x4
    go_wp2_with fail
    refine (awake_any _).mono ?_
    rintro e wk ⟨rfl, hb⟩
    have HK := Lib.hid (newer_trans (HN.out) hb)
    clear hb
    go_wp2_with fail
    go_ret
    exact ⟨rfl, HK.out⟩
  | true =>
    have HFW := Lib.hid (ready_parts ht).1
    have HSD := Lib.hid (ready_parts ht).2.1
    rw [ht] at HRD
    clear ht
    go_enter Try.func7, Try.ntmps7
    go_wp2_with fail
    refine (HRD.out).mono ?_
    rintro e w1 ⟨rfl, hb1⟩
    have HN := Lib.hid (newer_trans HN0.out.1 hb1)
    have HB := Lib.hid (And.intro (HN0.out.2.1.below hb1 HN0.out.2.1.lt) (HN0.out.2.2.below hb1 HN0.out.2.2.lt))
    clear hb1 HRD HN0 x0 x1 x2 x3 x4
    have x0 := HB.out.1.at 0 (v := .slice y.sa y.s.spots.length y.sc) rfl
    have x1 := HB.out.1.at 1 (v := vi y.s.strain) rfl
    have x2 := HB.out.1.at 2 (v := .slice y.ta y.s.tools.length y.tc) rfl
    have x3 := HB.out.1.at 3 (v := vi y.s.day) rfl
    have x4 := HB.out.1.at 4 (v := .slice y.ra y.s.reads.length y.rc) rfl
    go_upto_region 4 with fail
    obtain ⟨xb, hxb⟩ : ∃ q, q = w1.heap.size := ⟨_, rfl⟩
    rw [← hxb]
    have hna := newer_allocH w1 (.cells (smC y) 26)
    refine genQ (fun X => newer w X ∧ Whole X w.heap.size 26 (smC y) ∧ Whole X (w.heap.size + 1) 43 (tlC t) ∧ Whole X xb 26 (smC y)) ⟨newer_trans HN.out hna, HB.out.1.below hna HB.out.1.lt, HB.out.2.below hna HB.out.2.lt, by rw [hxb]; exact Whole.made _ _ _⟩ ?_
    rintro w2 ⟨hn2, hy2, ht2, hx2⟩
    have HXB := Lib.hid (show w.heap.size < xb ∧ w.heap.size + 1 < xb from ⟨by rw [hxb]; exact HB.out.1.lt, by rw [hxb]; exact HB.out.2.lt⟩)
    have H2 := Lib.hid (And.intro hn2 (And.intro hy2 (And.intro ht2 hx2)))
    clear x0 x1 x2 x3 x4 hna hxb HN HB
    have HSZ := Lib.hid (show w2.heap.size ≤ w2.heap.size ∧ w2.heap.size ≤ (w2.alloc (.cells #[] 73)).heap.size ∧ y.s.spots.length ≤ 1000 from ⟨Nat.le_refl _, by rw [World.size_alloc]; omega, by have := HSD.out.spots.2; omega⟩)
    have HRW := Lib.hid ((HOK.out.next (newer_trans hn2 (newer_allocH w2 (.cells #[] 73)))).sp)
    have x0 := keep_cell (hy2.at 0 (v := .slice y.sa y.s.spots.length y.sc) rfl) (newer_allocH w2 (.cells #[] 73))
    clear hn2 hy2 ht2 hx2
    go_upto_region 5 with (at_builtin; (refine wpList_plain rfl fun _ hK => wp_append_owncopy (enc := spL) (size := 4) w2.heap.size (.tmp 26) (.tmp 28) 22 73 i4 (.agg #[vi 0, vi 0, vi 0, vi 0]) 32 Try.underlying22 HI4.out.1 HI4.out.2.1 HI4.out.2.2.1 HI4.out.2.2.2 rfl (by omega) (by omega) (fun _ => rfl) rfl w2.heap.size rfl HSZ.out.1 (Whole.made _ _ _) y.s.spots y.sa y.sc rfl HSZ.out.2.2 HRW.out HSZ.out.2.1 fun B c' w3 hown hb hlt => hK _ _ ?_); have HB := Lib.hid (newer_trans (newer_allocH w2 (.cells #[] 73)) hb); have HO := Lib.hid hown; have HX3 := Lib.hid (H2.out.2.2.2.below HB.out H2.out.2.2.2.lt); have z0 := HX3.out.at 0 (v := .slice y.sa y.s.spots.length y.sc) rfl; have f0 := HX3.out.free 0; clear hown hb hlt)
    clear x0 HSZ HRW
    have hx3 := HX3.out
    have hq3 := fun {k tt : Nat} {cs : Array Value} (h : Whole w2 k tt cs) => h.below HB.out h.lt
    refine genQ (fun X => newer w X ∧ Whole X w.heap.size 26 (smC y) ∧ Whole X (w.heap.size + 1) 43 (tlC t) ∧ Whole X xb 26 #[.slice B y.s.spots.length c', vi y.s.strain, .slice y.ta y.s.tools.length y.tc, vi y.s.day, .slice y.ra y.s.reads.length y.rc] ∧ X.ownsRow w2.heap.size 73 4 (.slice B y.s.spots.length c') y.s.spots.length (y.s.spots.flatMap spL)) ⟨(newer_trans H2.out.1 HB.out).setCell (p := ⟨xb, 0, none⟩) (Nat.le_of_lt HXB.out.1) _, (hq3 H2.out.2.1).far (p := ⟨xb, 0, none⟩) (Nat.ne_of_lt HXB.out.1) _, (hq3 H2.out.2.2.1).far (p := ⟨xb, 0, none⟩) (Nat.ne_of_lt HXB.out.2) _, hx3.set 0 _, own_set HO.out (own_ne HO.out hx3 (by decide)) _⟩ ?_
    obtain ⟨gs, rfl, hgs⟩ := own_some HO.out (by have := HSD.out.spots.1; omega)
    have HGS := Lib.hid hgs
    obtain ⟨sc2, hsc2⟩ : ∃ q, q = c' := ⟨_, rfl⟩
    rw [← hsc2]
    clear hx3 hq3 z0 f0 hgs hsc2 HB HO HX3
    rintro w4 ⟨hn4, hy4, ht4, hx4, ho4⟩
    have H4 := Lib.hid (And.intro hn4 (And.intro hy4 (And.intro ht4 (And.intro hx4 ho4))))
    have hs4 : w2.heap.size ≤ w4.heap.size := by have h := own_lt ho4 gs rfl; have := HGS.out; omega
    have HSZ := Lib.hid (show w2.heap.size ≤ w4.heap.size ∧ w2.heap.size ≤ (w4.alloc (.cells #[] 43)).heap.size ∧ y.s.tools.length ≤ 1000 from ⟨hs4, by rw [World.size_alloc]; omega, by have := HSD.out.few; omega⟩)
    have HRW := Lib.hid ((HOK.out.next (newer_trans hn4 (newer_allocH w4 (.cells #[] 43)))).tl)
    have x2 := keep_cell (hy4.at 2 (v := .slice y.ta y.s.tools.length y.tc) rfl) (newer_allocH w4 (.cells #[] 43))
    clear hn4 hy4 ht4 hx4 ho4 hs4
    go_upto_region 6 with (at_builtin; (refine wpList_plain rfl fun _ hK => wp_append_owncopy (enc := tlL) (size := 7) w2.heap.size (.tmp 31) (.tmp 33) 23 43 i7 (.agg #[vi 0, vi 0, vi 0, vi 0, vi 0, vi 0, vi 0]) 56 Try.underlying23 HI7.out.1 HI7.out.2.1 HI7.out.2.2.1 HI7.out.2.2.2 rfl (by omega) (by omega) (fun _ => rfl) rfl w4.heap.size rfl HSZ.out.1 (Whole.made _ _ _) y.s.tools y.ta y.tc rfl HSZ.out.2.2 HRW.out HSZ.out.2.1 fun B c' w5 hown hb hlt => hK _ _ ?_); have HB := Lib.hid (newer_trans (newer_allocH w4 (.cells #[] 43)) hb); have HO := Lib.hid hown; have HX5 := Lib.hid (H4.out.2.2.2.1.below HB.out H4.out.2.2.2.1.lt); have z2 := HX5.out.at 2 (v := .slice y.ta y.s.tools.length y.tc) rfl; have f2 := HX5.out.free 2; clear hown hb hlt)
    clear x2 HSZ HRW
    have hx5 := HX5.out
    have hq5 := fun {k tt : Nat} {cs : Array Value} (h : Whole w4 k tt cs) => h.below HB.out h.lt
    have hos5 := own_below H4.out.2.2.2.2 HB.out
    refine genQ (fun X => newer w X ∧ Whole X w.heap.size 26 (smC y) ∧ Whole X (w.heap.size + 1) 43 (tlC t) ∧ Whole X xb 26 #[.slice (some ⟨gs, 0, none⟩) y.s.spots.length sc2, vi y.s.strain, .slice B y.s.tools.length c', vi y.s.day, .slice y.ra y.s.reads.length y.rc] ∧ X.ownsRow w2.heap.size 73 4 (.slice (some ⟨gs, 0, none⟩) y.s.spots.length sc2) y.s.spots.length (y.s.spots.flatMap spL) ∧ X.ownsRow w2.heap.size 43 7 (.slice B y.s.tools.length c') y.s.tools.length (y.s.tools.flatMap tlL)) ⟨(newer_trans H4.out.1 HB.out).setCell (p := ⟨xb, 2, none⟩) (Nat.le_of_lt HXB.out.1) _, (hq5 H4.out.2.1).far (p := ⟨xb, 2, none⟩) (Nat.ne_of_lt HXB.out.1) _, (hq5 H4.out.2.2.1).far (p := ⟨xb, 2, none⟩) (Nat.ne_of_lt HXB.out.2) _, hx5.set 2 _, own_set hos5 (own_ne hos5 hx5 (by decide)) _, own_set HO.out (own_ne HO.out hx5 (by decide)) _⟩ ?_
    obtain ⟨TA, hTA⟩ : ∃ q, q = B := ⟨_, rfl⟩
    obtain ⟨tc2, htc2⟩ : ∃ q, q = c' := ⟨_, rfl⟩
    rw [← hTA, ← htc2]
    clear hx5 hq5 hos5 z2 f2 hTA htc2 HB HO HX5 H4
    rintro w6 ⟨hn6, hy6, ht6, hx6, hos6, hot6⟩
    have H6 := Lib.hid (And.intro hn6 (And.intro hy6 (And.intro ht6 (And.intro hx6 (And.intro hos6 hot6)))))
    have q0 := hx6.at 0 (v := .slice (some ⟨gs, 0, none⟩) y.s.spots.length sc2) rfl
    obtain ⟨k, hk⟩ : ∃ k, k = an % y.s.spots.length := ⟨_, rfl⟩
    have hkl : k < y.s.spots.length := by rw [hk]; exact Nat.mod_lt _ (by have := HSD.out.spots.1; omega)
    have hks : (k : Int) < y.s.spots.length := by omega
    have ek : (an : Int).tmod y.s.spots.length = k := by rw [hk, Int.tmod_eq_emod_of_nonneg (by omega)]; exact (Int.natCast_emod _ _).symm
    have ean : IntKind.i64.wrap (an : Int) = an := IntWalk.i64_in _ (by omega)
    have hnz : ¬ y.s.spots = [] := fun e => by rw [e] at hkl; exact absurd hkl (Nat.not_lt_zero _)
    obtain ⟨p, hp⟩ : ∃ p, y.s.spots[k]? = some p := ⟨_, List.getElem?_eq_getElem hkl⟩
    have HP := Lib.hid hp
    clear hk hkl hp hn6 hy6 ht6 hx6 hos6 hot6
    refine wp_words (by kernel_rfl) (region_told 9 (by kernel_rfl) (by kernel_rfl) (fun W => Below w6.heap.size w6 W) newer (pickD [vIs (.pointer (some ⟨xb, 0, none⟩)), vIs (.slice (some ⟨gs, 0, none⟩) y.s.spots.length sc2), vIs (.int .u8 an), vIs (vi an), vIs (.pointer (some ⟨xb, 0, none⟩)), vIs (.slice (some ⟨gs, 0, none⟩) y.s.spots.length sc2), vIs (.int .i64 y.s.spots.length), vIs (vi k), vIs (.pointer (some ⟨gs, k * 4, none⟩))]) (fun h k => newer_trans h k) (pickD_stable _ ⟨vIs_st, vIs_st, vIs_st, vIs_st, vIs_st, vIs_st, vIs_st, vIs_st, vIs_st, trivial⟩) (Below.refl _ w6).drew (Below.refl _ _) ?_ ?_)
    · refine ⟨?_, ?_, ?_, ?_, ?_, ?_, ?_, ?_, ?_, trivial⟩
      · intro a W hG hR hO hp
        have h13 := hO.slot 13 (by kernel_rfl)
        refine kY (v := .pointer (some ⟨xb, 0, none⟩)) hG rfl ?_
        simp [slotOf] at h13
        simp [execOp, go_sem, h13]
      · intro a W hG hR hO hp
        have h36 : slotOf a 36 = .pointer (some ⟨xb, 0, none⟩) := hp.1
        have c0 := keep_cell q0 hG
        refine kY (v := .slice (some ⟨gs, 0, none⟩) y.s.spots.length sc2) hG rfl ?_
        simp [slotOf] at h36
        simp [execOp, go_sem, h36, c0]
      · exact fun a W hG _ hO _ => kM 2 rfl (hO.slot 2 (by kernel_rfl)) rfl hG
      · intro a W hG hR hO hp
        have h38 : slotOf a 38 = .int .u8 an := hp.1
        refine kY (v := vi an) hG rfl ?_
        simp [slotOf] at h38
        simp [execOp, go_sem, h38, ean]
      · intro a W hG hR hO hp
        have h13 := hO.slot 13 (by kernel_rfl)
        refine kY (v := .pointer (some ⟨xb, 0, none⟩)) hG rfl ?_
        simp [slotOf] at h13
        simp [execOp, go_sem, h13]
      · intro a W hG hR hO hp
        have h40 : slotOf a 40 = .pointer (some ⟨xb, 0, none⟩) := hp.1
        have c0 := keep_cell q0 hG
        refine kY (v := .slice (some ⟨gs, 0, none⟩) y.s.spots.length sc2) hG rfl ?_
        simp [slotOf] at h40
        simp [execOp, go_sem, h40, c0]
      · intro a W hG hR hO hp
        have h41 : slotOf a 41 = .slice (some ⟨gs, 0, none⟩) y.s.spots.length sc2 := hp.1
        refine kY (v := .int .i64 y.s.spots.length) hG rfl ?_
        simp [slotOf] at h41
        simp [go_sem, h41]
      · intro a W hG hR hO hp
        have h39 : slotOf a 39 = vi an := hp.1
        have h42 : slotOf a 42 = .int .i64 y.s.spots.length := hp.2.1
        refine kY (v := vi k) hG rfl ?_
        simp [slotOf] at h39 h42
        simp [execOp, go_sem, h39, h42, ek, hnz]
      · intro a W hG hR hO hp
        have h37 : slotOf a 37 = .slice (some ⟨gs, 0, none⟩) y.s.spots.length sc2 := hp.1
        have h43 : slotOf a 43 = vi k := hp.2.1
        refine kY (v := .pointer (some ⟨gs, k * 4, none⟩)) hG rfl ?_
        simp [slotOf] at h37 h43
        simp [execOp, go_sem, h37, h43, hks]
    · intro w7 hG hR
      rintro _ rfl _ rfl _ rfl _ rfl _ rfl _ rfl _ rfl _ rfl _ rfl
      change wpList _ _ _ _ _ _
      simp only [Act.put, List.setIfInBounds_toArray, List.set_cons_zero, List.set_cons_succ, List.drop_succ_cons, List.drop_zero]
      have HM7 := Lib.hid (show MoreA y w xb gs sc2 TA tc2 w2.heap.size w7 from MoreA.next ⟨H6.out.1, H6.out.2.1, H6.out.2.2.2.1, H6.out.2.2.2.2.1, H6.out.2.2.2.2.2, HXB.out.1, H2.out.1.size⟩ hG)
      have HT7 := Lib.hid (H6.out.2.2.1.below hG H6.out.2.2.1.lt)
      clear hG hR q0 hnz
      obtain ⟨c5, ec, hc⟩ : ∃ c : Int, (wn : Int).tmod 5 = c ∧ (c = 0 ∨ c = 1 ∨ c = 2 ∨ c = 3 ∨ c = 4) := ⟨_, rfl, by rw [Int.tmod_eq_emod_of_nonneg (by omega)]; omega⟩
      go_upto_block 0 with fail
      go_cut [15] from 47 to 140 (fun s15 wx => MoreR y w xb wx)
      case first =>
        obtain ⟨b5, hb5⟩ : ∃ b, b = bn % 5 := ⟨_, rfl⟩
        have eb5 : (bn : Int).tmod 5 = (b5 : Int) := by rw [hb5, Int.tmod_eq_emod_of_nonneg (by omega)]; exact (Int.natCast_emod _ _).symm
        have hb5b : b5 < 5 := by omega
        have ebn : IntKind.i64.wrap (bn : Int) = bn := IntWalk.i64_in _ (by omega)
        obtain ⟨⟨sx1, sx2, sx3, sx4⟩, sy1, sy2, sy3, sy4⟩ := HSD.out.spot p (List.mem_of_getElem? HP.out)
        clear hb5 ec
        rcases hc with rfl | rfl | rfl | rfl | rfl
        · skip
          have ewa : IntKind.i64.wrap (p.x.lo + b5) = p.x.lo + b5 := IntWalk.i64_in _ (by omega)
          obtain ⟨q, hq⟩ : ∃ q, q = mnI p.x.hi (p.x.lo + b5) := ⟨_, rfl⟩
          have hqb : p.x.lo ≤ q ∧ q ≤ p.x.hi := by
            rw [hq]
            unfold mnI
            split <;> omega
          have HQ := Lib.hid hq
          have hgo : ∀ W, MoreA y w xb gs sc2 TA tc2 w2.heap.size W → MoreR y w xb (W.setCell ⟨gs, k * 4 + 0, none⟩ (vi q)) := fun W hm => hm.spot HOK.out HSD.out HFW.out (p' := ⟨⟨q, p.x.hi⟩, p.y⟩) (by decide) HP.out rfl ⟨⟨by dsimp only; omega, by dsimp only; omega, by dsimp only; omega, by dsimp only; omega⟩, by dsimp only; omega, by dsimp only; omega, by dsimp only; omega, by dsimp only; omega⟩ ⟨⟨by dsimp only; omega, by dsimp only; omega⟩, by dsimp only; omega, by dsimp only; omega⟩
          have HGO := Lib.hid hgo
          obtain ⟨b', o', eb, _, p0, p1, p2, p3⟩ := row4 (row_of_own (enc := spL) (size := 4) (by decide) (fun _ => rfl) HM7.out.os) HP.out
          injection eb with eb
          injection eb with eb1 eb2
          subst eb1
          subst eb2
          simp only [Nat.zero_add] at p0 p1 p2 p3
          clear hgo hq hqb sx1 sx2 sx3 sx4 sy1 sy2 sy3 sy4
          go_upto_region 10 with fail
          refine wp_words (by kernel_rfl) (region_told 19 (by kernel_rfl) (by kernel_rfl) (fun W => Below w7.heap.size w7 W) newer (pickD [vIs (.pointer (some ⟨gs, k * 4, none⟩)), vIs (.pointer (some ⟨gs, k * 4, none⟩)), vIs (.pointer (some ⟨gs, k * 4, none⟩)), vIs (.pointer (some ⟨gs, k * 4, none⟩)), vIs (.pointer (some ⟨gs, k * 4 + 1, none⟩)), vIs (vi p.x.hi), vIs (.pointer (some ⟨gs, k * 4, none⟩)), vIs (.pointer (some ⟨gs, k * 4, none⟩)), vIs (.pointer (some ⟨gs, k * 4, none⟩)), vIs (.pointer (some ⟨gs, k * 4, none⟩)), vIs (vi p.x.lo), vIs (.int .u8 bn), vIs (vi bn), vIs (vi b5), vIs (vi (p.x.lo + b5)), vIs (vi q), vIs (.pointer (some ⟨gs, k * 4, none⟩)), vIs (.pointer (some ⟨gs, k * 4, none⟩)), vIs (.pointer (some ⟨gs, k * 4, none⟩))]) (fun h k => newer_trans h k) (pickD_stable _ ⟨vIs_st, vIs_st, vIs_st, vIs_st, vIs_st, vIs_st, vIs_st, vIs_st, vIs_st, vIs_st, vIs_st, vIs_st, vIs_st, vIs_st, vIs_st, vIs_st, vIs_st, vIs_st, vIs_st, trivial⟩) (Below.refl _ w7).drew (Below.refl _ _) ?_ ?_)
          · refine ⟨?_, ?_, ?_, ?_, ?_, ?_, ?_, ?_, ?_, ?_, ?_, ?_, ?_, ?_, ?_, ?_, ?_, ?_, ?_, trivial⟩
            · exact fun a W hG _ hO _ => kM 14 rfl (hO.slot 14 (by kernel_rfl)) rfl hG
            · exact fun a W hG _ hO _ => kM 14 rfl (hO.slot 14 (by kernel_rfl)) rfl hG
            · intro a W hG hR hO hp
              have h54 : slotOf a 54 = .pointer (some ⟨gs, k * 4, none⟩) := hp.1
              refine kY (v := .pointer (some ⟨gs, k * 4, none⟩)) hG rfl ?_
              simp [slotOf] at h54
              simp [execOp, go_sem, h54]
            · intro a W hG hR hO hp
              have h55 : slotOf a 55 = .pointer (some ⟨gs, k * 4, none⟩) := hp.1
              refine kY (v := .pointer (some ⟨gs, k * 4, none⟩)) hG rfl ?_
              simp [slotOf] at h55
              simp [execOp, go_sem, h55]
            · intro a W hG hR hO hp
              have h56 : slotOf a 56 = .pointer (some ⟨gs, k * 4, none⟩) := hp.1
              refine kY (v := .pointer (some ⟨gs, k * 4 + 1, none⟩)) hG rfl ?_
              simp [slotOf] at h56
              simp [execOp, go_sem, h56]
            · intro a W hG hR hO hp
              have h57 : slotOf a 57 = .pointer (some ⟨gs, k * 4 + 1, none⟩) := hp.1
              have c0 := keep_cell p1 hG
              refine kY (v := vi p.x.hi) hG rfl ?_
              simp [slotOf] at h57
              simp [execOp, go_sem, h57, c0]
            · exact fun a W hG _ hO _ => kM 14 rfl (hO.slot 14 (by kernel_rfl)) rfl hG
            · intro a W hG hR hO hp
              have h59 : slotOf a 59 = .pointer (some ⟨gs, k * 4, none⟩) := hp.1
              refine kY (v := .pointer (some ⟨gs, k * 4, none⟩)) hG rfl ?_
              simp [slotOf] at h59
              simp [execOp, go_sem, h59]
            · intro a W hG hR hO hp
              have h60 : slotOf a 60 = .pointer (some ⟨gs, k * 4, none⟩) := hp.1
              refine kY (v := .pointer (some ⟨gs, k * 4, none⟩)) hG rfl ?_
              simp [slotOf] at h60
              simp [execOp, go_sem, h60]
            · intro a W hG hR hO hp
              have h61 : slotOf a 61 = .pointer (some ⟨gs, k * 4, none⟩) := hp.1
              refine kY (v := .pointer (some ⟨gs, k * 4, none⟩)) hG rfl ?_
              simp [slotOf] at h61
              simp [execOp, go_sem, h61]
            · intro a W hG hR hO hp
              have h62 : slotOf a 62 = .pointer (some ⟨gs, k * 4, none⟩) := hp.1
              have c0 := keep_cell p0 hG
              refine kY (v := vi p.x.lo) hG rfl ?_
              simp [slotOf] at h62
              simp [execOp, go_sem, h62, c0]
            · exact fun a W hG _ hO _ => kM 3 rfl (hO.slot 3 (by kernel_rfl)) rfl hG
            · intro a W hG hR hO hp
              have h64 : slotOf a 64 = .int .u8 bn := hp.1
              refine kY (v := vi bn) hG rfl ?_
              simp [slotOf] at h64
              simp [execOp, go_sem, h64, ebn]
            · intro a W hG hR hO hp
              have h65 : slotOf a 65 = vi bn := hp.1
              refine kY (v := vi b5) hG rfl ?_
              simp [slotOf] at h65
              simp [execOp, go_sem, h65, eb5]
            · intro a W hG hR hO hp
              have h63 : slotOf a 63 = vi p.x.lo := hp.1
              have h66 : slotOf a 66 = vi b5 := hp.2.1
              refine kY (v := vi (p.x.lo + b5)) hG rfl ?_
              simp [slotOf] at h63 h66
              simp [execOp, go_sem, h63, h66, ewa]
            · intro a W hG hR hO hp
              have h58 : slotOf a 58 = vi p.x.hi := hp.1
              have h67 : slotOf a 67 = vi (p.x.lo + b5) := hp.2.1
              refine kY (v := vi q) hG rfl ?_
              simp [slotOf] at h58 h67
              simp [go_sem, h58, h67, HQ.out, mnI]
            · intro a W hG hR hO hp
              have h53 : slotOf a 53 = .pointer (some ⟨gs, k * 4, none⟩) := hp.1
              refine kY (v := .pointer (some ⟨gs, k * 4, none⟩)) hG rfl ?_
              simp [slotOf] at h53
              simp [execOp, go_sem, h53]
            · intro a W hG hR hO hp
              have h69 : slotOf a 69 = .pointer (some ⟨gs, k * 4, none⟩) := hp.1
              refine kY (v := .pointer (some ⟨gs, k * 4, none⟩)) hG rfl ?_
              simp [slotOf] at h69
              simp [execOp, go_sem, h69]
            · intro a W hG hR hO hp
              have h70 : slotOf a 70 = .pointer (some ⟨gs, k * 4, none⟩) := hp.1
              refine kY (v := .pointer (some ⟨gs, k * 4, none⟩)) hG rfl ?_
              simp [slotOf] at h70
              simp [execOp, go_sem, h70]
          · intro w9 hG hR
            rintro _ rfl _ rfl _ rfl _ rfl _ rfl _ rfl _ rfl _ rfl _ rfl _ rfl _ rfl _ rfl _ rfl _ rfl _ rfl _ rfl _ rfl _ rfl _ rfl
            change wpList _ _ _ _ _ _
            simp only [Act.put, List.setIfInBounds_toArray, List.set_cons_zero, List.set_cons_succ, List.drop_succ_cons, List.drop_zero]
            have HM9 := Lib.hid (HM7.out.next hG)
            have pp := keep_cell p0 hG
            obtain ⟨css, hcs⟩ := own_cells HM9.out.os
            have ff := hcs.free (k * 4)
            have HR9 := Lib.hid (HGO.out _ HM9.out)
            clear hG hR hcs p0 p1 p2 p3 ewa
            go_wp2_with fail
            go_meet
            exact HR9.out
        · skip
          have ewa : IntKind.i64.wrap (p.y.hi - b5) = p.y.hi - b5 := IntWalk.i64_in _ (by omega)
          obtain ⟨q, hq⟩ : ∃ q, q = mxI p.y.lo (p.y.hi - b5) := ⟨_, rfl⟩
          have hqb : p.y.lo ≤ q ∧ q ≤ p.y.hi := by
            rw [hq]
            unfold mxI
            split <;> omega
          have HQ := Lib.hid hq
          have hgo : ∀ W, MoreA y w xb gs sc2 TA tc2 w2.heap.size W → MoreR y w xb (W.setCell ⟨gs, k * 4 + 3, none⟩ (vi q)) := fun W hm => hm.spot HOK.out HSD.out HFW.out (p' := ⟨p.x, ⟨p.y.lo, q⟩⟩) (by decide) HP.out rfl ⟨⟨by dsimp only; omega, by dsimp only; omega, by dsimp only; omega, by dsimp only; omega⟩, by dsimp only; omega, by dsimp only; omega, by dsimp only; omega, by dsimp only; omega⟩ ⟨⟨by dsimp only; omega, by dsimp only; omega⟩, by dsimp only; omega, by dsimp only; omega⟩
          have HGO := Lib.hid hgo
          obtain ⟨b', o', eb, _, p0, p1, p2, p3⟩ := row4 (row_of_own (enc := spL) (size := 4) (by decide) (fun _ => rfl) HM7.out.os) HP.out
          injection eb with eb
          injection eb with eb1 eb2
          subst eb1
          subst eb2
          simp only [Nat.zero_add] at p0 p1 p2 p3
          clear hgo hq hqb sx1 sx2 sx3 sx4 sy1 sy2 sy3 sy4
          go_upto_region 12 with fail
          refine wp_words (by kernel_rfl) (region_told 19 (by kernel_rfl) (by kernel_rfl) (fun W => Below w7.heap.size w7 W) newer (pickD [vIs (.pointer (some ⟨gs, k * 4, none⟩)), vIs (.pointer (some ⟨gs, k * 4, none⟩)), vIs (.pointer (some ⟨gs, k * 4, none⟩)), vIs (.pointer (some ⟨gs, k * 4 + 2, none⟩)), vIs (.pointer (some ⟨gs, k * 4 + 2, none⟩)), vIs (vi p.y.lo), vIs (.pointer (some ⟨gs, k * 4, none⟩)), vIs (.pointer (some ⟨gs, k * 4, none⟩)), vIs (.pointer (some ⟨gs, k * 4 + 2, none⟩)), vIs (.pointer (some ⟨gs, k * 4 + 2 + 1, none⟩)), vIs (vi p.y.hi), vIs (.int .u8 bn), vIs (vi bn), vIs (vi b5), vIs (vi (p.y.hi - b5)), vIs (vi q), vIs (.pointer (some ⟨gs, k * 4, none⟩)), vIs (.pointer (some ⟨gs, k * 4 + 2, none⟩)), vIs (.pointer (some ⟨gs, k * 4 + 2 + 1, none⟩))]) (fun h k => newer_trans h k) (pickD_stable _ ⟨vIs_st, vIs_st, vIs_st, vIs_st, vIs_st, vIs_st, vIs_st, vIs_st, vIs_st, vIs_st, vIs_st, vIs_st, vIs_st, vIs_st, vIs_st, vIs_st, vIs_st, vIs_st, vIs_st, trivial⟩) (Below.refl _ w7).drew (Below.refl _ _) ?_ ?_)
          · refine ⟨?_, ?_, ?_, ?_, ?_, ?_, ?_, ?_, ?_, ?_, ?_, ?_, ?_, ?_, ?_, ?_, ?_, ?_, ?_, trivial⟩
            · exact fun a W hG _ hO _ => kM 14 rfl (hO.slot 14 (by kernel_rfl)) rfl hG
            · exact fun a W hG _ hO _ => kM 14 rfl (hO.slot 14 (by kernel_rfl)) rfl hG
            · intro a W hG hR hO hp
              have h75 : slotOf a 75 = .pointer (some ⟨gs, k * 4, none⟩) := hp.1
              refine kY (v := .pointer (some ⟨gs, k * 4, none⟩)) hG rfl ?_
              simp [slotOf] at h75
              simp [execOp, go_sem, h75]
            · intro a W hG hR hO hp
              have h76 : slotOf a 76 = .pointer (some ⟨gs, k * 4, none⟩) := hp.1
              refine kY (v := .pointer (some ⟨gs, k * 4 + 2, none⟩)) hG rfl ?_
              simp [slotOf] at h76
              simp [execOp, go_sem, h76]
            · intro a W hG hR hO hp
              have h77 : slotOf a 77 = .pointer (some ⟨gs, k * 4 + 2, none⟩) := hp.1
              refine kY (v := .pointer (some ⟨gs, k * 4 + 2, none⟩)) hG rfl ?_
              simp [slotOf] at h77
              simp [execOp, go_sem, h77]
            · intro a W hG hR hO hp
              have h78 : slotOf a 78 = .pointer (some ⟨gs, k * 4 + 2, none⟩) := hp.1
              have c0 := keep_cell p2 hG
              refine kY (v := vi p.y.lo) hG rfl ?_
              simp [slotOf] at h78
              simp [execOp, go_sem, h78, c0]
            · exact fun a W hG _ hO _ => kM 14 rfl (hO.slot 14 (by kernel_rfl)) rfl hG
            · intro a W hG hR hO hp
              have h80 : slotOf a 80 = .pointer (some ⟨gs, k * 4, none⟩) := hp.1
              refine kY (v := .pointer (some ⟨gs, k * 4, none⟩)) hG rfl ?_
              simp [slotOf] at h80
              simp [execOp, go_sem, h80]
            · intro a W hG hR hO hp
              have h81 : slotOf a 81 = .pointer (some ⟨gs, k * 4, none⟩) := hp.1
              refine kY (v := .pointer (some ⟨gs, k * 4 + 2, none⟩)) hG rfl ?_
              simp [slotOf] at h81
              simp [execOp, go_sem, h81]
            · intro a W hG hR hO hp
              have h82 : slotOf a 82 = .pointer (some ⟨gs, k * 4 + 2, none⟩) := hp.1
              refine kY (v := .pointer (some ⟨gs, k * 4 + 2 + 1, none⟩)) hG rfl ?_
              simp [slotOf] at h82
              simp [execOp, go_sem, h82]
            · intro a W hG hR hO hp
              have h83 : slotOf a 83 = .pointer (some ⟨gs, k * 4 + 2 + 1, none⟩) := hp.1
              have c0 := keep_cell p3 hG
              refine kY (v := vi p.y.hi) hG rfl ?_
              simp [slotOf] at h83
              simp [execOp, go_sem, h83, c0]
            · exact fun a W hG _ hO _ => kM 3 rfl (hO.slot 3 (by kernel_rfl)) rfl hG
            · intro a W hG hR hO hp
              have h85 : slotOf a 85 = .int .u8 bn := hp.1
              refine kY (v := vi bn) hG rfl ?_
              simp [slotOf] at h85
              simp [execOp, go_sem, h85, ebn]
            · intro a W hG hR hO hp
              have h86 : slotOf a 86 = vi bn := hp.1
              refine kY (v := vi b5) hG rfl ?_
              simp [slotOf] at h86
              simp [execOp, go_sem, h86, eb5]
            · intro a W hG hR hO hp
              have h84 : slotOf a 84 = vi p.y.hi := hp.1
              have h87 : slotOf a 87 = vi b5 := hp.2.1
              refine kY (v := vi (p.y.hi - b5)) hG rfl ?_
              simp [slotOf] at h84 h87
              simp [execOp, go_sem, h84, h87, ewa]
            · intro a W hG hR hO hp
              have h79 : slotOf a 79 = vi p.y.lo := hp.1
              have h88 : slotOf a 88 = vi (p.y.hi - b5) := hp.2.1
              refine kY (v := vi q) hG rfl ?_
              simp [slotOf] at h79 h88
              simp [go_sem, h79, h88, HQ.out, mxI]
            · intro a W hG hR hO hp
              have h74 : slotOf a 74 = .pointer (some ⟨gs, k * 4, none⟩) := hp.1
              refine kY (v := .pointer (some ⟨gs, k * 4, none⟩)) hG rfl ?_
              simp [slotOf] at h74
              simp [execOp, go_sem, h74]
            · intro a W hG hR hO hp
              have h90 : slotOf a 90 = .pointer (some ⟨gs, k * 4, none⟩) := hp.1
              refine kY (v := .pointer (some ⟨gs, k * 4 + 2, none⟩)) hG rfl ?_
              simp [slotOf] at h90
              simp [execOp, go_sem, h90]
            · intro a W hG hR hO hp
              have h91 : slotOf a 91 = .pointer (some ⟨gs, k * 4 + 2, none⟩) := hp.1
              refine kY (v := .pointer (some ⟨gs, k * 4 + 2 + 1, none⟩)) hG rfl ?_
              simp [slotOf] at h91
              simp [execOp, go_sem, h91]
          · intro w9 hG hR
            rintro _ rfl _ rfl _ rfl _ rfl _ rfl _ rfl _ rfl _ rfl _ rfl _ rfl _ rfl _ rfl _ rfl _ rfl _ rfl _ rfl _ rfl _ rfl _ rfl
            change wpList _ _ _ _ _ _
            simp only [Act.put, List.setIfInBounds_toArray, List.set_cons_zero, List.set_cons_succ, List.drop_succ_cons, List.drop_zero]
            have HM9 := Lib.hid (HM7.out.next hG)
            have pp := keep_cell p3 hG
            obtain ⟨css, hcs⟩ := own_cells HM9.out.os
            have ff := hcs.free (k * 4 + 3)
            have HR9 := Lib.hid (HGO.out _ HM9.out)
            clear hG hR hcs p0 p1 p2 p3 ewa
            go_wp2_with fail
            go_meet
            exact HR9.out
        · skip
          have hst1 := HSD.out.strain.1
          have hst2 := HSD.out.strain.2
          have ewa : IntKind.i64.wrap (y.s.strain - bn) = y.s.strain - bn := IntWalk.i64_in _ (by omega)
          have q1 := HM7.out.bx.at 1 (v := vi y.s.strain) rfl
          have f1 := HM7.out.bx.free 1
          clear sx1 sx2 sx3 sx4 sy1 sy2 sy3 sy4 eb5 hb5b
          by_cases hm : 0 < y.s.strain - bn
          · have HR9 := Lib.hid (HM7.out.strain HOK.out HSD.out HFW.out (q := y.s.strain - bn) (by omega))
            go_wp2_with fail
            go_meet
            exact HR9.out
          · have HR9 := Lib.hid (HM7.out.strain HOK.out HSD.out HFW.out (q := 0) (by omega))
            go_wp2_with fail
            go_meet
            exact HR9.out
        · skip
          clear sx1 sx2 sx3 sx4 sy1 sy2 sy3 sy4 eb5 hb5b
          have q2 := HM7.out.bx.at 2 (v := .slice TA y.s.tools.length tc2) rfl
          by_cases ht0 : y.s.tools.length = 0
          · have htb : ¬ (0 : Int) < y.s.tools.length := by omega
            have HR9 := Lib.hid (HM7.out.same HOK.out HFW.out)
            clear ht0
            go_wp2_with fail
            go_meet
            exact HR9.out
          · have htb : (0 : Int) < y.s.tools.length := by omega
            obtain ⟨gt, rfl, hgt⟩ := own_some HM7.out.ot (by omega)
            obtain ⟨j, hj⟩ : ∃ j, j = an % y.s.tools.length := ⟨_, rfl⟩
            have hjl : j < y.s.tools.length := by rw [hj]; exact Nat.mod_lt _ (by omega)
            have hjs : (j : Int) < y.s.tools.length := by omega
            have ej : (an : Int).tmod y.s.tools.length = j := by rw [hj, Int.tmod_eq_emod_of_nonneg (by omega)]; exact (Int.natCast_emod _ _).symm
            have hnzt : ¬ y.s.tools = [] := fun e => by rw [e] at hjl; exact absurd hjl (Nat.not_lt_zero _)
            obtain ⟨t0, ht0⟩ : ∃ t, y.s.tools[j]? = some t := ⟨_, List.getElem?_eq_getElem hjl⟩
            have hto := HSD.out.tool t0 (List.mem_of_getElem? ht0)
            have HT0 := Lib.hid ht0
            have he1 := hto.err.1
            have he2 := hto.err.2
            have hd1 := hto.drift.1
            have hd2 := hto.drift.2
            obtain ⟨b8, hb8⟩ : ∃ b, b = bn % 8 := ⟨_, rfl⟩
            have eb8 : (bn : Int).tmod 8 = (b8 : Int) := by rw [hb8, Int.tmod_eq_emod_of_nonneg (by omega)]; exact (Int.natCast_emod _ _).symm
            obtain ⟨b2, hb2⟩ : ∃ b, b = bn % 2 := ⟨_, rfl⟩
            have eb2 : (bn : Int).tmod 2 = (b2 : Int) := by rw [hb2, Int.tmod_eq_emod_of_nonneg (by omega)]; exact (Int.natCast_emod _ _).symm
            have ewa : IntKind.i64.wrap (t0.err - b8) = t0.err - b8 := IntWalk.i64_in _ (by omega)
            have ewb : IntKind.i64.wrap (t0.drift - b2) = t0.drift - b2 := IntWalk.i64_in _ (by omega)
            obtain ⟨qe, hqe⟩ : ∃ q, q = mxI 0 (t0.err - b8) := ⟨_, rfl⟩
            obtain ⟨qd, hqd⟩ : ∃ q, q = mxI 0 (t0.drift - b2) := ⟨_, rfl⟩
            have hqb : (0 ≤ qe ∧ qe ≤ t0.err) ∧ 0 ≤ qd ∧ qd ≤ t0.drift := by
              rw [hqe, hqd]
              unfold mxI
              refine ⟨?_, ?_⟩ <;> split <;> omega
            have HQE := Lib.hid hqe
            have HQD := Lib.hid hqd
            have HQB := Lib.hid hqb
            clear hj hjl hqe hqd hqb hb8 hb2 hto he1 he2 hd1 hd2 ht0 hgt
            go_upto_region 17 with fail
            refine wp_words (by kernel_rfl) (region_told 9 (by kernel_rfl) (by kernel_rfl) (fun W => Below w7.heap.size w7 W) newer (pickD [vIs (.pointer (some ⟨xb, 2, none⟩)), vIs (.slice (some ⟨gt, 0, none⟩) y.s.tools.length tc2), vIs (.int .u8 an), vIs (vi an), vIs (.pointer (some ⟨xb, 2, none⟩)), vIs (.slice (some ⟨gt, 0, none⟩) y.s.tools.length tc2), vIs (.int .i64 y.s.tools.length), vIs (vi j), vIs (.pointer (some ⟨gt, j * 7, none⟩))]) (fun h k => newer_trans h k) (pickD_stable _ ⟨vIs_st, vIs_st, vIs_st, vIs_st, vIs_st, vIs_st, vIs_st, vIs_st, vIs_st, trivial⟩) (Below.refl _ w7).drew (Below.refl _ _) ?_ ?_)
            · refine ⟨?_, ?_, ?_, ?_, ?_, ?_, ?_, ?_, ?_, trivial⟩
              · intro a W hG hR hO hp
                have h13 := hO.slot 13 (by kernel_rfl)
                refine kY (v := .pointer (some ⟨xb, 2, none⟩)) hG rfl ?_
                simp [slotOf] at h13
                simp [execOp, go_sem, h13]
              · intro a W hG hR hO hp
                have h108 : slotOf a 108 = .pointer (some ⟨xb, 2, none⟩) := hp.1
                have c0 := keep_cell q2 hG
                refine kY (v := .slice (some ⟨gt, 0, none⟩) y.s.tools.length tc2) hG rfl ?_
                simp [slotOf] at h108
                simp [execOp, go_sem, h108, c0]
              · exact fun a W hG _ hO _ => kM 2 rfl (hO.slot 2 (by kernel_rfl)) rfl hG
              · intro a W hG hR hO hp
                have h110 : slotOf a 110 = .int .u8 an := hp.1
                refine kY (v := vi an) hG rfl ?_
                simp [slotOf] at h110
                simp [execOp, go_sem, h110, ean]
              · intro a W hG hR hO hp
                have h13 := hO.slot 13 (by kernel_rfl)
                refine kY (v := .pointer (some ⟨xb, 2, none⟩)) hG rfl ?_
                simp [slotOf] at h13
                simp [execOp, go_sem, h13]
              · intro a W hG hR hO hp
                have h112 : slotOf a 112 = .pointer (some ⟨xb, 2, none⟩) := hp.1
                have c0 := keep_cell q2 hG
                refine kY (v := .slice (some ⟨gt, 0, none⟩) y.s.tools.length tc2) hG rfl ?_
                simp [slotOf] at h112
                simp [execOp, go_sem, h112, c0]
              · intro a W hG hR hO hp
                have h113 : slotOf a 113 = .slice (some ⟨gt, 0, none⟩) y.s.tools.length tc2 := hp.1
                refine kY (v := .int .i64 y.s.tools.length) hG rfl ?_
                simp [slotOf] at h113
                simp [go_sem, h113]
              · intro a W hG hR hO hp
                have h111 : slotOf a 111 = vi an := hp.1
                have h114 : slotOf a 114 = .int .i64 y.s.tools.length := hp.2.1
                refine kY (v := vi j) hG rfl ?_
                simp [slotOf] at h111 h114
                simp [execOp, go_sem, h111, h114, ej, hnzt]
              · intro a W hG hR hO hp
                have h109 : slotOf a 109 = .slice (some ⟨gt, 0, none⟩) y.s.tools.length tc2 := hp.1
                have h115 : slotOf a 115 = vi j := hp.2.1
                refine kY (v := .pointer (some ⟨gt, j * 7, none⟩)) hG rfl ?_
                simp [slotOf] at h109 h115
                simp [execOp, go_sem, h109, h115, hjs]
            · intro w8 hG hR
              rintro _ rfl _ rfl _ rfl _ rfl _ rfl _ rfl _ rfl _ rfl _ rfl
              change wpList _ _ _ _ _ _
              simp only [Act.put, List.setIfInBounds_toArray, List.set_cons_zero, List.set_cons_succ, List.drop_succ_cons, List.drop_zero]
              have HM8 := Lib.hid (HM7.out.next hG)
              clear hG hR q2
              obtain ⟨cst, hct⟩ := own_cells HM8.out.ot
              obtain ⟨b', o', eb, _, _, _, _, _, t4, t5, _⟩ := row7 (row_of_own (enc := tlL) (size := 7) (by decide) (fun _ => rfl) HM8.out.ot) HT0.out
              injection eb with eb
              injection eb with eb1 eb2'
              subst eb1
              subst eb2'
              simp only [Nat.zero_add] at t4 t5
              have HCT := Lib.hid hct
              clear hct
              go_upto_region 18 with fail
              refine wp_words (by kernel_rfl) (region_lateG 23 22 (by kernel_rfl) (by kernel_rfl) (by decide) (by kernel_rfl) (fun b W => cond b (∃ W0, newer w8 W0 ∧ W = W0.setCell ⟨gt, j * 7 + 4, none⟩ (vi qe)) (newer w8 W)) (pickB [vIs (.pointer (some ⟨gt, j * 7, none⟩)), vIs (.pointer (some ⟨gt, j * 7, none⟩)), vIs (.pointer (some ⟨gt, j * 7, none⟩)), vIs (.pointer (some ⟨gt, j * 7, none⟩)), vIs (.pointer (some ⟨gt, j * 7 + 4, none⟩)), vIs (vi t0.err), vIs (.int .u8 bn), vIs (vi bn), vIs (vi b8), vIs (vi (t0.err - b8)), vIs (vi qe), vIs (.pointer (some ⟨gt, j * 7, none⟩)), vIs (.pointer (some ⟨gt, j * 7, none⟩)), vIs (.pointer (some ⟨gt, j * 7 + 5, none⟩)), vIs (vi t0.drift), vIs (.int .u8 bn), vIs (vi bn), vIs (vi b2), vIs (vi (t0.drift - b2)), vIs (vi qd), vIs (.pointer (some ⟨gt, j * 7, none⟩)), vIs (.pointer (some ⟨gt, j * 7 + 4, none⟩)), (fun _ _ => True)] [vIs (.pointer (some ⟨gt, j * 7, none⟩)), vIs (.pointer (some ⟨gt, j * 7, none⟩)), (fun _ _ => True), (fun _ _ => True), (fun _ _ => True), (fun _ _ => True), (fun _ _ => True), (fun _ _ => True), (fun _ _ => True), (fun _ _ => True), (fun _ _ => True), vIs (.pointer (some ⟨gt, j * 7, none⟩)), vIs (.pointer (some ⟨gt, j * 7, none⟩)), vIs (.pointer (some ⟨gt, j * 7 + 5, none⟩)), vIs (vi t0.drift), vIs (.int .u8 bn), vIs (vi bn), vIs (vi b2), vIs (vi (t0.drift - b2)), vIs (vi qd), vIs (.pointer (some ⟨gt, j * 7, none⟩)), (fun _ _ => True), (fun _ _ => True)]) (pickB_stable ⟨vIs_st, vIs_st, vIs_st, vIs_st, vIs_st, vIs_st, vIs_st, vIs_st, vIs_st, vIs_st, vIs_st, vIs_st, vIs_st, vIs_st, vIs_st, vIs_st, vIs_st, vIs_st, vIs_st, vIs_st, vIs_st, vIs_st, (fun _ _ _ h _ => h), trivial⟩ ⟨vIs_st, vIs_st, (fun _ _ _ h _ => h), (fun _ _ _ h _ => h), (fun _ _ _ h _ => h), (fun _ _ _ h _ => h), (fun _ _ _ h _ => h), (fun _ _ _ h _ => h), (fun _ _ _ h _ => h), (fun _ _ _ h _ => h), (fun _ _ _ h _ => h), vIs_st, vIs_st, vIs_st, vIs_st, vIs_st, vIs_st, vIs_st, vIs_st, vIs_st, vIs_st, (fun _ _ _ h _ => h), (fun _ _ _ h _ => h), trivial⟩) (Below.refl _ w8).drew ?_ ?_)
              · refine ⟨?_, ?_, ?_, ?_, ?_, ?_, ?_, ?_, ?_, ?_, ?_, ?_, ?_, ?_, ?_, ?_, ?_, ?_, ?_, ?_, ?_, ?_, ?_, trivial⟩
                · intro a W hG hO hp
                  have h15 := hO.slot 15 (by kernel_rfl)
                  refine wp_yields (v := .pointer (some ⟨gt, j * 7, none⟩)) ?_ ⟨_, rfl, rfl, Below.refl _ _, hG⟩
                  simp [slotOf] at h15
                  simp [execOp, go_sem, h15]
                · intro b a W hG hO hp
                  have h15 := hO.slot 15 (by kernel_rfl)
                  refine wp_yields (v := .pointer (some ⟨gt, j * 7, none⟩)) ?_ ⟨_, rfl, (by cases b <;> rfl), Below.refl _ _, hG⟩
                  simp [slotOf] at h15
                  simp [execOp, go_sem, h15]
                · intro a W hG hO hp
                  have h15 := hO.slot 15 (by kernel_rfl)
                  refine wp_yields (v := .pointer (some ⟨gt, j * 7, none⟩)) ?_ ⟨_, rfl, rfl, Below.refl _ _, hG⟩
                  simp [slotOf] at h15
                  simp [execOp, go_sem, h15]
                · intro a W hG hO hp
                  have h119 : slotOf a 119 = .pointer (some ⟨gt, j * 7, none⟩) := hp.1
                  refine wp_yields (v := .pointer (some ⟨gt, j * 7, none⟩)) ?_ ⟨_, rfl, rfl, Below.refl _ _, hG⟩
                  simp [slotOf] at h119
                  simp [execOp, go_sem, h119]
                · intro a W hG hO hp
                  have h120 : slotOf a 120 = .pointer (some ⟨gt, j * 7, none⟩) := hp.1
                  refine wp_yields (v := .pointer (some ⟨gt, j * 7 + 4, none⟩)) ?_ ⟨_, rfl, rfl, Below.refl _ _, hG⟩
                  simp [slotOf] at h120
                  simp [execOp, go_sem, h120]
                · intro a W hG hO hp
                  have h121 : slotOf a 121 = .pointer (some ⟨gt, j * 7 + 4, none⟩) := hp.1
                  have c0 := keep_cell t4 (show newer w8 W from hG)
                  refine wp_yields (v := vi t0.err) ?_ ⟨_, rfl, rfl, Below.refl _ _, hG⟩
                  simp [slotOf] at h121
                  simp [execOp, go_sem, h121, c0]
                · intro a W hG hO hp
                  have h3 := hO.slot 3 (by kernel_rfl)
                  refine wp_yields (v := .int .u8 bn) ?_ ⟨_, rfl, rfl, Below.refl _ _, hG⟩
                  simp [slotOf] at h3
                  simp [execOp, go_sem, h3]
                · intro a W hG hO hp
                  have h123 : slotOf a 123 = .int .u8 bn := hp.1
                  refine wp_yields (v := vi bn) ?_ ⟨_, rfl, rfl, Below.refl _ _, hG⟩
                  simp [slotOf] at h123
                  simp [execOp, go_sem, h123, ebn]
                · intro a W hG hO hp
                  have h124 : slotOf a 124 = vi bn := hp.1
                  refine wp_yields (v := vi b8) ?_ ⟨_, rfl, rfl, Below.refl _ _, hG⟩
                  simp [slotOf] at h124
                  simp [execOp, go_sem, h124, eb8]
                · intro a W hG hO hp
                  have h122 : slotOf a 122 = vi t0.err := hp.1
                  have h125 : slotOf a 125 = vi b8 := hp.2.1
                  refine wp_yields (v := vi (t0.err - b8)) ?_ ⟨_, rfl, rfl, Below.refl _ _, hG⟩
                  simp [slotOf] at h122 h125
                  simp [execOp, go_sem, h122, h125, ewa]
                · intro a W hG hO hp
                  have h126 : slotOf a 126 = vi (t0.err - b8) := hp.1
                  refine wp_yields (v := vi qe) ?_ ⟨_, rfl, rfl, Below.refl _ _, hG⟩
                  simp [slotOf] at h126
                  simp [go_sem, h126, HQE.out, mxI]
                · intro b a W hG hO hp
                  have h15 := hO.slot 15 (by kernel_rfl)
                  refine wp_yields (v := .pointer (some ⟨gt, j * 7, none⟩)) ?_ ⟨_, rfl, (by cases b <;> rfl), Below.refl _ _, hG⟩
                  simp [slotOf] at h15
                  simp [execOp, go_sem, h15]
                · intro b a W hG hO hp
                  have h128 : slotOf a 128 = .pointer (some ⟨gt, j * 7, none⟩) := by cases b <;> exact hp.1
                  refine wp_yields (v := .pointer (some ⟨gt, j * 7, none⟩)) ?_ ⟨_, rfl, (by cases b <;> rfl), Below.refl _ _, hG⟩
                  simp [slotOf] at h128
                  simp [execOp, go_sem, h128]
                · intro b a W hG hO hp
                  have h129 : slotOf a 129 = .pointer (some ⟨gt, j * 7, none⟩) := by cases b <;> exact hp.1
                  refine wp_yields (v := .pointer (some ⟨gt, j * 7 + 5, none⟩)) ?_ ⟨_, rfl, (by cases b <;> rfl), Below.refl _ _, hG⟩
                  simp [slotOf] at h129
                  simp [execOp, go_sem, h129]
                · intro a W hG hO hp
                  have h130 : slotOf a 130 = .pointer (some ⟨gt, j * 7 + 5, none⟩) := hp.1
                  have c0 := keep_cell t5 (show newer w8 W from hG)
                  refine wp_yields (v := vi t0.drift) ?_ ⟨_, rfl, rfl, Below.refl _ _, hG⟩
                  simp [slotOf] at h130
                  simp [execOp, go_sem, h130, c0]
                · intro b a W hG hO hp
                  have h3 := hO.slot 3 (by kernel_rfl)
                  refine wp_yields (v := .int .u8 bn) ?_ ⟨_, rfl, (by cases b <;> rfl), Below.refl _ _, hG⟩
                  simp [slotOf] at h3
                  simp [execOp, go_sem, h3]
                · intro b a W hG hO hp
                  have h132 : slotOf a 132 = .int .u8 bn := by cases b <;> exact hp.1
                  refine wp_yields (v := vi bn) ?_ ⟨_, rfl, (by cases b <;> rfl), Below.refl _ _, hG⟩
                  simp [slotOf] at h132
                  simp [execOp, go_sem, h132, ebn]
                · intro b a W hG hO hp
                  have h133 : slotOf a 133 = vi bn := by cases b <;> exact hp.1
                  refine wp_yields (v := vi b2) ?_ ⟨_, rfl, (by cases b <;> rfl), Below.refl _ _, hG⟩
                  simp [slotOf] at h133
                  simp [execOp, go_sem, h133, eb2]
                · intro b a W hG hO hp
                  have h131 : slotOf a 131 = vi t0.drift := by cases b <;> exact hp.1
                  have h134 : slotOf a 134 = vi b2 := by cases b <;> exact hp.2.1
                  refine wp_yields (v := vi (t0.drift - b2)) ?_ ⟨_, rfl, (by cases b <;> rfl), Below.refl _ _, hG⟩
                  simp [slotOf] at h131 h134
                  simp [execOp, go_sem, h131, h134, ewb]
                · intro b a W hG hO hp
                  have h135 : slotOf a 135 = vi (t0.drift - b2) := by cases b <;> exact hp.1
                  refine wp_yields (v := vi qd) ?_ ⟨_, rfl, (by cases b <;> rfl), Below.refl _ _, hG⟩
                  simp [slotOf] at h135
                  simp [go_sem, h135, HQD.out, mxI]
                · intro b a W hG hO hp
                  have h117 : slotOf a 117 = .pointer (some ⟨gt, j * 7, none⟩) := by cases b <;> exact hp.1
                  refine wp_yields (v := .pointer (some ⟨gt, j * 7, none⟩)) ?_ ⟨_, rfl, (by cases b <;> rfl), Below.refl _ _, hG⟩
                  simp [slotOf] at h117
                  simp [execOp, go_sem, h117]
                · intro a W hG hO hp
                  have h137 : slotOf a 137 = .pointer (some ⟨gt, j * 7, none⟩) := hp.1
                  refine wp_yields (v := .pointer (some ⟨gt, j * 7 + 4, none⟩)) ?_ ⟨_, rfl, rfl, Below.refl _ _, hG⟩
                  simp [slotOf] at h137
                  simp [execOp, go_sem, h137]
                · intro a W hG hO hp
                  have h138 : slotOf a 138 = .pointer (some ⟨gt, j * 7 + 4, none⟩) := hp.1
                  have h127 : slotOf a 127 = vi qe := hp.2.1
                  have hG8 : newer w8 W := hG
                  have c4 := keep_cell t4 hG8
                  have f4 := (HCT.out.below hG8 HCT.out.lt).free (j * 7 + 4)
                  simp [slotOf] at h138 h127
                  refine wp_storesE (W' := W.setCell ⟨gt, j * 7 + 4, none⟩ (vi qe)) (by simp [execOp, go_sem, h138, h127, c4, f4]) ⟨rfl, ⟨W, hG8, rfl⟩, ?_⟩
                  intro j oj d hj hoj hd hD
                  match j, hoj, hD with
                  | 0, _, hD =>
                    exact hD
                  | 1, _, hD =>
                    exact hD
                  | 2, _, _ => trivial
                  | 3, _, _ => trivial
                  | 4, _, _ => trivial
                  | 5, _, _ => trivial
                  | 6, _, _ => trivial
                  | 7, _, _ => trivial
                  | 8, _, _ => trivial
                  | 9, _, _ => trivial
                  | 10, _, _ => trivial
                  | 11, _, hD =>
                    exact hD
                  | 12, _, hD =>
                    exact hD
                  | 13, _, hD =>
                    exact hD
                  | 14, _, hD =>
                    exact hD
                  | 15, _, hD =>
                    exact hD
                  | 16, _, hD =>
                    exact hD
                  | 17, _, hD =>
                    exact hD
                  | 18, _, hD =>
                    exact hD
                  | 19, _, hD =>
                    exact hD
                  | 20, _, hD =>
                    exact hD
                  | 21, _, _ => trivial
                  | 22, _, _ => trivial
                  | (_ + 23), _, _ => omega
              · intro w9 hG
                rintro _ rfl _ rfl _ - _ - _ - _ - _ - _ - _ - _ - _ - _ rfl _ rfl _ rfl _ rfl _ rfl _ rfl _ rfl _ rfl _ rfl _ rfl _ -
                change wpList _ _ _ _ _ _
                simp only [Act.put, List.setIfInBounds_toArray, List.set_cons_zero, List.set_cons_succ, List.drop_succ_cons, List.drop_zero]
                obtain ⟨W0, hG0, rfl⟩ := hG
                have HM9 := Lib.hid (HM8.out.next hG0)
                have h3 := own_put_one (x' := { t0 with err := qe }) (enc := tlL) (fun _ => rfl) (show 4 < 7 by decide) HM9.out.ot HT0.out (v := vi qe) rfl
                obtain ⟨b', o', eb, _, _, _, _, _, _, t5', _⟩ := row7 (row_of_own (enc := tlL) (size := 7) (by decide) (fun _ => rfl) (by rw [show y.s.tools.length = (y.s.tools.set j { t0 with err := qe }).length by rw [List.length_set]] at h3; exact h3)) (set_at HT0.out)
                injection eb with eb
                injection eb with eb1 eb2'
                subst eb1
                subst eb2'
                simp only [Nat.zero_add] at t5'
                obtain ⟨cst2, hct2⟩ := own_cells h3
                have f5 := hct2.free (j * 7 + 5)
                have HR9 := Lib.hid (HM9.out.tool HOK.out HSD.out HFW.out HT0.out HQB.out.1 HQB.out.2)
                clear hG0 hct2 h3 ewa ewb ej eb8 eb2 ebn ean hnzt htb t4 t5
                go_wp2_with fail
                go_meet
                exact HR9.out
        · skip
          clear sx1 sx2 sx3 sx4 sy1 sy2 sy3 sy4 eb5 hb5b
          have q0 := HM7.out.bx.at 0 (v := .slice (some ⟨gs, 0, none⟩) y.s.spots.length sc2) rfl
          have q1 := HM7.out.bx.at 1 (v := vi y.s.strain) rfl
          have q2 := HM7.out.bx.at 2 (v := .slice TA y.s.tools.length tc2) rfl
          have q3 := HM7.out.bx.at 3 (v := vi y.s.day) rfl
          have q4 := HM7.out.bx.at 4 (v := .slice y.ra y.s.reads.length y.rc) rfl
          have t0 := HT7.out.at 0 (v := vi t.spot) rfl
          have t1 := HT7.out.at 1 (v := vi t.a) rfl
          have t2 := HT7.out.at 2 (v := vi t.b) rfl
          have t3 := HT7.out.at 3 (v := vi t.turn) rfl
          have t4 := HT7.out.at 4 (v := vi t.err) rfl
          have t5 := HT7.out.at 5 (v := vi t.drift) rfl
          have t6 := HT7.out.at 6 (v := vi t.since) rfl
          go_wp2_with fail
          refine (withR_any ⟨y.s, some ⟨gs, 0, none⟩, sc2, TA, tc2, y.ra, y.rc⟩ t r w7 ⟨row_of_own (enc := spL) (size := 4) (by decide) (fun _ => rfl) HM7.out.os, row_of_own (enc := tlL) (size := 7) (by decide) (fun _ => rfl) HM7.out.ot, (HOK.out.next HM7.out.nw).rd⟩ (by have := HSD.out.few; show y.s.tools.length ≤ _; omega) (by have := HSD.out.few; have := HSD.out.reads; show y.s.reads.length ≤ _; omega)).mono ?_
          rintro e w8 ⟨TB, tb, RB, rb, rfl, hto, hin, hn⟩
          have HM8 := Lib.hid (HM7.out.next hn)
          have HR9 := Lib.hid (HM8.out.with_ HSD.out (own_more hto (by have := HM7.out.os; exact own_base this)) (own_more hin (own_base HM7.out.os)))
          clear hto hin hn q0 q1 q2 q3 q4 t0 t1 t2 t3 t4 t5 t6
          have q0 := HM8.out.bx.at 0 rfl
          have f0 := HM8.out.bx.free 0
          have q1 := HM8.out.bx.at 1 rfl
          have f1 := HM8.out.bx.free 1
          have q2 := HM8.out.bx.at 2 rfl
          have f2 := HM8.out.bx.free 2
          have q3 := HM8.out.bx.at 3 rfl
          have f3 := HM8.out.bx.free 3
          have q4 := HM8.out.bx.at 4 rfl
          have f4 := HM8.out.bx.free 4
          go_wp2_with fail
          go_meet
          exact HR9.out
      case rest =>
        obtain ⟨X, hx1, hx2, hx3, hx4, hx5, hx6⟩ := hcut
        have HC := Lib.hid (And.intro hx1 (And.intro hx2 (And.intro hx3 (And.intro hx4 (And.intro hx5 hx6)))))
        clear HM7 HT7 hx1 hx2 hx3 hx4 hx5 hx6 hks ek ean
        have x0 := HC.out.2.2.1.at 0 (v := .slice X.sa X.s.spots.length X.sc) rfl
        have x1 := HC.out.2.2.1.at 1 (v := vi X.s.strain) rfl
        have x2 := HC.out.2.2.1.at 2 (v := .slice X.ta X.s.tools.length X.tc) rfl
        have x3 := HC.out.2.2.1.at 3 (v := vi X.s.day) rfl
        have x4 := HC.out.2.2.1.at 4 (v := .slice X.ra X.s.reads.length X.rc) rfl
        go_wp2_with fail
        refine (refFault_any X wc HC.out.2.2.2.1 HC.out.2.2.2.2.1).mono ?_
        rintro e w9 ⟨rfl, hn⟩
        have H9 := Lib.hid (And.intro hn (newer_trans HC.out.1 hn))
        clear hn x0 x1 x2 x3 x4
        obtain ⟨E, hE⟩ : ∃ q, q = errN X.s := ⟨_, rfl⟩
        rw [← hE]
        have HEE := Lib.hid hE
        clear hE
        by_cases he0 : E = 0
        case neg =>
          have heb : (E == 0) = false := by simpa using he0
          have heb2 : (E != 0) = true := by simp [bne, heb]
          go_wp2_with fail
          refine (awake_any _).mono ?_
          rintro e wk ⟨rfl, hb⟩
          have HK := Lib.hid (newer_trans (H9.out.2) hb)
          clear hb
          go_wp2_with fail
          go_ret
          exact ⟨rfl, HK.out⟩
        case pos =>
          subst he0
          have HXS := Lib.hid (err_iff.1 HEE.out.symm)
          have HMK : Hid (okS X.s (freeL X.s) = true → okS y.s (freeL y.s) = true ∧ ∀ i, i < y.s.spots.length → ((learnN y.s i).x.lo ≤ (learnN X.s i).x.lo ∧ (learnN X.s i).x.hi ≤ (learnN y.s i).x.hi) ∧ (learnN y.s i).y.lo ≤ (learnN X.s i).y.lo ∧ (learnN X.s i).y.hi ≤ (learnN y.s i).y.hi) := Lib.hid (fun h => more_in (by have := HSD.out.spots.1; omega) HC.out.2.2.2.2.2.1 (HC.out.2.2.2.2.2.2 HXS.out) h)
          have hcy := learn_two HSD.out
          have hcx := learn_two HXS.out
          obtain ⟨E1, hE1⟩ : ∃ q, q = learnE y.s := ⟨_, rfl⟩
          obtain ⟨L1, hL1⟩ : ∃ q, q = learnL y.s := ⟨_, rfl⟩
          obtain ⟨E2, hE2⟩ : ∃ q, q = learnE X.s := ⟨_, rfl⟩
          obtain ⟨L2, hL2⟩ : ∃ q, q = learnL X.s := ⟨_, rfl⟩
          rw [← hE1, ← hL1] at hcy
          rw [← hE2, ← hL2] at hcx
          have HLY : Hid (∀ sa sc ta tc ra rc W, SmOk ⟨y.s, sa, sc, ta, tc, ra, rc⟩ W → Calls Try.prog 26 #[.agg #[.slice sa y.s.spots.length sc, vi y.s.strain, .slice ta y.s.tools.length tc, vi y.s.day, .slice ra y.s.reads.length rc]] W fun e w' => ∃ B d, e = .returned (.tuple #[.slice B L1.length d, vi E1]) ∧ w'.ownsRow W.heap.size 56 4 (.slice B L1.length d) L1.length (L1.flatMap spL) ∧ newer W w') := Lib.hid (fun sa sc ta tc ra rc W hW => by
            have h := learn_all ⟨y.s, sa, sc, ta, tc, ra, rc⟩ W hW (few_s (y := y) rfl HFW.out)
            rw [← hE1, ← hL1] at h
            exact h)
          have HLX : Hid (∀ sa sc ta tc ra rc W, SmOk ⟨X.s, sa, sc, ta, tc, ra, rc⟩ W → Calls Try.prog 26 #[.agg #[.slice sa X.s.spots.length sc, vi X.s.strain, .slice ta X.s.tools.length tc, vi X.s.day, .slice ra X.s.reads.length rc]] W fun e w' => ∃ B d, e = .returned (.tuple #[.slice B L2.length d, vi E2]) ∧ w'.ownsRow W.heap.size 56 4 (.slice B L2.length d) L2.length (L2.flatMap spL) ∧ newer W w') := Lib.hid (fun sa sc ta tc ra rc W hW => by
            have h := learn_all ⟨X.s, sa, sc, ta, tc, ra, rc⟩ W hW (few_s (y := X) rfl HC.out.2.2.2.2.1)
            rw [← hE2, ← hL2] at h
            exact h)
          have HCY := Lib.hid (And.intro hcy hcx)
          clear hcy hcx hE1 hL1 hE2 hL2 HEE
          have x0 := (HC.out.2.1.below H9.out.1 HC.out.2.1.lt).at 0 (v := .slice y.sa y.s.spots.length y.sc) rfl
          have x1 := (HC.out.2.1.below H9.out.1 HC.out.2.1.lt).at 1 (v := vi y.s.strain) rfl
          have x2 := (HC.out.2.1.below H9.out.1 HC.out.2.1.lt).at 2 (v := .slice y.ta y.s.tools.length y.tc) rfl
          have x3 := (HC.out.2.1.below H9.out.1 HC.out.2.1.lt).at 3 (v := vi y.s.day) rfl
          have x4 := (HC.out.2.1.below H9.out.1 HC.out.2.1.lt).at 4 (v := .slice y.ra y.s.reads.length y.rc) rfl
          go_wp2_with fail
          refine (survey_any y w9 (HOK.out.next H9.out.2) HFW.out).mono ?_
          rintro e w10 ⟨sa, sc, ta, tc, ra, rc, rfl, ho, hn⟩
          have H10 := Lib.hid (And.intro ho.ok (And.intro (newer_trans H9.out.1 hn) (newer_trans H9.out.2 hn)))
          clear ho hn x0 x1 x2 x3 x4
          go_wp2_with fail
          refine (HLY.out _ _ _ _ _ _ w10 H10.out.1).mono ?_
          rintro e w11 ⟨B1, d1, rfl, hl1, hn⟩
          have H11 := Lib.hid (And.intro hl1 (And.intro (newer_trans H10.out.2.1 hn) (newer_trans H10.out.2.2 hn)))
          clear hl1 hn H10
          have x0 := (HC.out.2.2.1.below H11.out.2.1 HC.out.2.2.1.lt).at 0 (v := .slice X.sa X.s.spots.length X.sc) rfl
          have x1 := (HC.out.2.2.1.below H11.out.2.1 HC.out.2.2.1.lt).at 1 (v := vi X.s.strain) rfl
          have x2 := (HC.out.2.2.1.below H11.out.2.1 HC.out.2.2.1.lt).at 2 (v := .slice X.ta X.s.tools.length X.tc) rfl
          have x3 := (HC.out.2.2.1.below H11.out.2.1 HC.out.2.2.1.lt).at 3 (v := vi X.s.day) rfl
          have x4 := (HC.out.2.2.1.below H11.out.2.1 HC.out.2.2.1.lt).at 4 (v := .slice X.ra X.s.reads.length X.rc) rfl
          go_wp2_with fail
          refine (survey_any X w11 (HC.out.2.2.2.1.next H11.out.2.1) HC.out.2.2.2.2.1).mono ?_
          rintro e w12 ⟨sa2, sc3, ta2, tc3, ra2, rc3, rfl, ho, hn⟩
          have H12 := Lib.hid (And.intro ho.ok hn)
          clear ho hn x0 x1 x2 x3 x4
          go_wp2_with fail
          refine (HLX.out _ _ _ _ _ _ w12 H12.out.1).mono ?_
          rintro e w13 ⟨B2, d2, rfl, hl2, hn⟩
          have hn13 := newer_trans H12.out.2 hn
          have H13 := Lib.hid (And.intro (own_below H11.out.1 hn13) (And.intro hl2 (newer_trans H11.out.2.2 hn13)))
          have HB13 := Lib.hid (HC.out.2.1.below (newer_trans H11.out.2.1 hn13) HC.out.2.1.lt)
          clear hl2 hn hn13 H12 HLX HLY
          obtain ⟨hcy, hcx⟩ := HCY.out
          clear HCY
          rcases hcx with ⟨rfl, rfl, _⟩ | ⟨rfl, hx2, hx3⟩
          · rcases hcy with ⟨rfl, _, _⟩ | ⟨rfl, _, _⟩
            · go_wp2_with fail
              refine (awake_any _).mono ?_
              rintro e wk ⟨rfl, hb⟩
              have HK := Lib.hid (newer_trans (H13.out.2.2) hb)
              clear hb
              go_wp2_with fail
              go_ret
              exact ⟨rfl, HK.out⟩
            · go_wp2_with fail
              refine (awake_any _).mono ?_
              rintro e wk ⟨rfl, hb⟩
              have HK := Lib.hid (newer_trans (H13.out.2.2) hb)
              clear hb
              go_wp2_with fail
              go_ret
              exact ⟨rfl, HK.out⟩
          · obtain ⟨hy3, hyb⟩ := HMK.out hx3
            rcases hcy with ⟨_, _, h1⟩ | ⟨rfl, hy2, _⟩
            · rw [hy3] at h1
              cases h1
            obtain ⟨n, hn⟩ : ∃ n, n = y.s.spots.length := ⟨_, rfl⟩
            have h1n : L1.length = n := by rw [hy2, hn]; exact knK_len _ _
            have h2n : L2.length = n := by rw [hx2, hn, ← HC.out.2.2.2.2.2.1]; exact knK_len _ _
            have hn6 : n ≤ 6 := by rw [hn]; exact HSD.out.spots.2
            have HNN := Lib.hid (And.intro hn (And.intro h1n (And.intro h2n (And.intro hy2 (And.intro hx2 hyb)))))
            rw [h1n, h2n]
            have x0 := HB13.out.at 0 (v := .slice y.sa y.s.spots.length y.sc) rfl
            rw [← hn] at x0
            clear hn h1n h2n hy2 hx2 hyb hy3 hx3 HMK
            go_wp2_with fail
            clear x0
            go_loopw [20] (fun s20 wr => ∃ i : Nat, i ≤ n ∧ s20 = vi i ∧ newer w13 wr) (fun s20 _ => n - (intOf s20).toNat)
            case atStart => exact ⟨0, Nat.zero_le _, rfl, newer_refl _⟩
            case round =>
              obtain ⟨i, hi, rfl, hnx⟩ := hrel
              have HNX := Lib.hid hnx
              by_cases hlt : i < n
              case neg =>
                obtain rfl : i = n := by omega
                have hge : ¬ (i : Int) < i := by omega
                clear hnx hlt
                go_wp2_with fail
                refine (awake_any _).mono ?_
                rintro e wk ⟨rfl, hb⟩
                have HK := Lib.hid (newer_trans (newer_trans H13.out.2.2 HNX.out) hb)
                clear hb
                go_wp2_with fail
                go_ret
                exact ⟨rfl, HK.out⟩
              case pos =>
                have hin : (i : Int) < n := by omega
                have h5 := HNN.out.2.2.2.2.2 i (by rw [← HNN.out.1]; exact hlt)
                obtain ⟨q, hq⟩ : ∃ q, q = learnN y.s i := ⟨_, rfl⟩
                obtain ⟨p, hp⟩ : ∃ p, p = learnN X.s i := ⟨_, rfl⟩
                rw [← hq, ← hp] at h5
                have hq1 : L1[i]? = some q := by rw [hq, HNN.out.2.2.2.1]; exact knL_at (by rw [← HNN.out.1]; exact hlt)
                have hp1 : L2[i]? = some p := by rw [hp, HNN.out.2.2.2.2.1]; exact knL_at (by rw [HC.out.2.2.2.2.2.1, ← HNN.out.1]; exact hlt)
                obtain ⟨mb, mo, em, _, q0, q1, q2, q3⟩ := row4 (row_of_own (enc := spL) (size := 4) (by decide) (fun _ => rfl) (own_below H13.out.1 hnx)) hq1
                obtain ⟨lb, lo, el, _, p0, p1, p2, p3⟩ := row4 (row_of_own (enc := spL) (size := 4) (by decide) (fun _ => rfl) (own_below H13.out.2.1 hnx)) hp1
                have c1x : ¬ p.x.lo < q.x.lo := by omega
                have c2x : ¬ q.x.hi < p.x.hi := by omega
                have c3x : ¬ p.y.lo < q.y.lo := by omega
                have c4x : ¬ q.y.hi < p.y.hi := by omega
                rw [em, el]
                clear h5 hq hp hq1 hp1 em el hnx
                go_upto_region 30 with fail
                refine wp_words (by kernel_rfl) (region_told_u 57 (by kernel_rfl) (by kernel_rfl) [false, false, false, false, false, false, false, false, false, false, false, false, false, false, false, false, false, false, false, false, false, false, false, false, false, false, false, false, false, false, false, false, false, false, false, false, false, false, false, false, false, false, false, false, false, false, false, false, false, false, false, false, false, false, false, false, false] (fun W => Below wr.heap.size wr W) newer [vIs (.slice (some ⟨lb, lo, none⟩) n d2), vIs (.int .i64 i), vIs (.pointer (some ⟨lb, lo + i * 4, none⟩)), vIs (.pointer (some ⟨lb, lo + i * 4, none⟩)), vIs (.pointer (some ⟨lb, lo + i * 4, none⟩)), vIs (vi p.x.lo), vIs (.slice (some ⟨mb, mo, none⟩) n d1), vIs (.int .i64 i), vIs (.pointer (some ⟨mb, mo + i * 4, none⟩)), vIs (.pointer (some ⟨mb, mo + i * 4, none⟩)), vIs (.pointer (some ⟨mb, mo + i * 4, none⟩)), vIs (vi q.x.lo), vIs (.bool false), vIs (.bool false), vIs (.slice (some ⟨lb, lo, none⟩) n d2), vIs (.int .i64 i), vIs (.pointer (some ⟨lb, lo + i * 4, none⟩)), vIs (.pointer (some ⟨lb, lo + i * 4, none⟩)), vIs (.pointer (some ⟨lb, lo + i * 4 + 1, none⟩)), vIs (vi p.x.hi), vIs (.slice (some ⟨mb, mo, none⟩) n d1), vIs (.int .i64 i), vIs (.pointer (some ⟨mb, mo + i * 4, none⟩)), vIs (.pointer (some ⟨mb, mo + i * 4, none⟩)), vIs (.pointer (some ⟨mb, mo + i * 4 + 1, none⟩)), vIs (vi q.x.hi), vIs (.bool false), vIs (.bool false), vIs (.bool false), vIs (.slice (some ⟨lb, lo, none⟩) n d2), vIs (.int .i64 i), vIs (.pointer (some ⟨lb, lo + i * 4, none⟩)), vIs (.pointer (some ⟨lb, lo + i * 4 + 2, none⟩)), vIs (.pointer (some ⟨lb, lo + i * 4 + 2, none⟩)), vIs (vi p.y.lo), vIs (.slice (some ⟨mb, mo, none⟩) n d1), vIs (.int .i64 i), vIs (.pointer (some ⟨mb, mo + i * 4, none⟩)), vIs (.pointer (some ⟨mb, mo + i * 4 + 2, none⟩)), vIs (.pointer (some ⟨mb, mo + i * 4 + 2, none⟩)), vIs (vi q.y.lo), vIs (.bool false), vIs (.bool false), vIs (.bool false), vIs (.slice (some ⟨lb, lo, none⟩) n d2), vIs (.int .i64 i), vIs (.pointer (some ⟨lb, lo + i * 4, none⟩)), vIs (.pointer (some ⟨lb, lo + i * 4 + 2, none⟩)), vIs (.pointer (some ⟨lb, lo + i * 4 + 2 + 1, none⟩)), vIs (vi p.y.hi), vIs (.slice (some ⟨mb, mo, none⟩) n d1), vIs (.int .i64 i), vIs (.pointer (some ⟨mb, mo + i * 4, none⟩)), vIs (.pointer (some ⟨mb, mo + i * 4 + 2, none⟩)), vIs (.pointer (some ⟨mb, mo + i * 4 + 2 + 1, none⟩)), vIs (vi q.y.hi), vIs (.bool false)] ⟨rfl, rfl, rfl, rfl, rfl, rfl, rfl, rfl, rfl, rfl, rfl, rfl, rfl, rfl, (fun v W h => by obtain rfl : v = _ := h; rfl), (fun v W h => by obtain rfl : v = _ := h; rfl), (fun v W h => by obtain rfl : v = _ := h; rfl), (fun v W h => by obtain rfl : v = _ := h; rfl), (fun v W h => by obtain rfl : v = _ := h; rfl), (fun v W h => by obtain rfl : v = _ := h; rfl), (fun v W h => by obtain rfl : v = _ := h; rfl), (fun v W h => by obtain rfl : v = _ := h; rfl), (fun v W h => by obtain rfl : v = _ := h; rfl), (fun v W h => by obtain rfl : v = _ := h; rfl), (fun v W h => by obtain rfl : v = _ := h; rfl), (fun v W h => by obtain rfl : v = _ := h; rfl), (fun v W h => by obtain rfl : v = _ := h; rfl), rfl, rfl, (fun v W h => by obtain rfl : v = _ := h; rfl), (fun v W h => by obtain rfl : v = _ := h; rfl), (fun v W h => by obtain rfl : v = _ := h; rfl), (fun v W h => by obtain rfl : v = _ := h; rfl), (fun v W h => by obtain rfl : v = _ := h; rfl), (fun v W h => by obtain rfl : v = _ := h; rfl), (fun v W h => by obtain rfl : v = _ := h; rfl), (fun v W h => by obtain rfl : v = _ := h; rfl), (fun v W h => by obtain rfl : v = _ := h; rfl), (fun v W h => by obtain rfl : v = _ := h; rfl), (fun v W h => by obtain rfl : v = _ := h; rfl), (fun v W h => by obtain rfl : v = _ := h; rfl), (fun v W h => by obtain rfl : v = _ := h; rfl), rfl, rfl, (fun v W h => by obtain rfl : v = _ := h; rfl), (fun v W h => by obtain rfl : v = _ := h; rfl), (fun v W h => by obtain rfl : v = _ := h; rfl), (fun v W h => by obtain rfl : v = _ := h; rfl), (fun v W h => by obtain rfl : v = _ := h; rfl), (fun v W h => by obtain rfl : v = _ := h; rfl), (fun v W h => by obtain rfl : v = _ := h; rfl), (fun v W h => by obtain rfl : v = _ := h; rfl), (fun v W h => by obtain rfl : v = _ := h; rfl), (fun v W h => by obtain rfl : v = _ := h; rfl), (fun v W h => by obtain rfl : v = _ := h; rfl), (fun v W h => by obtain rfl : v = _ := h; rfl), (fun v W h => by obtain rfl : v = _ := h; rfl), trivial⟩ ⟨(fun h => Bool.noConfusion (show false = true from h)), (fun h => Bool.noConfusion (show false = true from h)), (fun h => Bool.noConfusion (show false = true from h)), (fun h => Bool.noConfusion (show false = true from h)), (fun h => Bool.noConfusion (show false = true from h)), (fun h => Bool.noConfusion (show false = true from h)), (fun h => Bool.noConfusion (show false = true from h)), (fun h => Bool.noConfusion (show false = true from h)), (fun h => Bool.noConfusion (show false = true from h)), (fun h => Bool.noConfusion (show false = true from h)), (fun h => Bool.noConfusion (show false = true from h)), (fun h => Bool.noConfusion (show false = true from h)), (fun h => Bool.noConfusion (show false = true from h)), (fun h => Bool.noConfusion (show false = true from h)), (fun h => Bool.noConfusion (show false = true from h)), (fun h => Bool.noConfusion (show false = true from h)), (fun h => Bool.noConfusion (show false = true from h)), (fun h => Bool.noConfusion (show false = true from h)), (fun h => Bool.noConfusion (show false = true from h)), (fun h => Bool.noConfusion (show false = true from h)), (fun h => Bool.noConfusion (show false = true from h)), (fun h => Bool.noConfusion (show false = true from h)), (fun h => Bool.noConfusion (show false = true from h)), (fun h => Bool.noConfusion (show false = true from h)), (fun h => Bool.noConfusion (show false = true from h)), (fun h => Bool.noConfusion (show false = true from h)), (fun h => Bool.noConfusion (show false = true from h)), (fun h => Bool.noConfusion (show false = true from h)), (fun h => Bool.noConfusion (show false = true from h)), (fun h => Bool.noConfusion (show false = true from h)), (fun h => Bool.noConfusion (show false = true from h)), (fun h => Bool.noConfusion (show false = true from h)), (fun h => Bool.noConfusion (show false = true from h)), (fun h => Bool.noConfusion (show false = true from h)), (fun h => Bool.noConfusion (show false = true from h)), (fun h => Bool.noConfusion (show false = true from h)), (fun h => Bool.noConfusion (show false = true from h)), (fun h => Bool.noConfusion (show false = true from h)), (fun h => Bool.noConfusion (show false = true from h)), (fun h => Bool.noConfusion (show false = true from h)), (fun h => Bool.noConfusion (show false = true from h)), (fun h => Bool.noConfusion (show false = true from h)), (fun h => Bool.noConfusion (show false = true from h)), (fun h => Bool.noConfusion (show false = true from h)), (fun h => Bool.noConfusion (show false = true from h)), (fun h => Bool.noConfusion (show false = true from h)), (fun h => Bool.noConfusion (show false = true from h)), (fun h => Bool.noConfusion (show false = true from h)), (fun h => Bool.noConfusion (show false = true from h)), (fun h => Bool.noConfusion (show false = true from h)), (fun h => Bool.noConfusion (show false = true from h)), (fun h => Bool.noConfusion (show false = true from h)), (fun h => Bool.noConfusion (show false = true from h)), (fun h => Bool.noConfusion (show false = true from h)), (fun h => Bool.noConfusion (show false = true from h)), (fun h => Bool.noConfusion (show false = true from h)), (fun h => Bool.noConfusion (show false = true from h)), trivial⟩ (fun h k => newer_trans h k) (pickD_stable _ ⟨vIs_st, vIs_st, vIs_st, vIs_st, vIs_st, vIs_st, vIs_st, vIs_st, vIs_st, vIs_st, vIs_st, vIs_st, vIs_st, vIs_st, vIs_st, vIs_st, vIs_st, vIs_st, vIs_st, vIs_st, vIs_st, vIs_st, vIs_st, vIs_st, vIs_st, vIs_st, vIs_st, vIs_st, vIs_st, vIs_st, vIs_st, vIs_st, vIs_st, vIs_st, vIs_st, vIs_st, vIs_st, vIs_st, vIs_st, vIs_st, vIs_st, vIs_st, vIs_st, vIs_st, vIs_st, vIs_st, vIs_st, vIs_st, vIs_st, vIs_st, vIs_st, vIs_st, vIs_st, vIs_st, vIs_st, vIs_st, vIs_st, trivial⟩) (Below.refl _ wr).drew (Below.refl _ _) ?_ ?_)
                · refine ⟨.inr ?_, .inr ?_, .inr ?_, .inr ?_, .inr ?_, .inr ?_, .inr ?_, .inr ?_, .inr ?_, .inr ?_, .inr ?_, .inr ?_, .inr ?_, .inr ?_, .inr ?_, .inr ?_, .inr ?_, .inr ?_, .inr ?_, .inr ?_, .inr ?_, .inr ?_, .inr ?_, .inr ?_, .inr ?_, .inr ?_, .inr ?_, .inr ?_, .inr ?_, .inr ?_, .inr ?_, .inr ?_, .inr ?_, .inr ?_, .inr ?_, .inr ?_, .inr ?_, .inr ?_, .inr ?_, .inr ?_, .inr ?_, .inr ?_, .inr ?_, .inr ?_, .inr ?_, .inr ?_, .inr ?_, .inr ?_, .inr ?_, .inr ?_, .inr ?_, .inr ?_, .inr ?_, .inr ?_, .inr ?_, .inr ?_, .inr ?_, trivial⟩
                  · exact fun a W hG _ hO _ => kM 18 rfl (hO.slot 18 (by kernel_rfl)) rfl hG
                  · exact fun a W hG _ hO _ => kM 20 rfl (hO.slot 20 (by kernel_rfl)) rfl hG
                  · intro a W hG hR hO hp
                    have h195 : slotOf a 195 = .slice (some ⟨lb, lo, none⟩) n d2 := hp.1
                    have h196 : slotOf a 196 = .int .i64 i := hp.2.1
                    refine kY (v := .pointer (some ⟨lb, lo + i * 4, none⟩)) hG rfl ?_
                    simp [slotOf] at h195 h196
                    simp [execOp, go_sem, h195, h196, hin]
                  · intro a W hG hR hO hp
                    have h197 : slotOf a 197 = .pointer (some ⟨lb, lo + i * 4, none⟩) := hp.1
                    refine kY (v := .pointer (some ⟨lb, lo + i * 4, none⟩)) hG rfl ?_
                    simp [slotOf] at h197
                    simp [execOp, go_sem, h197]
                  · intro a W hG hR hO hp
                    have h198 : slotOf a 198 = .pointer (some ⟨lb, lo + i * 4, none⟩) := hp.1
                    refine kY (v := .pointer (some ⟨lb, lo + i * 4, none⟩)) hG rfl ?_
                    simp [slotOf] at h198
                    simp [execOp, go_sem, h198]
                  · intro a W hG hR hO hp
                    have h199 : slotOf a 199 = .pointer (some ⟨lb, lo + i * 4, none⟩) := hp.1
                    have c0 := keep_cell p0 hG
                    refine kY (v := vi p.x.lo) hG rfl ?_
                    simp [slotOf] at h199
                    simp [execOp, go_sem, h199, c0]
                  · exact fun a W hG _ hO _ => kM 16 rfl (hO.slot 16 (by kernel_rfl)) rfl hG
                  · exact fun a W hG _ hO _ => kM 20 rfl (hO.slot 20 (by kernel_rfl)) rfl hG
                  · intro a W hG hR hO hp
                    have h201 : slotOf a 201 = .slice (some ⟨mb, mo, none⟩) n d1 := hp.1
                    have h202 : slotOf a 202 = .int .i64 i := hp.2.1
                    refine kY (v := .pointer (some ⟨mb, mo + i * 4, none⟩)) hG rfl ?_
                    simp [slotOf] at h201 h202
                    simp [execOp, go_sem, h201, h202, hin]
                  · intro a W hG hR hO hp
                    have h203 : slotOf a 203 = .pointer (some ⟨mb, mo + i * 4, none⟩) := hp.1
                    refine kY (v := .pointer (some ⟨mb, mo + i * 4, none⟩)) hG rfl ?_
                    simp [slotOf] at h203
                    simp [execOp, go_sem, h203]
                  · intro a W hG hR hO hp
                    have h204 : slotOf a 204 = .pointer (some ⟨mb, mo + i * 4, none⟩) := hp.1
                    refine kY (v := .pointer (some ⟨mb, mo + i * 4, none⟩)) hG rfl ?_
                    simp [slotOf] at h204
                    simp [execOp, go_sem, h204]
                  · intro a W hG hR hO hp
                    have h205 : slotOf a 205 = .pointer (some ⟨mb, mo + i * 4, none⟩) := hp.1
                    have c0 := keep_cell q0 hG
                    refine kY (v := vi q.x.lo) hG rfl ?_
                    simp [slotOf] at h205
                    simp [execOp, go_sem, h205, c0]
                  · intro a W hG hR hO hp
                    have h200 : slotOf a 200 = vi p.x.lo := hp.1
                    have h206 : slotOf a 206 = vi q.x.lo := hp.2.1
                    refine kY (v := .bool false) hG rfl ?_
                    simp [slotOf] at h200 h206
                    simp [execOp, go_sem, h200, h206, c1x]
                  · exact fun a W hG _ _ hp => kM 207 rfl hp.1 rfl hG
                  · exact fun a W hG _ hO _ => kM 18 rfl (hO.slot 18 (by kernel_rfl)) rfl hG
                  · exact fun a W hG _ hO _ => kM 20 rfl (hO.slot 20 (by kernel_rfl)) rfl hG
                  · intro a W hG hR hO hp
                    have h209 : slotOf a 209 = .slice (some ⟨lb, lo, none⟩) n d2 := hp.1
                    have h210 : slotOf a 210 = .int .i64 i := hp.2.1
                    refine kY (v := .pointer (some ⟨lb, lo + i * 4, none⟩)) hG rfl ?_
                    simp [slotOf] at h209 h210
                    simp [execOp, go_sem, h209, h210, hin]
                  · intro a W hG hR hO hp
                    have h211 : slotOf a 211 = .pointer (some ⟨lb, lo + i * 4, none⟩) := hp.1
                    refine kY (v := .pointer (some ⟨lb, lo + i * 4, none⟩)) hG rfl ?_
                    simp [slotOf] at h211
                    simp [execOp, go_sem, h211]
                  · intro a W hG hR hO hp
                    have h212 : slotOf a 212 = .pointer (some ⟨lb, lo + i * 4, none⟩) := hp.1
                    refine kY (v := .pointer (some ⟨lb, lo + i * 4 + 1, none⟩)) hG rfl ?_
                    simp [slotOf] at h212
                    simp [execOp, go_sem, h212]
                  · intro a W hG hR hO hp
                    have h213 : slotOf a 213 = .pointer (some ⟨lb, lo + i * 4 + 1, none⟩) := hp.1
                    have c0 := keep_cell p1 hG
                    refine kY (v := vi p.x.hi) hG rfl ?_
                    simp [slotOf] at h213
                    simp [execOp, go_sem, h213, c0]
                  · exact fun a W hG _ hO _ => kM 16 rfl (hO.slot 16 (by kernel_rfl)) rfl hG
                  · exact fun a W hG _ hO _ => kM 20 rfl (hO.slot 20 (by kernel_rfl)) rfl hG
                  · intro a W hG hR hO hp
                    have h215 : slotOf a 215 = .slice (some ⟨mb, mo, none⟩) n d1 := hp.1
                    have h216 : slotOf a 216 = .int .i64 i := hp.2.1
                    refine kY (v := .pointer (some ⟨mb, mo + i * 4, none⟩)) hG rfl ?_
                    simp [slotOf] at h215 h216
                    simp [execOp, go_sem, h215, h216, hin]
                  · intro a W hG hR hO hp
                    have h217 : slotOf a 217 = .pointer (some ⟨mb, mo + i * 4, none⟩) := hp.1
                    refine kY (v := .pointer (some ⟨mb, mo + i * 4, none⟩)) hG rfl ?_
                    simp [slotOf] at h217
                    simp [execOp, go_sem, h217]
                  · intro a W hG hR hO hp
                    have h218 : slotOf a 218 = .pointer (some ⟨mb, mo + i * 4, none⟩) := hp.1
                    refine kY (v := .pointer (some ⟨mb, mo + i * 4 + 1, none⟩)) hG rfl ?_
                    simp [slotOf] at h218
                    simp [execOp, go_sem, h218]
                  · intro a W hG hR hO hp
                    have h219 : slotOf a 219 = .pointer (some ⟨mb, mo + i * 4 + 1, none⟩) := hp.1
                    have c0 := keep_cell q1 hG
                    refine kY (v := vi q.x.hi) hG rfl ?_
                    simp [slotOf] at h219
                    simp [execOp, go_sem, h219, c0]
                  · intro a W hG hR hO hp
                    have h214 : slotOf a 214 = vi p.x.hi := hp.1
                    have h220 : slotOf a 220 = vi q.x.hi := hp.2.1
                    refine kY (v := .bool false) hG rfl ?_
                    simp [slotOf] at h214 h220
                    simp [execOp, go_sem, h214, h220, c2x]
                  · intro a W hG hR hO hp
                    have h208 : slotOf a 208 = .bool false := hp.1
                    have h221 : slotOf a 221 = .bool false := hp.2.1
                    refine kY (v := .bool false) hG rfl ?_
                    simp [slotOf] at h208 h221
                    simp [execOp, go_sem, h208, h221]
                  · exact fun a W hG _ _ hp => kM 222 rfl hp.1 rfl hG
                  · exact fun a W hG _ hO _ => kM 18 rfl (hO.slot 18 (by kernel_rfl)) rfl hG
                  · exact fun a W hG _ hO _ => kM 20 rfl (hO.slot 20 (by kernel_rfl)) rfl hG
                  · intro a W hG hR hO hp
                    have h224 : slotOf a 224 = .slice (some ⟨lb, lo, none⟩) n d2 := hp.1
                    have h225 : slotOf a 225 = .int .i64 i := hp.2.1
                    refine kY (v := .pointer (some ⟨lb, lo + i * 4, none⟩)) hG rfl ?_
                    simp [slotOf] at h224 h225
                    simp [execOp, go_sem, h224, h225, hin]
                  · intro a W hG hR hO hp
                    have h226 : slotOf a 226 = .pointer (some ⟨lb, lo + i * 4, none⟩) := hp.1
                    refine kY (v := .pointer (some ⟨lb, lo + i * 4 + 2, none⟩)) hG rfl ?_
                    simp [slotOf] at h226
                    simp [execOp, go_sem, h226]
                  · intro a W hG hR hO hp
                    have h227 : slotOf a 227 = .pointer (some ⟨lb, lo + i * 4 + 2, none⟩) := hp.1
                    refine kY (v := .pointer (some ⟨lb, lo + i * 4 + 2, none⟩)) hG rfl ?_
                    simp [slotOf] at h227
                    simp [execOp, go_sem, h227]
                  · intro a W hG hR hO hp
                    have h228 : slotOf a 228 = .pointer (some ⟨lb, lo + i * 4 + 2, none⟩) := hp.1
                    have c0 := keep_cell p2 hG
                    refine kY (v := vi p.y.lo) hG rfl ?_
                    simp [slotOf] at h228
                    simp [execOp, go_sem, h228, c0]
                  · exact fun a W hG _ hO _ => kM 16 rfl (hO.slot 16 (by kernel_rfl)) rfl hG
                  · exact fun a W hG _ hO _ => kM 20 rfl (hO.slot 20 (by kernel_rfl)) rfl hG
                  · intro a W hG hR hO hp
                    have h230 : slotOf a 230 = .slice (some ⟨mb, mo, none⟩) n d1 := hp.1
                    have h231 : slotOf a 231 = .int .i64 i := hp.2.1
                    refine kY (v := .pointer (some ⟨mb, mo + i * 4, none⟩)) hG rfl ?_
                    simp [slotOf] at h230 h231
                    simp [execOp, go_sem, h230, h231, hin]
                  · intro a W hG hR hO hp
                    have h232 : slotOf a 232 = .pointer (some ⟨mb, mo + i * 4, none⟩) := hp.1
                    refine kY (v := .pointer (some ⟨mb, mo + i * 4 + 2, none⟩)) hG rfl ?_
                    simp [slotOf] at h232
                    simp [execOp, go_sem, h232]
                  · intro a W hG hR hO hp
                    have h233 : slotOf a 233 = .pointer (some ⟨mb, mo + i * 4 + 2, none⟩) := hp.1
                    refine kY (v := .pointer (some ⟨mb, mo + i * 4 + 2, none⟩)) hG rfl ?_
                    simp [slotOf] at h233
                    simp [execOp, go_sem, h233]
                  · intro a W hG hR hO hp
                    have h234 : slotOf a 234 = .pointer (some ⟨mb, mo + i * 4 + 2, none⟩) := hp.1
                    have c0 := keep_cell q2 hG
                    refine kY (v := vi q.y.lo) hG rfl ?_
                    simp [slotOf] at h234
                    simp [execOp, go_sem, h234, c0]
                  · intro a W hG hR hO hp
                    have h229 : slotOf a 229 = vi p.y.lo := hp.1
                    have h235 : slotOf a 235 = vi q.y.lo := hp.2.1
                    refine kY (v := .bool false) hG rfl ?_
                    simp [slotOf] at h229 h235
                    simp [execOp, go_sem, h229, h235, c3x]
                  · intro a W hG hR hO hp
                    have h223 : slotOf a 223 = .bool false := hp.1
                    have h236 : slotOf a 236 = .bool false := hp.2.1
                    refine kY (v := .bool false) hG rfl ?_
                    simp [slotOf] at h223 h236
                    simp [execOp, go_sem, h223, h236]
                  · exact fun a W hG _ _ hp => kM 237 rfl hp.1 rfl hG
                  · exact fun a W hG _ hO _ => kM 18 rfl (hO.slot 18 (by kernel_rfl)) rfl hG
                  · exact fun a W hG _ hO _ => kM 20 rfl (hO.slot 20 (by kernel_rfl)) rfl hG
                  · intro a W hG hR hO hp
                    have h239 : slotOf a 239 = .slice (some ⟨lb, lo, none⟩) n d2 := hp.1
                    have h240 : slotOf a 240 = .int .i64 i := hp.2.1
                    refine kY (v := .pointer (some ⟨lb, lo + i * 4, none⟩)) hG rfl ?_
                    simp [slotOf] at h239 h240
                    simp [execOp, go_sem, h239, h240, hin]
                  · intro a W hG hR hO hp
                    have h241 : slotOf a 241 = .pointer (some ⟨lb, lo + i * 4, none⟩) := hp.1
                    refine kY (v := .pointer (some ⟨lb, lo + i * 4 + 2, none⟩)) hG rfl ?_
                    simp [slotOf] at h241
                    simp [execOp, go_sem, h241]
                  · intro a W hG hR hO hp
                    have h242 : slotOf a 242 = .pointer (some ⟨lb, lo + i * 4 + 2, none⟩) := hp.1
                    refine kY (v := .pointer (some ⟨lb, lo + i * 4 + 2 + 1, none⟩)) hG rfl ?_
                    simp [slotOf] at h242
                    simp [execOp, go_sem, h242]
                  · intro a W hG hR hO hp
                    have h243 : slotOf a 243 = .pointer (some ⟨lb, lo + i * 4 + 2 + 1, none⟩) := hp.1
                    have c0 := keep_cell p3 hG
                    refine kY (v := vi p.y.hi) hG rfl ?_
                    simp [slotOf] at h243
                    simp [execOp, go_sem, h243, c0]
                  · exact fun a W hG _ hO _ => kM 16 rfl (hO.slot 16 (by kernel_rfl)) rfl hG
                  · exact fun a W hG _ hO _ => kM 20 rfl (hO.slot 20 (by kernel_rfl)) rfl hG
                  · intro a W hG hR hO hp
                    have h245 : slotOf a 245 = .slice (some ⟨mb, mo, none⟩) n d1 := hp.1
                    have h246 : slotOf a 246 = .int .i64 i := hp.2.1
                    refine kY (v := .pointer (some ⟨mb, mo + i * 4, none⟩)) hG rfl ?_
                    simp [slotOf] at h245 h246
                    simp [execOp, go_sem, h245, h246, hin]
                  · intro a W hG hR hO hp
                    have h247 : slotOf a 247 = .pointer (some ⟨mb, mo + i * 4, none⟩) := hp.1
                    refine kY (v := .pointer (some ⟨mb, mo + i * 4 + 2, none⟩)) hG rfl ?_
                    simp [slotOf] at h247
                    simp [execOp, go_sem, h247]
                  · intro a W hG hR hO hp
                    have h248 : slotOf a 248 = .pointer (some ⟨mb, mo + i * 4 + 2, none⟩) := hp.1
                    refine kY (v := .pointer (some ⟨mb, mo + i * 4 + 2 + 1, none⟩)) hG rfl ?_
                    simp [slotOf] at h248
                    simp [execOp, go_sem, h248]
                  · intro a W hG hR hO hp
                    have h249 : slotOf a 249 = .pointer (some ⟨mb, mo + i * 4 + 2 + 1, none⟩) := hp.1
                    have c0 := keep_cell q3 hG
                    refine kY (v := vi q.y.hi) hG rfl ?_
                    simp [slotOf] at h249
                    simp [execOp, go_sem, h249, c0]
                  · intro a W hG hR hO hp
                    have h244 : slotOf a 244 = vi p.y.hi := hp.1
                    have h250 : slotOf a 250 = vi q.y.hi := hp.2.1
                    refine kY (v := .bool false) hG rfl ?_
                    simp [slotOf] at h244 h250
                    simp [execOp, go_sem, h244, h250, c4x]
                · intro wz hG hR
                  rintro _ rfl _ rfl _ rfl _ rfl _ rfl _ rfl _ rfl _ rfl _ rfl _ rfl _ rfl _ rfl _ rfl _ rfl _ rfl _ rfl _ rfl _ rfl _ rfl _ rfl _ rfl _ rfl _ rfl _ rfl _ rfl _ rfl _ rfl _ rfl _ rfl _ rfl _ rfl _ rfl _ rfl _ rfl _ rfl _ rfl _ rfl _ rfl _ rfl _ rfl _ rfl _ rfl _ rfl _ rfl _ rfl _ rfl _ rfl _ rfl _ rfl _ rfl _ rfl _ rfl _ rfl _ rfl _ rfl _ rfl _ rfl
                  change wpList _ _ _ _ _ _
                  simp only [Act.put, List.setIfInBounds_toArray, List.set_cons_zero, List.set_cons_succ, List.drop_succ_cons, List.drop_zero]
                  have HNY := Lib.hid (newer_trans HNX.out hG)
                  clear hG hR p0 p1 p2 p3 q0 q1 q2 q3 c1x c2x c3x c4x
                  go_wp2_with fail
                  refine ⟨⟨i + 1, by omega, rfl, HNY.out⟩, ?_⟩
                  simp [intOf]
                  omega

end Go.Proofs.Ytpmafnifgegfbaa
