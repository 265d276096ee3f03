/- What the last text of this chain needs: O, Q, T, U, V, W, AA, AC, AD. -/
import Derived.Test.YtcdhhfgpdokkoaaGreatZH03
namespace Go.Proofs.YtcdhhfgpdokkoaaGreat
section
open Go.RowKit Go.Shelf Go.Deep
theorem info_bd : (Tryz.prog.info? 91).map (fun i => (i.zero, i.size, i.bytes)) = some (some (.agg #[vi 0, vi 0, vi 0, vi 0, vi 0, vi 0, vi 0, vi 0]), 8, 64) := by kernel_rfl
theorem info_col : (Tryz.prog.info? 92).map (fun i => (i.zero, i.size, i.bytes)) = some (some (.slice none 0 0), 1, 24) := by kernel_rfl
theorem own_setAt {w : World} {base g n c size off : Nat} {e : TypeId} {xs : List Value} {u : Value} (h : w.ownsRow base e size (.slice (some ⟨g, 0, none⟩) n c) n xs) : (w.setCell ⟨g, off, none⟩ u).ownsRow base e size (.slice (some ⟨g, 0, none⟩) n c) n (xs.set off u) := by
 rcases h.2 with ⟨h0, _⟩ | ⟨g2, cap, cur, hv, hb, hg, hnc, hcm, hcs, htk⟩
 ·cases h0
 ·injection hv with e1 _ e3
  injection e1 with e1
  injection e1 with e1
  subst e1
  refine ⟨by rw [List.length_set]; exact h.1, .inr ⟨g, cap, cur.setIfInBounds off u, by rw [e3], hb, Whole.set hg off u, hnc, hcm, by simpa using hcs, ?_⟩⟩
  rw [Array.toList_setIfInBounds, List.take_set, htk]
theorem own_cells {w : World} {base g n c size : Nat} {e : TypeId} {xs : List Value} (h : w.ownsRow base e size (.slice (some ⟨g, 0, none⟩) n c) n xs) : ∃ cs, Whole w g e cs := by
 rcases h.2 with ⟨h0, _⟩ | ⟨g2, cap, cur, hv, hb, hg, _⟩
 ·cases h0
 ·injection hv with e1 _ e3
  injection e1 with e1
  injection e1 with e1
  subst e1
  exact ⟨_, hg⟩
set_option maxRecDepth 100000 in
set_option maxHeartbeats 1000000 in
theorem cloneBd_any (l : List Bd) (A : Option Addr) (cp : Nat) (w : World) (hl : l.length <= 1000) (hr : Row bdL 8 w w.heap.size A l) (hn : l ≠ []) :
  Calls Tryz.prog 58 #[.slice A l.length cp] w fun e w' => ∃ g c, e = .returned (.slice (some ⟨g, 0, none⟩) l.length c) /\ w'.ownsRow w.heap.size 91 8 (.slice (some ⟨g, 0, none⟩) l.length c) l.length (l.flatMap bdL) /\ newer w w' := by
 have hnil : ∀ (W : World) (A : Option Addr) (n c : Nat), (binOp .eql 92 (.slice A n c) (.slice none 0 0)).run Tryz.prog W = .ok (.bool A.isNone) W := fun W A n c => by
  simp only [binOp]
  simp [run_equal_slice_nil W 92 91 A n c Tryz.underlying92]
 have hpos : 0 < l.length := List.length_pos_iff.2 hn
 obtain ⟨b, off, rfl, hb, hc⟩ := hr hn
 have e1 := newer_allocH w (.cells #[] 91)
 have HROW := Lib.hid ((hr.below e1).more e1.size)
 have HB := Lib.hid e1
 obtain ⟨i0, hi0, hz0, hz1, hz2⟩ := info_parts info_bd
 have HI := Lib.hid (And.intro hi0 (And.intro hz0 (And.intro hz1 hz2)))
 have HP := Lib.hid hpos
 clear hi0 hz0 hz1 hz2 hn hc hb hr e1 hpos
 go_enter Tryz.func58, Tryz.ntmps58
 go_wp2_with (at_builtin; go_loud ((refine wpList_plain rfl fun _ hK => wp_append_new (.tmp 5) (.tmp 6) 92 rfl 91 i0 (.agg #[vi 0, vi 0, vi 0, vi 0, vi 0, vi 0, vi 0, vi 0]) 8 64 Tryz.underlying92 HI.out.1 HI.out.2.1 HI.out.2.2.1 HI.out.2.2.2 rfl (by omega) ⟨w.heap.size, 0, none⟩ rfl ⟨b, off, none⟩ l.length cp (l.flatMap bdL) rfl (by rw [flat_len (enc := bdL) (s := 8) (fun _ => rfl)]) (row_news (enc := bdL) (s := 8) (by omega) (fun _ => rfl) HROW.out) HP.out (by unfold maxLen; omega) (by omega) fun gg cp' w' hown hbl => hK _ _ ?_); have HE := Lib.hid (And.intro (own_more hown (by simp) : w'.ownsRow w.heap.size 91 8 (.slice (some ⟨gg, 0, none⟩) l.length cp') l.length (l.flatMap bdL)) (HB.out.trans (hbl.mono (by simp)))); clear hown hbl))
 go_ret
 exact ⟨_, _, rfl, HE.out.1, HE.out.2⟩
def wetTo (m : Int) (bs : List Bd) (k : Nat) : List Bd := (bs.take k).map (wetBd m) ++ bs.drop k
theorem wetTo_zero (m : Int) (bs : List Bd) : wetTo m bs 0 = bs := by simp [wetTo]
theorem wetTo_all (m : Int) (bs : List Bd) : wetTo m bs bs.length = bs.map (wetBd m) := by simp [wetTo]
theorem wetTo_get {m : Int} {bs : List Bd} {k : Nat} {b : Bd} (h : bs[k]? = some b) : (wetTo m bs k)[k]? = some b := by
 have hk := (List.getElem?_eq_some_iff.1 h).1
 unfold wetTo
 rw [List.getElem?_append_right (by simp; omega), List.length_map, List.length_take, Nat.min_eq_left (by omega), Nat.sub_self, List.getElem?_drop]
 exact h
theorem wetTo_set {m : Int} {bs : List Bd} {k : Nat} {b : Bd} (h : bs[k]? = some b) : (wetTo m bs k).set k (wetBd m b) = wetTo m bs (k + 1) := by
 have hk := (List.getElem?_eq_some_iff.1 h).1
 unfold wetTo
 rw [List.set_append_right _ _ (by simp; omega), List.length_map, List.length_take, Nat.min_eq_left (by omega), Nat.sub_self, List.drop_eq_getElem_cons hk, List.set_cons_zero, List.take_add_one, h]
 simp
theorem flat_set7 : ∀ (l : List Bd) (k : Nat) (b : Bd) (v : Int), l[k]? = some b -> (l.flatMap bdL).set (k * 8 + 7) (vi v) = (l.set k { b with wa := ⟨b.wa.lo, v⟩ }).flatMap bdL
 | [], k, b, v, h => by simp at h
 | x :: l, 0, b, v, h => by
  have e : x = b := by simpa using h
  subst e
  simp [List.flatMap_cons, bdL]
 | x :: l, k + 1, b, v, h => by
  have ih := flat_set7 l k b v (by simpa using h)
  rw [List.flatMap_cons, List.set_cons_succ, List.flatMap_cons, <- ih, List.set_append_right _ _ (by simp; omega)]
  congr 2
  simp
  omega
structure WtJ (s : Sm) (m : Int) (i : Nat) (xs : List Cl) (A : Option Addr) (c : Nat) (w W : World) : Prop where
 nw : newer w W
 xb : Whole W w.heap.size 48 (smC s)
 rb : Whole W (w.heap.size + 1) 48 #[.slice none 0 0, vi 0]
 ob : Whole W (w.heap.size + 1 + 1) 48 #[.slice A xs.length c, vi s.least]
 own : W.ownsRow w.heap.size 92 1 (.slice A xs.length c) xs.length (xs.flatMap clL)
 col : ∀ x ∈ xs, ∃ g, x.a = some ⟨g, 0, none⟩ /\ W.ownsRow w.heap.size 91 8 (.slice (some ⟨g, 0, none⟩) x.beds.length x.cp) x.beds.length (x.beds.flatMap bdL)
 eq : xs.map (fun x => x.beds) = (s.cs.take i).map fun x => x.beds.map (wetBd m)
 ln : xs.length = i
section
variable {s : Sm} {m : Int} {i : Nat} {xs : List Cl} {A : Option Addr} {c : Nat} {w W W' : World}
theorem WtJ.next (h : WtJ s m i xs A c w W) (hb : newer W W') : WtJ s m i xs A c w W' :=
 ⟨newer_trans h.nw hb, h.xb.below hb h.xb.lt, h.rb.below hb h.rb.lt, h.ob.below hb h.ob.lt, own_below h.own hb, fun x hx => by
  obtain ⟨g, h1, h2⟩ := h.col x hx
  exact ⟨g, h1, own_below h2 hb⟩, h.eq, h.ln⟩
theorem WtJ.add (h : WtJ s m i xs A c w W) {x y : Cl} (hx : s.cs[i]? = some x) {g cp : Nat} (hy : y = ⟨x.beds.map (wetBd m), some ⟨g, 0, none⟩, cp⟩) (hc : W.ownsRow w.heap.size 91 8 (.slice (some ⟨g, 0, none⟩) y.beds.length cp) y.beds.length (y.beds.flatMap bdL))
  {g2 c2 : Nat} (hown : W'.ownsRow w.heap.size 92 1 (.slice (some ⟨g2, 0, none⟩) (xs.length + 1) c2) (xs.length + 1) (xs.flatMap clL ++ [clV y])) (hw : (A = some ⟨g2, 0, none⟩ /\ c2 = c /\ W.grownBy W' (some g2)) ∨ (W.heap.size <= g2 /\ W.grownBy W' none)) :
  Whole W' (w.heap.size + 1 + 1) 48 #[.slice A xs.length c, vi s.least] /\ WtJ s m (i + 1) (xs ++ [y]) (some ⟨g2, 0, none⟩) c2 w (W'.setCell ⟨w.heap.size + 1 + 1, 0, none⟩ (.slice (some ⟨g2, 0, none⟩) (xs.length + 1) c2)) := by
 have hgr : W.grownBy W' (Value.slice A xs.length c).ownBlock := by
  rcases hw with ⟨h1, _, h3⟩ | ⟨_, h3⟩
  ·rw [h1]; exact h3
  ·exact h3.but _
 have k1 := h.xb.grown hgr (fun e => own_ne h.own h.xb (by decide) e.symm)
 have k2 := h.rb.grown hgr (fun e => own_ne h.own h.rb (by decide) e.symm)
 have k3 := h.ob.grown hgr (fun e => own_ne h.own h.ob (by decide) e.symm)
 have k4 : ∀ (x : Cl) (g : Nat), W.ownsRow w.heap.size 91 8 (.slice (some ⟨g, 0, none⟩) x.beds.length x.cp) x.beds.length (x.beds.flatMap bdL) -> W'.ownsRow w.heap.size 91 8 (.slice (some ⟨g, 0, none⟩) x.beds.length x.cp) x.beds.length (x.beds.flatMap bdL) := fun x g h2 => h2.kept hgr (.inr (fun e => own_own_ne h2 h.own (by decide) g rfl (e ▸ rfl)))
 have hnw : newer w W' := by
  rcases hw with ⟨h1, _, h3⟩ | ⟨_, h3⟩
  ·refine Below.trans h.nw (below_of_grown h3 (own_ge h.own g2 (by rw [h1]; rfl)) h.nw.size)
  ·exact newer_trans h.nw (below_grown h3 (fun q e => by cases e) (Nat.le_refl _))
 have hlt := k3.lt
 refine ⟨k3, hnw.setCell (p := ⟨w.heap.size + 1 + 1, 0, none⟩) (by show w.heap.size <= w.heap.size + 1 + 1; omega) _, k1.far (p := ⟨w.heap.size + 1 + 1, 0, none⟩) (by show w.heap.size ≠ w.heap.size + 1 + 1; omega) _, k2.far (p := ⟨w.heap.size + 1 + 1, 0, none⟩) (by show w.heap.size + 1 ≠ w.heap.size + 1 + 1; omega) _, ?_, ?_, fun z hz => ?_, ?_, by rw [List.length_append, h.ln]; rfl⟩
 ·rw [List.length_append]
  exact k3.set 0 _
 ·rw [List.length_append, List.flatMap_append]
  exact own_set hown (own_ne hown k3 (by decide)) _
 ·rcases List.mem_append.1 hz with hz | hz
  ·obtain ⟨g', h1, h2⟩ := h.col z hz
   have h3 := k4 z g' h2
   exact ⟨g', h1, own_set h3 (own_ne h3 k3 (by decide)) _⟩
  ·obtain rfl : z = y := List.mem_singleton.1 hz
   have h3 := k4 z g (by rw [hy] at hc ⊢; exact hc)
   exact ⟨g, by rw [hy], own_set h3 (own_ne h3 k3 (by decide)) _⟩
 ·rw [List.map_append, h.eq, List.take_add_one, hx, List.map_append]
  congr 1
  rw [hy]
  rfl
theorem WtJ.done (h : WtJ s m s.cs.length xs A c w W) (u v : Value) : SmOk ⟨xs, A, c, s.least⟩ ((W.setCell ⟨w.heap.size + 1, 0, none⟩ u).setCell ⟨w.heap.size + 1, 1, none⟩ v) /\ Sm.sd ⟨xs, A, c, s.least⟩ = wetS s.sd m /\ newer w ((W.setCell ⟨w.heap.size + 1, 0, none⟩ u).setCell ⟨w.heap.size + 1, 1, none⟩ v) /\ Whole ((W.setCell ⟨w.heap.size + 1, 0, none⟩ u).setCell ⟨w.heap.size + 1, 1, none⟩ v) (w.heap.size + 1) 48 #[u, v] := by
 refine ⟨⟨?_, fun x hx => ?_⟩, ?_, (h.nw.setCell (p := ⟨w.heap.size + 1, 0, none⟩) (Nat.le_succ _) u).setCell (p := ⟨w.heap.size + 1, 1, none⟩) (Nat.le_succ _) v, (h.rb.set 0 u).set 1 v⟩
 ·exact row_of_own (by omega) (fun _ => rfl) (own_set (own_set h.own (own_ne h.own h.rb (by decide)) u) (own_ne h.own h.rb (by decide)) v)
 ·obtain ⟨g, h1, h2⟩ := h.col x hx
  rw [h1]
  exact row_of_own (by omega) (fun _ => rfl) (own_set (own_set h2 (own_ne h2 h.rb (by decide)) u) (own_ne h2 h.rb (by decide)) v)
 ·have e := h.eq
  rw [List.take_length] at e
  show (⟨xs.map (fun x => x.beds), s.least⟩ : Sd) = ⟨(s.cs.map fun x => x.beds).map fun l => l.map (wetBd m), s.least⟩
  rw [e, List.map_map]
  rfl
end
set_option maxRecDepth 100000 in
set_option maxHeartbeats 1000000 in
theorem wetter_any (s : Sm) (m : Int) (w : World) (hok : SmOk s w) (hs : SdOk s.sd) (m0 : 0 <= m) (m1 : m <= 100000) : Calls Tryz.prog 31 #[smV s, vi m] w fun e w' => ∃ s2 : Sm, e = .returned (smV s2) /\ s2.sd = wetS s.sd m /\ SmOk s2 w' /\ newer w w' := by
 have hcl : s.cs.length <= 12 := by have h1 := hs.cols; rw [sd_len] at h1; omega
 have H0 : Hid (WtJ s m 0 [] none 0 w (((w.alloc (.cells (smC s) 48)).alloc (.cells #[.slice none 0 0, vi 0] 48)).alloc (.cells #[.slice none 0 0, vi s.least] 48))) := Lib.hid (by
  have e1 := newer_allocH w (.cells (smC s) 48)
  have e2 := newer_allocH (w.alloc (.cells (smC s) 48)) (.cells #[.slice none 0 0, vi 0] 48)
  have e3 := newer_allocH ((w.alloc (.cells (smC s) 48)).alloc (.cells #[.slice none 0 0, vi 0] 48)) (.cells #[.slice none 0 0, vi s.least] 48)
  have a1 := Whole.made w 48 (smC s)
  have a2 := Whole.made (w.alloc (.cells (smC s) 48)) 48 #[.slice none 0 0, vi 0]
  have a3 := Whole.made ((w.alloc (.cells (smC s) 48)).alloc (.cells #[.slice none 0 0, vi 0] 48)) 48 #[.slice none 0 0, vi s.least]
  rw [World.size_alloc] at a2
  rw [World.size_alloc, World.size_alloc] at a3
  exact ⟨newer_trans (newer_trans e1 e2) e3, (a1.below e2 a1.lt).below e3 (by simp; omega), a2.below e3 a2.lt, a3, ⟨rfl, .inl ⟨rfl, rfl⟩⟩, fun x hx => by simp at hx, rfl, rfl⟩)
 have HOK := Lib.hid hok
 have HSD := Lib.hid hs
 obtain ⟨i0, hi0, hz0, hz1, hz2⟩ := info_parts info_col
 have HI := Lib.hid (And.intro hi0 (And.intro hz0 (And.intro hz1 hz2)))
 have x0 := H0.out.xb.at 0 (v := .slice s.a s.cs.length s.c) rfl
 have x1 := H0.out.xb.at 1 (v := vi s.least) rfl
 obtain ⟨y0, hy0⟩ := get_of_lt (l := s.cs) (k := 0) (by have h1 := hs.cols; rw [sd_len] at h1; omega)
 obtain ⟨b1, o1, ea, _, _⟩ := rowC hok.cs hy0
 have HSA := Lib.hid ea
 rw [ea] at x0
 clear hok hs hi0 hz0 hz1 hz2 ea hy0
 go_enter Tryz.func31, Tryz.ntmps31
 go_wp2_with fail
 go_loopw [15] (fun s15 wr => ∃ (i : Nat) (xs : List Cl) (A : Option Addr) (c : Nat), i <= s.cs.length /\ s15 = vi i /\ WtJ s m i xs A c w wr) (fun s15 _ => s.cs.length - (intOf s15).toNat)
 case atStart => exact ⟨0, [], none, 0, Nat.zero_le _, rfl, H0.out⟩
 case round =>
  obtain ⟨i, xs, A, c, hi, rfl, hj⟩ := hrel
  clear x0 x1 H0
  have HJ := Lib.hid hj
  clear hj
  obtain ⟨wo, rfl⟩ : ∃ wo : World, wo = wr := ⟨_, rfl⟩
  by_cases hlt : i < s.cs.length
  ·obtain ⟨x, hx⟩ := get_of_lt hlt
   have hxm : x.beds ∈ s.sd.cols := List.mem_map.2 ⟨x, List.mem_of_getElem? hx, rfl⟩
   have hxl : x.beds.length = s.sd.n := HSD.out.len _ hxm
   have hxn : x.beds.length <= 5 /\ 1 <= x.beds.length := by have h1 := HSD.out.beds; omega
   have HX := Lib.hid (And.intro hx (HSD.out.bd _ hxm))
   obtain ⟨b2, o2, ea, _, cx⟩ := rowC (HOK.out.next HJ.out.nw).cs hx
   rw [HSA.out] at ea
   obtain ⟨rfl, rfl⟩ : b1 = b2 /\ o1 = o2 := by simpa using ea
   have HCL := Lib.hid (cloneBd_any x.beds x.a x.cp wo (by omega) ((HOK.out.next HJ.out.nw).bd x (List.mem_of_getElem? hx)) (by intro e; rw [e] at hxn; simp at hxn))
   clear hx hxm hxl ea
   go_wp2_with fail
   refine (HCL.out).mono ?_
   rintro e w3 ⟨g, cp, rfl, hown, hb3⟩
   have H3 := Lib.hid (And.intro hown hb3)
   have hgs : wo.heap.size <= g := own_ge hown g rfl
   have HGS := Lib.hid hgs
   clear HCL hown hb3 hgs cx
   go_wp2_with fail
   go_loopw [23] (fun s23 wr => ∃ k : Nat, k <= x.beds.length /\ s23 = vi k /\ newer wo wr /\ wr.ownsRow wo.heap.size 91 8 (.slice (some ⟨g, 0, none⟩) x.beds.length cp) x.beds.length ((wetTo m x.beds k).flatMap bdL)) (fun s23 _ => x.beds.length - (intOf s23).toNat)
   case atStart => exact ⟨0, Nat.zero_le _, rfl, H3.out.2, by rw [wetTo_zero]; exact H3.out.1⟩
   case round =>
    obtain ⟨k, hk, rfl, q1, q2⟩ := hrel
    clear H3
    by_cases hlt2 : k < x.beds.length
    ·obtain ⟨bd, hbd⟩ := get_of_lt hlt2
     obtain ⟨b2, o2, e2, _, d0, d1, d2, d3, d4, d5, d6, d7⟩ := row8 (row_of_own (enc := bdL) (size := 8) (by omega) (fun _ => rfl) q2) (wetTo_get hbd)
     obtain ⟨rfl, rfl⟩ : g = b2 /\ 0 = o2 := by simpa using e2
     simp only [Nat.zero_add] at d7
     obtain ⟨cs, hcs⟩ := own_cells q2
     have f7 := hcs.free (k * 8 + 7)
     have hbb := (bdB_parts (HX.out.2 bd (List.mem_of_getElem? hbd))).2.2.2.2
     have HQ := Lib.hid (And.intro q1 (And.intro q2 hbd))
     obtain ⟨wi, rfl⟩ : ∃ wi : World, wi = wr := ⟨_, rfl⟩
     clear q1 q2 e2 hcs d0 d1 d2 d3 d4 d5 d6 hbd
     have HN : ∀ v : Int, v = mnI 100000 (bd.wa.hi + m) -> Hid (newer wo (wi.setCell ⟨g, k * 8 + 7, none⟩ (vi v)) /\ (wi.setCell ⟨g, k * 8 + 7, none⟩ (vi v)).ownsRow wo.heap.size 91 8 (.slice (some ⟨g, 0, none⟩) x.beds.length cp) x.beds.length ((wetTo m x.beds (k + 1)).flatMap bdL)) := by
      intro v hv
      have h1 := wetTo_get (m := m) HQ.out.2.2
      refine Lib.hid ⟨HQ.out.1.setCell (p := ⟨g, k * 8 + 7, none⟩) HGS.out _, ?_⟩
      rw [<- wetTo_set HQ.out.2.2, show wetBd m bd = { bd with wa := ⟨bd.wa.lo, v⟩ } by rw [hv]; rfl, <- flat_set7 _ _ _ _ h1]
      exact own_setAt HQ.out.2.1
     by_cases hmn : bd.wa.hi + m < 100000
     ·have HE := HN (bd.wa.hi + m) (by unfold mnI; rw [if_pos hmn])
      clear HN
      go_wp2_with fail
      refine ⟨⟨k + 1, by omega, rfl, HE.out.1, HE.out.2⟩, ?_⟩
      simp [intOf]
      omega
     ·have HE := HN 100000 (by unfold mnI; rw [if_neg hmn])
      clear HN
      go_wp2_with fail
      refine ⟨⟨k + 1, by omega, rfl, HE.out.1, HE.out.2⟩, ?_⟩
      simp [intOf]
      omega
    ·obtain rfl : k = x.beds.length := by omega
     rw [wetTo_all] at q2
     obtain ⟨y, hy⟩ : ∃ y : Cl, y = ⟨x.beds.map (wetBd m), some ⟨g, 0, none⟩, cp⟩ := ⟨_, rfl⟩
     have HJ2 := Lib.hid (HJ.out.next q1)
     have hyl : y.beds.length = x.beds.length := by rw [hy]; simp
     have hyb : y.beds = x.beds.map (wetBd m) := by rw [hy]
     have hn1 := newer_allocH wr (.cells #[.slice (some ⟨g, 0, none⟩) x.beds.length cp] 92)
     have HADD := Lib.hid (fun g2 c2 w5 => (HJ2.out.next hn1).add (W' := w5) HX.out.1 hy (by rw [hyl, hyb]; exact own_more (own_below q2 hn1) HJ.out.nw.size) (g2 := g2) (c2 := c2))
     have hcy : clV y = .slice (some ⟨g, 0, none⟩) x.beds.length cp := by rw [hy]; simp
     have HJ3 := Lib.hid (HJ2.out.next hn1)
     have HXS := Lib.hid (show xs.length <= 12 by have := HJ.out.ln; omega)
     have HCW : Hid ((wr.alloc (.cells #[.slice (some ⟨g, 0, none⟩) x.beds.length cp] 92)).cell? ⟨wr.heap.size, 0, none⟩ = some (.slice (some ⟨g, 0, none⟩) x.beds.length cp)) := Lib.hid ((Whole.made wr 92 #[.slice (some ⟨g, 0, none⟩) x.beds.length cp]).at 0 rfl)
     rw [hcy] at HADD
     have o0 := HJ2.out.ob.at 0 (v := .slice A xs.length c) rfl
     clear q1 q2 hyl hyb hn1 hcy hy
     go_wp2_with (at_builtin; go_loud ((refine wpList_plain rfl fun _ hK => wp_append_one (.tmp 42) (.tmp 44) 46 rfl w.heap.size 92 i0 (.slice none 0 0) 24 Tryz.underlying46 HI.out.1 HI.out.2.1 HI.out.2.2.1 HI.out.2.2.2 rfl A xs.length c (xs.flatMap clL) rfl HJ3.out.own ⟨wr.heap.size, 0, none⟩ 1 (.slice (some ⟨g, 0, none⟩) x.beds.length cp) rfl HCW.out rfl (by have := HXS.out; unfold maxLen; omega) (by have := HXS.out; omega) HJ3.out.nw.size fun g2 c2 w5 hown hwh => hK _ _ ?_); have HE := Lib.hid (HADD.out g2 c2 w5 hown hwh); have p0 := HE.out.1.at 0 (v := .slice A xs.length c) rfl; have pf0 := HE.out.1.free 0; clear hown hwh))
     refine ⟨⟨i + 1, xs ++ [y], some ⟨g2, 0, none⟩, c2, by omega, rfl, HE.out.2⟩, ?_⟩
     simp [intOf]
     omega
  ·obtain rfl : i = s.cs.length := by omega
   have o0 := HJ.out.ob.at 0 (v := .slice A xs.length c) rfl
   have o1 := HJ.out.ob.at 1 (v := vi s.least) rfl
   have r0 := HJ.out.rb.at 0 (v := .slice none 0 0) rfl
   have r1 := HJ.out.rb.at 1 (v := vi 0) rfl
   have f0 := HJ.out.rb.free 0
   have f1 := HJ.out.rb.free 1
   have HF := Lib.hid (HJ.out.done (.slice A xs.length c) (vi s.least))
   have z0 := HF.out.2.2.2.at 0 (v := .slice A xs.length c) rfl
   have z1 := HF.out.2.2.2.at 1 (v := vi s.least) rfl
   go_wp2_with fail
   exact bodyPost_ret (v := .agg #[.slice A xs.length c, vi s.least]) (by simp [results, Tryz.results31, go_sem, z0, z1]) rfl ⟨⟨xs, A, c, s.least⟩, rfl, HF.out.2.1, HF.out.1, HF.out.2.2.1⟩
end

section
open Go.RowKit Go.Shelf Go.Deep
theorem lowW_is (s : Sd) (m f : Int) : lowT (wetS s m) f (some false) = lowF (hAt false (wetS s m)) (dAt s) s.n s.cols.length s.K f := by
 unfold lowT
 rw [wet_drive, wet_n]
 have e1 : (wetS s m).cols.length = s.cols.length := by simp [wetS]
 rw [e1]
 rfl
def marginS (s : Sd) (f : Int) : Nat := marginN (fun m => hAt false (wetS s m)) (dAt s) s.n s.cols.length s.K f
theorem wet_hd {s : Sd} (h : SdOk s) (m : Nat) : HdOk (hAt false (wetS s m)) (dAt s) s.n s.cols.length s.K := by
 have h1 := hd_ok (wet_ok (m := m) (by omega) h) false
 rw [wet_drive, wet_n] at h1
 have e1 : (wetS s m).cols.length = s.cols.length := by simp [wetS]
 rw [e1] at h1
 exact h1
theorem margin_of {s : Sd} (h : SdOk s) {f : Int} (f0 : 0 <= f) (f1 : f <= 10001) {m : Nat} (h1 : m <= 100000) (h2 : lowT (wetS s m) f (some false) = none) (h3 : m < 100000 -> (lowT (wetS s (m + 1 : Nat)) f (some false)).isSome = true) : m = marginS s f := by
 rw [lowW_is] at h2
 refine margin_unique (hw := fun m => hAt false (wetS s m)) (wet_hd h) (fun m k b => wet_hold h (by omega) k b) f0 f1 h1 h2 (fun h4 => ?_)
 have h5 := h3 h4
 rw [lowW_is] at h5
 exact h5
def marginOut (s : Sd) (f : Int) : Value := .tuple (if enoughN s f = 0 then #[vi (marginS s f), vi 0] else #[vi 0, vi (enoughN s f)])
theorem enough_zero {s : Sd} {f : Int} (h : enoughN s f = 0) : SdOk s /\ 0 <= f /\ f <= 10000 /\ lowT s f (some false) = none := by
 unfold enoughN at h
 by_cases ha : askedN s f = 0
 ·rw [if_pos ha] at h
  obtain ⟨h1, h2, h3⟩ := asked_zero ha
  refine ⟨h1, h2, h3, ?_⟩
  cases hl : lowT s f (some false) with
  | none => rfl
  | some u => rw [hl] at h; simp at h
 ·rw [if_neg ha] at h
  exact absurd h ha
set_option maxRecDepth 100000 in
set_option maxHeartbeats 1000000 in
theorem margin_any (s : Sm) (f : Int) (w : World) (hok : SmOk s w) (few : SmFew s) : Calls Tryz.prog 10 #[smV s, vi f] w fun e w' => e = .returned (marginOut s.sd f) /\ newer w w' := by
 have hnw : newer w (w.alloc (.cells (smC s) 48)) := newer_allocH _ _
 have hxb := Whole.made w 48 (smC s)
 have HA := Lib.hid (enough_any s f (w.alloc (.cells (smC s) 48)) (hok.next hnw) few)
 have x0 := hxb.at 0 (v := .slice s.a s.cs.length s.c) rfl
 have x1 := hxb.at 1 (v := vi s.least) rfl
 have H0 := Lib.hid (And.intro hnw hxb)
 have HOK := Lib.hid hok
 clear hok hnw hxb few
 unfold marginOut
 have HZ : Hid (enoughN s.sd f = 0 -> SdOk s.sd /\ 0 <= f /\ f <= 10000 /\ lowT s.sd f (some false) = none) := Lib.hid enough_zero
 obtain ⟨a, ha⟩ : ∃ a, a = enoughN s.sd f := ⟨_, rfl⟩
 rw [<- ha] at HA HZ ⊢
 clear ha
 by_cases hz : a = 0
 ·subst hz
  obtain ⟨hs, f0, f1, hl0⟩ := HZ.out rfl
  rw [if_pos rfl]
  obtain ⟨mg, hmg⟩ : ∃ mg, mg = marginS s.sd f := ⟨_, rfl⟩
  have HMG := Lib.hid hmg
  rw [<- hmg]
  clear hmg
  obtain ⟨P, hP⟩ : ∃ P : Nat -> Option (Nat × List Nat), P = fun m : Nat => lowT (wetS s.sd m) f (some false) := ⟨_, rfl⟩
  have HP0 : Hid (P 0 = none) := Lib.hid (by rw [hP]; show lowT (wetS s.sd 0) f (some false) = none; rw [wet_zero hs]; exact hl0)
  have HWT : Hid (∀ (m : Nat) W, newer w W -> m <= 100000 -> Calls Tryz.prog 31 #[smV s, vi m] W fun e w' => ∃ s2 : Sm, e = .returned (smV s2) /\ (∀ W2, newer w' W2 -> Calls Tryz.prog 32 #[lkV s2 f (some false)] W2 fun e w3 => lowOut (P m) W2 e w3 /\ newer W2 w3) /\ newer W w') := Lib.hid (by
   intro m W h1 h2
   refine (wetter_any s m W (HOK.out.next h1) hs (by omega) (by omega)).mono ?_
   rintro e w' ⟨s2, h3, h4, h5, h6⟩
   refine ⟨s2, h3, fun W2 h7 => ?_, h6⟩
   rw [hP]
   have h8 := lower_any s2 f (some false) W2 (h5.next h7) (by rw [h4]; exact wet_ok (by omega) hs) f0 (by omega)
   rw [h4] at h8
   exact h8)
  have HMO : Hid (∀ m : Nat, m <= 100000 -> P m = none -> (m < 100000 -> (P (m + 1)).isSome = true) -> m = marginS s.sd f) := Lib.hid (by
   intro m h1 h2 h3
   rw [hP] at h2 h3
   exact margin_of hs f0 (by omega) h1 h2 h3)
  clear hP HZ hl0
  go_enter Tryz.func10, Tryz.ntmps10
  go_wp2_with fail
  refine (HA.out).mono ?_
  rintro e w1 ⟨rfl, hb⟩
  have H1 := Lib.hid (And.intro (newer_trans H0.out.1 hb) (H0.out.2.below hb H0.out.2.lt))
  clear H0 hb HA x0 x1
  go_wp2_with fail
  go_loopw [7, 8] (fun s7 s8 wr => ∃ lo hi : Nat, s7 = vi lo /\ s8 = vi hi /\ lo <= hi /\ hi <= 100000 /\ newer w wr /\ Whole wr w.heap.size 48 (smC s) /\ P lo = none /\ (hi < 100000 -> (P (hi + 1)).isSome = true)) (fun s7 s8 _ => (intOf s8).toNat - (intOf s7).toNat)
  case atStart => exact ⟨0, 100000, rfl, rfl, Nat.zero_le _, Nat.le_refl _, H1.out.1, H1.out.2, HP0.out, fun h => by omega⟩
  case round =>
   obtain ⟨lo, hi, rfl, rfl, b2, b3, q1, q2, q4, q5⟩ := hrel
   have x0 := q2.at 0 (v := .slice s.a s.cs.length s.c) rfl
   have x1 := q2.at 1 (v := vi s.least) rfl
   have H2 := Lib.hid (And.intro q1 q2)
   have HQ := Lib.hid (And.intro q4 q5)
   clear q1 q2 q4 q5 H1
   by_cases hlt : lo < hi
   ·obtain ⟨n, hn⟩ : ∃ n, n = (lo + hi + 1) / 2 := ⟨_, rfl⟩
    have hnb : lo < n /\ n <= hi := by omega
    have hni : ((lo : Int) + hi + 1) / 2 = n := by omega
    clear hn
    go_wp2_with fail
    refine (HWT.out n _ H2.out.1 (by omega)).mono ?_
    rintro e w3 ⟨s2, rfl, hlw, hb3⟩
    have HLW := Lib.hid hlw
    have H3 := Lib.hid (And.intro (newer_trans H2.out.1 hb3) (H2.out.2.below hb3 H2.out.2.lt))
    clear H2 hb3 x0 x1 hlw
    go_wp2_with fail
    refine (below_any s2 f _).mono ?_
    rintro e w4 ⟨rfl, hb4⟩
    have H4 := Lib.hid (And.intro (newer_trans H3.out.1 hb4) (H3.out.2.below hb4 H3.out.2.lt))
    have HLW2 := Lib.hid (HLW.out w4 hb4)
    clear H3 hb4 HLW
    go_wp2_with fail
    refine (HLW2.out).mono ?_
    rintro e w5 ⟨hout, hb5⟩
    have H5 := Lib.hid (And.intro (newer_trans H4.out.1 hb5) (H4.out.2.below hb5 H4.out.2.lt))
    clear H4 hb5 HLW2
    cases hpn : P n with
    | none =>
     rw [hpn] at hout
     have hout2 : e = .returned (.tuple #[.agg #[vi 0, .slice none 0 0], .bool false]) := hout
     subst hout2
     have HPN := Lib.hid hpn
     clear hpn hout
     have e1 := newer_allocH w5 (.cells #[vi 0, .slice none 0 0] 72)
     have H6 := Lib.hid (And.intro (newer_trans H5.out.1 e1) (H5.out.2.below e1 H5.out.2.lt))
     clear e1
     go_wp2_with fail
     refine ⟨⟨n, hi, rfl, rfl, hnb.2, b3, H6.out.1, H6.out.2, HPN.out, HQ.out.2⟩, ?_⟩
     simp [intOf]
     omega
    | some u =>
     obtain ⟨k, l⟩ := u
     rw [hpn] at hout
     have hout2 : ∃ A c, e = .returned (.tuple #[.agg #[vi k, .slice A l.length c], .bool true]) /\ w5.ownsRow w4.heap.size 3 1 (.slice A l.length c) l.length (l.map fun x : Nat => vi x) := hout
     obtain ⟨A, c, rfl, _⟩ := hout2
     have HPN := Lib.hid hpn
     clear hpn hout
     have e1 := newer_allocH w5 (.cells #[vi k, .slice A l.length c] 72)
     have H6 := Lib.hid (And.intro (newer_trans H5.out.1 e1) (H5.out.2.below e1 H5.out.2.lt))
     clear e1
     go_wp2_with fail
     refine ⟨⟨lo, n - 1, rfl, by rw [show (n : Int) - 1 = ((n - 1 : Nat) : Int) by omega], by omega, by omega, H6.out.1, H6.out.2, HQ.out.1, fun _ => by rw [show n - 1 + 1 = n by omega, HPN.out]; rfl⟩, ?_⟩
     simp [intOf]
     omega
   ·obtain rfl : hi = lo := by omega
    obtain rfl : hi = mg := (HMO.out hi b3 HQ.out.1 HQ.out.2).trans HMG.out.symm
    go_wp2_with fail
    exact bodyPost_ret (v := .tuple #[vi hi, vi 0]) (by simp [results, Tryz.results10, go_sem]) rfl ⟨rfl, H2.out.1⟩
 ·rw [if_neg hz]
  have hz2 : (a == 0) = false := by rw [beq_eq_false_iff_ne]; exact hz
  have hz3 : (a != 0) = true := by simp [hz]
  clear HZ
  go_enter Tryz.func10, Tryz.ntmps10
  go_wp2_with fail
  refine (HA.out).mono ?_
  rintro e w1 ⟨rfl, hb⟩
  have HE := Lib.hid (newer_trans H0.out.1 hb)
  clear H0 hb HA x0 x1
  go_wp2_with fail
  exact bodyPost_ret (v := .tuple #[vi 0, vi a]) (by simp [results, Tryz.results10, go_sem]) rfl ⟨rfl, HE.out⟩
end

section
open Go.RowKit Go.Shelf Go.Deep
structure Su where
 frm : Int
 beds : List Int
 a : Option Addr
 c : Nat
abbrev suC (u : Su) : Array Value := #[vi u.frm, .slice u.a u.beds.length u.c]
abbrev suV (u : Su) : Value := .agg (suC u)
def SuOk (u : Su) (W : World) : Prop := Row intL 1 W W.heap.size u.a u.beds
theorem SuOk.next {u : Su} {W W' : World} (h : SuOk u W) (hb : newer W W') : SuOk u W' := (Row.below h hb).more hb.size
def okB (n : Nat) (l : List Int) (i : Nat) : Bool := inB (iAt l i) 0 ((n : Int) - 1) && (decide (i = 0) || inB (iAt l i - iAt l (i - 1)) (-1) 1)
def surfB (s : Sd) (frm : Int) (l : List Int) : Bool := decide (0 <= frm) && decide (s.least <= l.length) && decide (frm <= s.cols.length - l.length) && goodB l.length (okB s.n l)
theorem row1k {w : World} {B : Nat} {A : Option Addr} {l : List Int} (h : Row intL 1 w B A l) {k : Nat} (hk : k < l.length) : ∃ b off, A = some ⟨b, off, none⟩ /\ w.cell? ⟨b, off + k, none⟩ = some (vi (iAt l k)) := by
 obtain ⟨c, hc⟩ := get_of_lt hk
 obtain ⟨b, off, e, _, h2⟩ := h (ne_nil_of_get hc)
 have h3 := h2 k c hc 0 (vi c) rfl
 have e2 : iAt l k = c := by simp [iAt, hc]
 exact ⟨b, off, e, by rw [e2]; simpa using h3⟩
set_option maxRecDepth 100000 in
set_option maxHeartbeats 1000000 in
theorem surface_any (s : Sm) (u : Su) (w : World) (hok : SmOk s w) (hu : SuOk u w) (hs : SdOk s.sd) (hul : u.beds.length <= 1000) : Calls Tryz.prog 72 #[smV s, suV u] w fun e w' => e = .returned (.bool (surfB s.sd u.frm u.beds)) /\ newer w w' := by
 have hcl : s.cs.length <= 12 /\ 1 <= s.cs.length := by have h1 := hs.cols; rw [sd_len] at h1; omega
 have hnw : newer w ((w.alloc (.cells (smC s) 48)).alloc (.cells (suC u) 72)) := newer_trans (newer_allocH _ _) (newer_allocH _ _)
 have hxb := (Whole.made w 48 (smC s)).alloc (.cells (suC u) 72)
 have hub := Whole.made (w.alloc (.cells (smC s) 48)) 72 (suC u)
 rw [World.size_alloc] at hub
 have H0 := Lib.hid (And.intro hnw (And.intro hxb hub))
 obtain ⟨y0, hy0⟩ := get_of_lt (l := s.cs) (k := 0) (by omega)
 have hyn : y0.beds.length = s.sd.n := (sd_n hy0).symm
 obtain ⟨b1, o1, ea, _, cy⟩ := rowC (hok.next hnw).cs hy0
 simp only [Nat.add_zero] at cy
 have x0 := hxb.at 0 (v := .slice s.a s.cs.length s.c) rfl
 rw [ea] at x0
 have HSA := Lib.hid ea
 have x1 := hxb.at 1 (v := vi s.least) rfl
 have u0 := hub.at 0 (v := vi u.frm) rfl
 have u1 := hub.at 1 (v := .slice u.a u.beds.length u.c) rfl
 obtain ⟨n, hn⟩ : ∃ n, n = s.sd.n := ⟨_, rfl⟩
 have hnb : 1 <= n /\ n <= 5 := by rw [hn]; exact hs.beds
 rw [hyn, <- hn] at cy
 unfold surfB
 rw [sd_len, <- hn, show s.sd.least = s.least from rfl]
 have HU := Lib.hid (hu.next hnw)
 have c0 : (0 : Int) < s.cs.length := by omega
 have hls := hs.least
 have hls2 : s.sd.least = s.least := rfl
 rw [hls2] at hls
 clear hok hu hs hnw hxb hub hy0 hyn hn ea hls2
 by_cases h1 : u.frm < 0
 ·rw [decide_eq_false (by omega : ¬ 0 <= u.frm)]
  go_enter Tryz.func72, Tryz.ntmps72
  go_wp2_with fail
  go_ret
  exact ⟨rfl, H0.out.1⟩
 ·rw [decide_eq_true (by omega : 0 <= u.frm)]
  by_cases h2 : (u.beds.length : Int) < s.least
  ·rw [decide_eq_false (by omega : ¬ s.least <= u.beds.length)]
   go_enter Tryz.func72, Tryz.ntmps72
   go_wp2_with fail
   go_ret
   exact ⟨rfl, H0.out.1⟩
  ·rw [decide_eq_true (by omega : s.least <= u.beds.length)]
   by_cases h3 : (s.cs.length : Int) - u.beds.length < u.frm
   ·rw [decide_eq_false (by omega : ¬ u.frm <= s.cs.length - u.beds.length)]
    go_enter Tryz.func72, Tryz.ntmps72
    go_wp2_with fail
    go_ret
    exact ⟨rfl, H0.out.1⟩
   ·rw [decide_eq_true (by omega : u.frm <= s.cs.length - u.beds.length)]
    have hsim : ∀ b, (true && true && true && b) = b := fun b => by simp
    rw [hsim]
    clear hsim
    have HQ : Hid (∀ k, k < u.beds.length -> okB n u.beds k = false -> goodB u.beds.length (okB n u.beds) = false) := Lib.hid (fun k hk h => goodB_false hk h)
    have HQ2 : Hid (goodTo (okB n u.beds) u.beds.length -> goodB u.beds.length (okB n u.beds) = true) := Lib.hid (fun h => goodB_true h)
    obtain ⟨r, hr⟩ : ∃ r, r = goodB u.beds.length (okB n u.beds) := ⟨_, rfl⟩
    rw [<- hr] at HQ HQ2 ⊢
    clear hr
    obtain ⟨ub, uo, eu, _⟩ := row1k HU.out (k := 0) (by omega)
    rw [eu] at u1
    have HEU := Lib.hid eu
    have HCY := Lib.hid cy
    clear eu cy
    go_enter Tryz.func72, Tryz.ntmps72
    go_wp2_with fail
    go_loopw [33] (fun s33 wr => ∃ k : Nat, k <= u.beds.length /\ s33 = vi k /\ goodTo (okB n u.beds) k /\ newer w wr /\ Whole wr w.heap.size 48 (smC s) /\ Whole wr (w.heap.size + 1) 72 (suC u) /\ newer ((w.alloc (.cells (smC s) 48)).alloc (.cells (suC u) 72)) wr) (fun s33 _ => u.beds.length - (intOf s33).toNat)
    case atStart => exact ⟨0, Nat.zero_le _, rfl, goodTo_zero _, H0.out.1, H0.out.2.1, H0.out.2.2, Below.refl _ _⟩
    case round =>
     obtain ⟨k, hk, rfl, q2, q3, q4, q5, q6⟩ := hrel
     clear x0 x1 u0 u1 H0
     have x0 := q4.at 0 (v := .slice s.a s.cs.length s.c) rfl
     rw [HSA.out] at x0
     by_cases hlt : k < u.beds.length
     ·obtain ⟨b2, o2, e2, d0⟩ := row1k (HU.out.below q6) hlt
      rw [HEU.out] at e2
      obtain ⟨rfl, rfl⟩ : ub = b2 /\ uo = o2 := by simpa using e2
      have u1 := q5.at 1 (v := .slice u.a u.beds.length u.c) rfl
      rw [HEU.out] at u1
      have cy := keep_cell HCY.out q6
      have hki : (k : Int) < u.beds.length := by omega
      have HG := Lib.hid (And.intro q2 q3)
      have HW := Lib.hid (And.intro q4 (And.intro q5 q6))
      have hok : okB n u.beds k = (inB (iAt u.beds k) 0 ((n : Int) - 1) && (decide (k = 0) || inB (iAt u.beds k - iAt u.beds (k - 1)) (-1) 1)) := rfl
      clear e2 q2 q3 q4 q5 q6
      obtain ⟨p, hp⟩ : ∃ p, p = iAt u.beds k := ⟨_, rfl⟩
      rw [<- hp] at d0 hok
      have HC1 := Lib.hid (fun W => within_any p 0 ((n : Int) - 1) W)
      cases hq : inB p 0 ((n : Int) - 1) with
      | false =>
       rw [hq] at HC1 hok
       have hr2 : r = false := HQ.out k hlt hok
       subst hr2
       clear hok hq hp
       go_wp2_with fail
       refine (HC1.out _).mono ?_
       rintro e w2 ⟨rfl, rfl⟩
       go_wp2_with fail
       go_ret
       exact ⟨rfl, HG.out.2⟩
      | true =>
       rw [hq] at HC1 hok
       have hpb : 0 <= p /\ p <= (n : Int) - 1 := by simpa [inB] using hq
       by_cases hk0 : k = 0
       ·subst hk0
        have HS := Lib.hid (goodTo_succ HG.out.1 (by rw [hok]; rfl))
        simp only [Nat.add_zero] at d0
        clear hok hq hp
        go_wp2_with fail
        refine (HC1.out _).mono ?_
        rintro e w2 ⟨rfl, rfl⟩
        go_wp2_with fail
        refine ⟨⟨1, by omega, rfl, HS.out, HG.out.2, HW.out.1, HW.out.2.1, HW.out.2.2⟩, ?_⟩
        simp [intOf]
        omega
       ·have hg1 := HG.out.1 (k - 1) (by omega)
        obtain ⟨b3, o3, e3, d1⟩ := row1k (HU.out.below HW.out.2.2) (k := k - 1) (by omega)
        rw [HEU.out] at e3
        obtain ⟨rfl, rfl⟩ : ub = b3 /\ uo = o3 := by simpa using e3
        unfold okB at hg1
        rw [Bool.and_eq_true] at hg1
        have hpb2 : 0 <= iAt u.beds (k - 1) /\ iAt u.beds (k - 1) <= (n : Int) - 1 := by simpa [inB] using hg1.1
        obtain ⟨p2, hp2⟩ : ∃ p2, p2 = iAt u.beds (k - 1) := ⟨_, rfl⟩
        rw [<- hp2] at d1 hok hpb2
        have HC2 := Lib.hid (fun W => beside_any p p2 W (by omega) (by omega))
        rw [decide_eq_false hk0, Bool.false_or, Bool.true_and] at hok
        have hkp : (0 : Int) < k := by omega
        have hkm : (k : Int) - 1 = ((k - 1 : Nat) : Int) := by omega
        have hkl : ((k - 1 : Nat) : Int) < u.beds.length := by omega
        clear hg1 e3 hp2 hp hq
        obtain ⟨r2, hr2⟩ : ∃ r2, r2 = inB (p - p2) (-1) 1 := ⟨_, rfl⟩
        rw [<- hr2] at HC2 hok
        clear hr2
        go_wp2_with fail
        refine (HC1.out _).mono ?_
        rintro e w2 ⟨rfl, rfl⟩
        go_wp2_with fail
        refine (HC2.out _).mono ?_
        rintro e w2 ⟨rfl, rfl⟩
        cases r2 with
        | false =>
         have hr2 : r = false := HQ.out k hlt hok
         subst hr2
         go_wp2_with fail
         go_ret
         exact ⟨rfl, HG.out.2⟩
        | true =>
         have HS := Lib.hid (goodTo_succ HG.out.1 hok)
         go_wp2_with fail
         refine ⟨⟨k + 1, by omega, rfl, HS.out, HG.out.2, HW.out.1, HW.out.2.1, HW.out.2.2⟩, ?_⟩
         simp [intOf]
         omega
     ·obtain rfl : k = u.beds.length := by omega
      have hr2 : r = true := HQ2.out q2
      subst hr2
      go_wp2_with fail
      go_ret
      exact ⟨rfl, q3⟩
def checkUN (s : Sd) (frm : Int) (l : List Int) : Int := if slopeB s then (if surfB s frm l then 0 else 2) else 1
set_option maxRecDepth 100000 in
set_option maxHeartbeats 1000000 in
theorem checkU_any (s : Sm) (u : Su) (w : World) (hok : SmOk s w) (few : SmFew s) (hu : SuOk u w) (hul : u.beds.length <= 1000) : Calls Tryz.prog 49 #[smV s, suV u] w fun e w' => e = .returned (vi (checkUN s.sd u.frm u.beds)) /\ newer w w' := by
 have hnw : newer w ((w.alloc (.cells (smC s) 48)).alloc (.cells (suC u) 72)) := newer_trans (newer_allocH _ _) (newer_allocH _ _)
 have hxb := (Whole.made w 48 (smC s)).alloc (.cells (suC u) 72)
 have hub := Whole.made (w.alloc (.cells (smC s) 48)) 72 (suC u)
 rw [World.size_alloc] at hub
 have H0 := Lib.hid (And.intro hnw (And.intro hxb hub))
 have HV := Lib.hid (valid_any s _ (hok.next hnw) few)
 have x0 := hxb.at 0 (v := .slice s.a s.cs.length s.c) rfl
 have x1 := hxb.at 1 (v := vi s.least) rfl
 have HSU : Hid (slopeB s.sd = true -> ∀ W, newer w W -> Calls Tryz.prog 72 #[smV s, suV u] W fun e w' => e = .returned (.bool (surfB s.sd u.frm u.beds)) /\ newer W w') := Lib.hid (fun h W hW => surface_any s u W (hok.next hW) (hu.next hW) (sdOk_iff.1 h) hul)
 unfold checkUN
 obtain ⟨q, hq⟩ : ∃ q, q = slopeB s.sd := ⟨_, rfl⟩
 obtain ⟨r, hr⟩ : ∃ r, r = surfB s.sd u.frm u.beds := ⟨_, rfl⟩
 rw [<- hq] at HV HSU ⊢
 rw [<- hr] at HSU ⊢
 clear hq hr hok few hu hul hnw hxb hub
 cases q with
 | false =>
  go_enter Tryz.func49, Tryz.ntmps49
  go_wp2_with fail
  refine (HV.out).mono ?_
  rintro e w1 ⟨rfl, hb⟩
  have HE := Lib.hid (newer_trans H0.out.1 hb)
  clear hb HV H0
  go_wp2_with fail
  go_ret
  exact ⟨rfl, HE.out⟩
 | true =>
  have HS2 := Lib.hid (HSU.out rfl)
  clear HSU
  go_enter Tryz.func49, Tryz.ntmps49
  go_wp2_with fail
  refine (HV.out).mono ?_
  rintro e w1 ⟨rfl, hb⟩
  have H1 := Lib.hid (And.intro (newer_trans H0.out.1 hb) (And.intro (H0.out.2.1.below hb H0.out.2.1.lt) (H0.out.2.2.below hb H0.out.2.2.lt)))
  clear hb HV H0 x0 x1
  have x0 := H1.out.2.1.at 0 (v := .slice s.a s.cs.length s.c) rfl
  have x1 := H1.out.2.1.at 1 (v := vi s.least) rfl
  have u0 := H1.out.2.2.at 0 (v := vi u.frm) rfl
  have u1 := H1.out.2.2.at 1 (v := .slice u.a u.beds.length u.c) rfl
  go_wp2_with fail
  refine (HS2.out w1 H1.out.1).mono ?_
  rintro e w2 ⟨rfl, hb⟩
  have HE := Lib.hid (newer_trans H1.out.1 hb)
  clear hb HS2 H1 x0 x1 u0 u1
  cases r with
  | false =>
   go_wp2_with fail
   go_ret
   exact ⟨rfl, HE.out⟩
  | true =>
   go_wp2_with fail
   go_ret
   exact ⟨rfl, HE.out⟩
end

section
open Go.RowKit Go.Shelf Go.Deep
def zeroBd : Bd := ⟨0, 0, ⟨0, 0⟩, ⟨0, 0⟩, ⟨0, 0⟩⟩
def bdAt (cols : List (List Bd)) (k b : Nat) : Bd := (bedAt cols k b).getD zeroBd
def bedsL (cols : List (List Bd)) : Nat -> List Nat -> List Bd
 | _, [] => []
 | k, b :: t => bdAt cols k b :: bedsL cols (k + 1) t
theorem bedsL_len (cols : List (List Bd)) : ∀ (l : List Nat) (k : Nat), (bedsL cols k l).length = l.length
 | [], _ => rfl
 | _ :: t, k => by simp [bedsL, bedsL_len cols t]
theorem bedsL_get (cols : List (List Bd)) : ∀ (l : List Nat) (k i b : Nat), l[i]? = some b -> (bedsL cols k l)[i]? = some (bdAt cols (k + i) b)
 | [], _, _, _, h => by simp at h
 | x :: t, k, 0, b, h => by
  have e : x = b := by simpa using h
  subst e
  rfl
 | x :: t, k, i + 1, b, h => by
  have ih := bedsL_get cols t (k + 1) i b (by simpa using h)
  rw [show k + (i + 1) = k + 1 + i by omega, <- ih]
  simp [bedsL]
def hK (l : List Bd) (tr : Nat -> Rl) : Nat -> Int
 | 0 => 0
 | k + 1 => hK l tr k + holdsN (l.getD k zeroBd) (tr k)
def dK (l : List Bd) : Nat -> Int
 | 0 => 0
 | k + 1 => dK l k + (l.getD k zeroBd).drive
def rlB (x : Rl) : Bool := inB x.fr 0 2000 && inB x.co 0 100000 && inB x.wa 0 100000
theorem rlB_parts {x : Rl} (h : rlB x = true) : (0 <= x.fr /\ x.fr <= 2000) /\ (0 <= x.co /\ x.co <= 100000) /\ (0 <= x.wa /\ x.wa <= 100000) := by
 simp only [rlB, inB, Bool.and_eq_true, decide_eq_true_eq] at h
 exact ⟨h.1.1, h.1.2, h.2⟩
theorem hK_bd {l : List Bd} {tr : Nat -> Rl} : ∀ k, k <= l.length -> (∀ b ∈ l, bdB b = true) -> (∀ i, i < k -> rlB (tr i) = true) -> 0 <= hK l tr k /\ hK l tr k <= 300000 * k
 | 0, _, _, _ => by simp [hK]
 | k + 1, hk, hb, ht => by
  have ih := hK_bd k (by omega) hb (fun i hi => ht i (by omega))
  obtain ⟨b, hbk⟩ := get_of_lt (l := l) (k := k) (by omega)
  have e : l.getD k zeroBd = b := by simp [List.getD, hbk]
  obtain ⟨h1, h2, h3⟩ := rlB_parts (ht k (by omega))
  have h4 := (holds_bd (b := b) (x := tr k) (bdB_parts (hb b (List.mem_of_getElem? hbk))).2.1 h1 h2 h3.1).2.2
  simp only [hK, e]
  omega
theorem dK_bd {l : List Bd} : ∀ k, k <= l.length -> (∀ b ∈ l, bdB b = true) -> -100000 * k <= dK l k /\ dK l k <= 100000 * k
 | 0, _, _ => by simp [dK]
 | k + 1, hk, hb => by
  have ih := dK_bd k (by omega) hb
  obtain ⟨b, hbk⟩ := get_of_lt (l := l) (k := k) (by omega)
  have e : l.getD k zeroBd = b := by simp [List.getD, hbk]
  have h4 := (bdB_parts (hb b (List.mem_of_getElem? hbk))).1
  simp only [dK, e]
  omega
def facV (H D : Int) : Value := .tuple (if D < 1 then #[vi 0, .bool false] else #[vi (factorN H D), .bool true])
set_option maxRecDepth 100000 in
set_option maxHeartbeats 1000000 in
theorem factor_any (l : List Bd) (A : Option Addr) (c F : Nat) (cp : Array Value) (tr : Nat -> Rl) (w : World) (hl : l.length <= 1000) (hr : Row bdL 8 w w.heap.size A l) (hbd : ∀ b ∈ l, bdB b = true) (htr : ∀ i, i < l.length -> rlB (tr i) = true) (hF : ∀ (args : Array Value) (W : World), (callFunc F args).run Tryz.prog W = .ok (.enter F args) W)
  (hT : ∀ (i : Nat) (b : Bd) (W : World), l[i]? = some b -> newer w W -> Calls Tryz.prog F (#[vi i, bdV b] ++ cp) W fun e w' => e = .returned (rlV (tr i)) /\ newer W w') :
  Calls Tryz.prog 52 #[.slice A l.length c, .func (.func F) #[] cp] w fun e w' => e = .returned (facV (hK l tr l.length) (dK l l.length)) /\ newer w w' := by
 have HR := Lib.hid hr
 have HB := Lib.hid hbd
 have HTR := Lib.hid htr
 have HT0 := Lib.hid hT
 obtain ⟨H, hH⟩ : ∃ H, H = hK l tr l.length := ⟨_, rfl⟩
 obtain ⟨D, hD⟩ : ∃ D, D = dK l l.length := ⟨_, rfl⟩
 rw [<- hH, <- hD]
 have HHD := Lib.hid (And.intro hH hD)
 clear hH hD
 clear hT htr hr hbd
 go_enter Tryz.func52, Tryz.ntmps52
 go_wp2_with fail
 go_loopw [6, 7, 12] (fun s6 s7 s12 wr => ∃ k : Nat, k <= l.length /\ s12 = vi k /\ s6 = vi (hK l tr k) /\ s7 = vi (dK l k) /\ newer w wr) (fun _ _ s12 _ => l.length - (intOf s12).toNat)
 case atStart => exact ⟨0, Nat.zero_le _, rfl, rfl, rfl, Below.refl _ _⟩
 case round =>
  obtain ⟨k, hk, rfl, rfl, rfl, hn⟩ := hrel
  have hh := hK_bd (tr := tr) k hk HB.out (fun i hi => HTR.out i (by omega))
  have hd := dK_bd k hk HB.out
  obtain ⟨w2, rfl⟩ : ∃ w2 : World, w2 = wr := ⟨_, rfl⟩
  by_cases hlt : k < l.length
  ·obtain ⟨b, hbk⟩ := get_of_lt hlt
   obtain ⟨b1, o1, ea, _, d0, d1, d2, d3, d4, d5, d6, d7⟩ := row8 (HR.out.below hn) hbk
   have hge : l.getD k zeroBd = b := by simp [List.getD, hbk]
   have hbb := bdB_parts (HB.out b (List.mem_of_getElem? hbk))
   have HS : Hid (hK l tr (k + 1) = hK l tr k + holdsN b (tr k) /\ dK l (k + 1) = dK l k + b.drive) := Lib.hid (by simp only [hK, dK, hge]; exact ⟨trivial, trivial⟩)
   obtain ⟨h, hhe⟩ : ∃ h, h = hK l tr k := ⟨_, rfl⟩
   obtain ⟨d, hde⟩ : ∃ d, d = dK l k := ⟨_, rfl⟩
   obtain ⟨y, hy⟩ : ∃ y, y = tr k := ⟨_, rfl⟩
   have hyb : rlB y = true := by rw [hy]; exact HTR.out k hlt
   obtain ⟨y1, y2, y3⟩ := rlB_parts hyb
   have hhb := (holds_bd (b := b) (x := y) hbb.2.1 y1 y2 y3.1).2.2
   have HH := Lib.hid (fun W => holds_any b y W hbb.2.1 y1 y2 y3)
   have HT1 := Lib.hid (HT0.out k b)
   rw [<- hhe] at hh HS ⊢
   rw [<- hde] at hd HS ⊢
   rw [<- hy] at HS HT1
   obtain ⟨hb, hhb2⟩ : ∃ hb, hb = holdsN b y := ⟨_, rfl⟩
   rw [<- hhb2] at HH HS hhb
   have hk1 : (k : Int) <= 1000 := by omega
   have HC : Hid (IntKind.i64.wrap (h + hb) = h + hb /\ IntKind.i64.wrap (d + b.drive) = d + b.drive) := Lib.hid ⟨IntWalk.i64_in _ (by omega), IntWalk.i64_in _ (by omega)⟩
   have HN := Lib.hid (And.intro hn hbk)
   subst ea
   clear hhe hde hy hyb y1 y2 y3 hhb2 hge hn hbk hh hd hhb hbb
   go_upto_region 5 with fail
   have hn3 := newer_allocH w2 (.cells (bdC b) 91)
   have hw3 := Whole.made w2 91 (bdC b)
   refine genQ (fun X => newer w2 X /\ Whole X w2.heap.size 91 (bdC b)) ⟨hn3, hw3⟩ ?_
   clear hn3 hw3 d0 d1 d2 d3 d4 d5 d6 d7
   rintro w3 ⟨hn3, hw3⟩
   have z0 := hw3.at 0 (v := vi b.drive) rfl
   have z1 := hw3.at 1 (v := vi b.normal) rfl
   have z2 := hw3.at 2 (v := vi b.fr.lo) rfl
   have z3 := hw3.at 3 (v := vi b.fr.hi) rfl
   have z4 := hw3.at 4 (v := vi b.co.lo) rfl
   have z5 := hw3.at 5 (v := vi b.co.hi) rfl
   have z6 := hw3.at 6 (v := vi b.wa.lo) rfl
   have z7 := hw3.at 7 (v := vi b.wa.hi) rfl
   have HN3 := Lib.hid (newer_trans HN.out.1 hn3)
   have HT := Lib.hid (fun W (hW : newer w3 W) => HT1.out W HN.out.2 (newer_trans HN3.out hW))
   clear hn3 hw3 HT1
   refine wp_words (by kernel_rfl) (region_told_e 13 (by kernel_rfl) (by kernel_rfl) (fun W => Below w3.heap.size w3 W) newer (pickD [vIs (vi h), vIs (bdV b), vIs (.func (.func F) #[] cp), vIs (vi k), vIs (bdV b), vIs (rlV y), vIs (vi hb), vIs (vi (h + hb)), vIs (vi d), vIs (.pointer (some ⟨w2.heap.size, 0, none⟩)), vIs (vi b.drive), vIs (vi (d + b.drive)), vIs (vi (h + hb))]) (pickD_stable _ ⟨vIs_st, vIs_st, vIs_st, vIs_st, vIs_st, vIs_st, vIs_st, vIs_st, vIs_st, vIs_st, vIs_st, vIs_st, vIs_st, trivial⟩) (Below.refl _ w3).drew ?_ ?_)
   ·refine ⟨?_, ?_, ?_, ?_, ?_, ?_, ?_, ?_, ?_, ?_, ?_, ?_, ?_, trivial⟩
    ·intro a W hG hO hE hp; have h6 := hE 12 _ 6 (by decide) rfl rfl (by kernel_rfl); refine wp_yields (v := vi h) ?_ ⟨_, rfl, rfl, Below.refl _ _, hG⟩; simp [slotOf] at h6; simp [execOp, go_sem, h6]
    ·intro a W hG hO hE hp; have h9 := hO.slot 9 (by kernel_rfl); have c0 := keep_cell z0 hG; have c1 := keep_cell z1 hG; have c2 := keep_cell z2 hG; have c3 := keep_cell z3 hG; have c4 := keep_cell z4 hG; have c5 := keep_cell z5 hG; have c6 := keep_cell z6 hG; have c7 := keep_cell z7 hG; refine wp_yields (v := bdV b) ?_ ⟨_, rfl, rfl, Below.refl _ _, hG⟩; simp [slotOf] at h9; simp [execOp, go_sem, h9, c0, c1, c2, c3, c4, c5, c6, c7]
    ·intro a W hG hO hE hp; have h1 := hO.slot 1 (by kernel_rfl); refine wp_yields (v := .func (.func F) #[] cp) ?_ ⟨_, rfl, rfl, Below.refl _ _, hG⟩; simp [slotOf] at h1; simp [execOp, go_sem, h1]
    ·intro a W hG hO hE hp; have h8 := hO.slot 8 (by kernel_rfl); refine wp_yields (v := vi k) ?_ ⟨_, rfl, rfl, Below.refl _ _, hG⟩; simp [slotOf] at h8; simp [execOp, go_sem, h8]
    ·intro a W hG hO hE hp; have h9 := hO.slot 9 (by kernel_rfl); have c0 := keep_cell z0 hG; have c1 := keep_cell z1 hG; have c2 := keep_cell z2 hG; have c3 := keep_cell z3 hG; have c4 := keep_cell z4 hG; have c5 := keep_cell z5 hG; have c6 := keep_cell z6 hG; have c7 := keep_cell z7 hG; refine wp_yields (v := bdV b) ?_ ⟨_, rfl, rfl, Below.refl _ _, hG⟩; simp [slotOf] at h9; simp [execOp, go_sem, h9, c0, c1, c2, c3, c4, c5, c6, c7]
    ·intro a W hG hO hE hp
     have h19 : slotOf a 19 = .func (.func F) #[] cp := hp.1
     have h20 : slotOf a 20 = vi k := hp.2.1
     have h21 : slotOf a 21 = bdV b := hp.2.2.1
     obtain ⟨ar, har⟩ : ∃ ar, ar = #[vi k, bdV b] ++ cp := ⟨_, rfl⟩
     have hcc := HT.out W hG
     rw [<- har] at hcc
     refine wp_enters (f := F) (args := ar) ?_ (hcc.mono ?_)
     ·simp [slotOf] at h19 h20 h21
      rw [har]
      simp [execOp, go_sem, h19, h20, h21, hF]
     ·rintro e w' ⟨rfl, hb⟩
      exact ⟨_, rfl, _, rfl, rfl, hb, below_next hG hb⟩
    ·intro a W hG hO hE hp
     have h18 : slotOf a 18 = bdV b := hp.1
     have h22 : slotOf a 22 = rlV y := hp.2.1
     refine wp_enters (f := 74) (args := #[bdV b, rlV y]) ?_ ((HH.out W).mono ?_)
     ·simp [slotOf] at h18 h22
      simp [go_sem, h18, h22]
     ·rintro e w' ⟨rfl, hb⟩
      exact ⟨_, rfl, _, rfl, rfl, hb, below_next hG hb⟩
    ·intro a W hG hO hE hp; have h17 : slotOf a 17 = vi h := hp.1; have h23 : slotOf a 23 = vi hb := hp.2.1; refine wp_yields (v := vi (h + hb)) ?_ ⟨_, rfl, rfl, Below.refl _ _, hG⟩; simp [slotOf] at h17 h23; simp [execOp, go_sem, h17, h23, HC.out.1]
    ·intro a W hG hO hE hp; have h7 := hO.slot 7 (by kernel_rfl); refine wp_yields (v := vi d) ?_ ⟨_, rfl, rfl, Below.refl _ _, hG⟩; simp [slotOf] at h7; simp [execOp, go_sem, h7]
    ·intro a W hG hO hE hp; have h9 := hO.slot 9 (by kernel_rfl); refine wp_yields (v := .pointer (some ⟨w2.heap.size, 0, none⟩)) ?_ ⟨_, rfl, rfl, Below.refl _ _, hG⟩; simp [slotOf] at h9; simp [execOp, go_sem, h9]
    ·intro a W hG hO hE hp; have h26 : slotOf a 26 = .pointer (some ⟨w2.heap.size, 0, none⟩) := hp.1; have c0 := keep_cell z0 hG; refine wp_yields (v := vi b.drive) ?_ ⟨_, rfl, rfl, Below.refl _ _, hG⟩; simp [slotOf] at h26; simp [execOp, go_sem, h26, c0]
    ·intro a W hG hO hE hp; have h25 : slotOf a 25 = vi d := hp.1; have h27 : slotOf a 27 = vi b.drive := hp.2.1; refine wp_yields (v := vi (d + b.drive)) ?_ ⟨_, rfl, rfl, Below.refl _ _, hG⟩; simp [slotOf] at h25 h27; simp [execOp, go_sem, h25, h27, HC.out.2]
    ·intro a W hG hO hE hp; have h24 : slotOf a 24 = vi (h + hb) := hp.1; refine wp_yields (v := vi (h + hb)) ?_ ⟨_, rfl, rfl, Below.refl _ _, hG⟩; simp [slotOf] at h24; simp [execOp, go_sem, h24]
   ·intro wz hG
    rintro _ rfl _ rfl _ rfl _ rfl _ rfl _ rfl _ rfl _ rfl _ rfl _ rfl _ rfl _ rfl _ rfl
    change wpList _ _ _ _ _ _
    simp only [Act.put, List.setIfInBounds_toArray, List.set_cons_zero, List.set_cons_succ, List.drop_succ_cons, List.drop_zero]
    have HE := Lib.hid (newer_trans HN3.out hG)
    clear hG z0 z1 z2 z3 z4 z5 z6 z7
    go_wp2_with fail
    refine ⟨⟨k + 1, by omega, rfl, by rw [HS.out.1], by rw [HS.out.2], HE.out⟩, ?_⟩
    simp [intOf]
    omega
  ·obtain rfl : k = l.length := by omega
   rw [<- HHD.out.1] at hh ⊢
   rw [<- HHD.out.2] at hd ⊢
   by_cases hd1 : D < 1
   ·have HF : Hid (facV H D = .tuple #[vi 0, .bool false]) := Lib.hid (by unfold facV; rw [if_pos hd1])
    go_wp2_with fail
    exact bodyPost_ret (v := .tuple #[vi 0, .bool false]) (by simp [results, Tryz.results52, go_sem]) rfl ⟨by rw [HF.out], hn⟩
   ·have HF : Hid (facV H D = .tuple #[vi (factorN H D), .bool true]) := Lib.hid (by unfold facV; rw [if_neg hd1])
    by_cases hmn : 1000 * H / D < 10000
    ·have HFN : Hid (factorN H D = 1000 * H / D) := Lib.hid (by unfold factorN mnI; rw [if_pos hmn])
     go_wp2_with fail
     exact bodyPost_ret (v := .tuple #[vi (1000 * H / D), .bool true]) (by simp [results, Tryz.results52, go_sem]) rfl ⟨by rw [HF.out, HFN.out], hn⟩
    ·have HFN : Hid (factorN H D = 10000) := Lib.hid (by unfold factorN mnI; rw [if_neg hmn])
     go_wp2_with fail
     exact bodyPost_ret (v := .tuple #[vi 10000, .bool true]) (by simp [results, Tryz.results52, go_sem]) rfl ⟨by rw [HF.out, HFN.out], hn⟩
theorem way_lt {n : Nat} : ∀ (l : List Nat) (i b : Nat), wayB n l -> l[i]? = some b -> b < n
 | [], _, _, _, h => by simp at h
 | x :: t, 0, b, hw, h => by
  have e : x = b := by simpa using h
  exact e ▸ hw.1
 | x :: t, i + 1, b, hw, h => way_lt t i b hw.2.2 (by simpa using h)
theorem bdAt_is {s : Sm} (hs : SdOk s.sd) {k j : Nat} (hk : k < s.cs.length) (hj : j < s.sd.n) : ∃ x, s.cs[k]? = some x /\ x.beds[j]? = some (bdAt s.sd.cols k j) /\ x.beds.length = s.sd.n /\ bdB (bdAt s.sd.cols k j) = true := by
 obtain ⟨x, b, h1, h2, h3, h4, h5⟩ := sm_bed hs hk hj
 have e : bdAt s.sd.cols k j = b := by unfold bdAt; rw [h4]; rfl
 rw [e]
 exact ⟨x, h1, h2, h3, h5⟩
theorem bedsL_ok {s : Sm} (hs : SdOk s.sd) {k : Nat} {l : List Nat} (hw : wayB s.sd.n l) (hk : k + l.length <= s.cs.length) : ∀ b ∈ bedsL s.sd.cols k l, bdB b = true := by
 intro b hb
 obtain ⟨i, hi⟩ := List.mem_iff_getElem?.1 hb
 have hil := (List.getElem?_eq_some_iff.1 hi).1
 rw [bedsL_len] at hil
 obtain ⟨x, hx⟩ := get_of_lt hil
 rw [bedsL_get _ _ _ _ _ hx] at hi
 obtain ⟨y, _, _, _, h⟩ := bdAt_is hs (k := k + i) (j := x) (by omega) (way_lt l i x hw hx)
 injection hi with hi
 rw [<- hi]
 exact h
set_option maxRecDepth 100000 in
set_option maxHeartbeats 1000000 in
theorem bedsU_any (s : Sm) (u : Su) (k0 : Nat) (l : List Nat) (w : World) (hok : SmOk s w) (hs : SdOk s.sd) (hu : SuOk u w) (hf : u.frm = k0) (hl : u.beds = l.map fun x : Nat => (x : Int)) (hsf : SurfB s.sd.n s.cs.length s.sd.K k0 l) :
  Calls Tryz.prog 50 #[smV s, suV u] w fun e w' => ∃ A c, e = .returned (.slice A l.length c) /\ w'.ownsRow w.heap.size 91 8 (.slice A l.length c) l.length ((bedsL s.sd.cols k0 l).flatMap bdL) /\ newer w w' := by
 have hcl : s.cs.length <= 12 := by have h1 := hs.cols; rw [sd_len] at h1; omega
 have hul : u.beds.length = l.length := by rw [hl]; simp
 have hll : 1 <= l.length := by have h1 := hsf.1; have h2 := (hd_ok hs false).K0; omega
 obtain ⟨y0, hy0⟩ := get_of_lt (l := s.cs) (k := 0) (by have := hsf.2.1; omega)
 obtain ⟨b1, o1, ea, _, _⟩ := rowC hok.cs hy0
 obtain ⟨b2, o2, eu, _⟩ := row1k hu (k := 0) (by omega)
 have hnw : newer w ((w.alloc (.cells (smC s) 48)).alloc (.cells (suC u) 72)) := newer_trans (newer_allocH _ _) (newer_allocH _ _)
 have hxb := (Whole.made w 48 (smC s)).alloc (.cells (suC u) 72)
 have hub := Whole.made (w.alloc (.cells (smC s) 48)) 72 (suC u)
 rw [World.size_alloc] at hub
 have H0 := Lib.hid (And.intro hnw (And.intro hxb hub))
 have u1 := hub.at 1 (v := .slice u.a u.beds.length u.c) rfl
 rw [eu, hul] at u1
 have HEA := Lib.hid (And.intro ea eu)
 have HOK := Lib.hid hok
 have HU := Lib.hid hu
 have HSD := Lib.hid hs
 have HSF := Lib.hid (And.intro hsf (And.intro hf (And.intro hl hul)))
 have hkl : k0 + l.length <= s.cs.length := hsf.2.1
 obtain ⟨i0, hi0, hz0, hz1, hz2⟩ := info_parts info_bd
 have HI := Lib.hid (And.intro hi0 (And.intro hz0 (And.intro hz1 hz2)))
 clear hok hs hu hsf hf hl hul hnw hxb hub ea eu hy0 hi0 hz0 hz1 hz2
 go_enter Tryz.func50, Tryz.ntmps50
 go_wp2_with fail
 go_loopw [4, 10] (fun s4 s10 wr => ∃ (k : Nat) (A : Option Addr) (c : Nat), s10 = vi k /\ k <= l.length /\ s4 = .slice A k c /\ wr.ownsRow w.heap.size 91 8 (.slice A k c) k (((bedsL s.sd.cols k0 l).take k).flatMap bdL) /\ newer w wr /\ Whole wr w.heap.size 48 (smC s) /\ Whole wr (w.heap.size + 1) 72 (suC u)) (fun _ s10 _ => l.length - (intOf s10).toNat)
 case atStart => exact ⟨0, none, 0, rfl, Nat.zero_le _, rfl, ⟨rfl, .inl ⟨rfl, rfl⟩⟩, H0.out.1, H0.out.2.1, H0.out.2.2⟩
 case round =>
  obtain ⟨k, A, c, rfl, hk, rfl, hown, hn, hx, hu2⟩ := hrel
  clear u1 H0
  have HJ := Lib.hid (And.intro hown (And.intro hn (And.intro hx hu2)))
  by_cases hlt : k < l.length
  ·obtain ⟨b, hb⟩ := get_of_lt hlt
   have hbn := way_lt l k b HSF.out.1.2.2 hb
   obtain ⟨kk, hkk0⟩ : ∃ kk, kk = k0 + k := ⟨_, rfl⟩
   obtain ⟨x, hx1, hx2, hx3, _⟩ := bdAt_is HSD.out (k := kk) (j := b) (by omega) hbn
   obtain ⟨bd, hbd⟩ : ∃ bd, bd = bdAt s.sd.cols kk b := ⟨_, rfl⟩
   rw [<- hbd] at hx2
   have HG := Lib.hid (show (bedsL s.sd.cols k0 l)[k]? = some bd by rw [hbd, hkk0]; exact bedsL_get _ l k0 k b hb)
   obtain ⟨b3, o3, e3, _, cx⟩ := rowC (HOK.out.next hn).cs hx1
   rw [HEA.out.1] at e3
   obtain ⟨rfl, rfl⟩ : b1 = b3 /\ o1 = o3 := by simpa using e3
   obtain ⟨b4, o4, e4, _, d0, d1, d2, d3, d4, d5, d6, d7⟩ := row8 ((HOK.out.next hn).bd x (List.mem_of_getElem? hx1)) hx2
   rw [e4] at cx
   obtain ⟨b5, o5, e5, p0⟩ := row1k (HU.out.next hn) (k := k) (by rw [HSF.out.2.2.2]; exact hlt)
   rw [HEA.out.2] at e5
   obtain ⟨rfl, rfl⟩ : b2 = b5 /\ o2 = o5 := by simpa using e5
   have ep : iAt u.beds k = (b : Int) := by rw [HSF.out.2.2.1]; simp [iAt, hb]
   rw [ep] at p0
   have x0 := hx.at 0 (v := .slice s.a s.cs.length s.c) rfl
   rw [HEA.out.1] at x0
   have u0 := hu2.at 0 (v := vi u.frm) rfl
   rw [HSF.out.2.1] at u0
   have hkk : ((k0 : Int) + k) = (kk : Int) := by omega
   have hkc : (kk : Int) < s.cs.length := by omega
   have hbx : (b : Int) < x.beds.length := by omega
   have hk12 : k <= 12 := by omega
   have hk012 : k0 <= 12 := by omega
   have hn1 := newer_allocH wr (.cells (bdC bd) 91)
   have HO := Lib.hid (own_below hown hn1)
   have HNW : Hid (newer w (wr.alloc (.cells (bdC bd) 91))) := Lib.hid (newer_trans hn hn1)
   have HJ2 := Lib.hid (And.intro (hx.below hn1 hx.lt) (hu2.below hn1 hu2.lt))
   have HWN := Lib.hid (World.news_of_block (Whole.made wr 91 (bdC bd)))
   clear hkk0 hown hn hx hu2 hn1 hx1 hx2 hx3 hbd e3 e4 e5 ep hbn hb HJ
   go_wp2_with (at_builtin; go_loud ((refine wpList_append_lies _ rfl (.tmp 15) (.tmp 27) 92 rfl w.heap.size 91 i0 (.agg #[vi 0, vi 0, vi 0, vi 0, vi 0, vi 0, vi 0, vi 0]) 8 64 Tryz.underlying92 HI.out.1 HI.out.2.1 HI.out.2.2.1 HI.out.2.2.2 rfl (by omega) _ k _ rfl HO.out ⟨wr.heap.size, 0, none⟩ 1 1 (bdL bd) rfl rfl HWN.out (by simp [Value.oneCell']) (by omega) (by unfold maxLen; omega) (by omega) HNW.out.size (wr.alloc (.cells (bdC bd) 91)).heap.size rfl ?_); intro gg cp2 w2 hown2 hgrow2 hat2 hlt2; rw [<- take_flat bdL _ k bd HG.out] at hown2; have HE := Lib.hid (And.intro hown2 (And.intro hgrow2 (own_ge HO.out))); clear hown2 hgrow2 hat2 hlt2))
   refine ⟨⟨k + 1, some ⟨gg, 0, none⟩, cp2, rfl, by omega, rfl, HE.out.1, ?_, ?_, ?_⟩, ?_⟩
   ·exact below_grown (grown_trans' (grown_of_newer HNW.out _) HE.out.2.1) HE.out.2.2 (Nat.le_refl _)
   ·exact HJ2.out.1.grown HE.out.2.1 (fun e => own_ne HO.out HJ2.out.1 (by decide) e.symm)
   ·exact HJ2.out.2.grown HE.out.2.1 (fun e => own_ne HO.out HJ2.out.2 (by decide) e.symm)
   ·simp [intOf]
    omega
  ·obtain rfl : k = l.length := by omega
   have HE := Lib.hid (show wr.ownsRow w.heap.size 91 8 (.slice A l.length c) l.length ((bedsL s.sd.cols k0 l).flatMap bdL) by
    have h1 := HJ.out.1
    rw [List.take_of_length_le (by rw [bedsL_len]; omega)] at h1
    exact h1)
   go_wp2_with fail
   go_ret
   exact ⟨A, c, rfl, HE.out, hn⟩
end

section
open Go.RowKit Go.Shelf Go.Deep
theorem way_get {n : Nat} : ∀ (l : List Nat) (i b c : Nat), wayB n l -> l[i]? = some b -> l[i + 1]? = some c -> b <= c + 1 /\ c <= b + 1
 | [], _, _, _, _, h, _ => by simp at h
 | x :: t, 0, b, c, hw, h, h2 => by
  have e : x = b := by simpa using h
  have h3 : t[0]? = some c := by simpa using h2
  exact e ▸ hw.2.1 c (by rw [List.head?_eq_getElem?]; exact h3)
 | x :: t, i + 1, b, c, hw, h, h2 => way_get t i b c hw.2.2 (by simpa using h) (by simpa using h2)
theorem way_of {n : Nat} : ∀ (l : List Nat), (∀ (i b : Nat), l[i]? = some b -> b < n) -> (∀ (i b c : Nat), l[i]? = some b -> l[i + 1]? = some c -> b <= c + 1 /\ c <= b + 1) -> wayB n l
 | [], _, _ => trivial
 | x :: t, h1, h2 => ⟨h1 0 x rfl, fun c hc => h2 0 x c rfl (by rw [List.head?_eq_getElem?] at hc; simpa using hc), way_of t (fun i b h => h1 (i + 1) b (by simpa using h)) (fun i b c hb hc => h2 (i + 1) b c (by simpa using hb) (by simpa using hc))⟩
theorem natL_of {l : List Int} (h : ∀ i, i < l.length -> 0 <= iAt l i) : (l.map Int.toNat).map (fun x : Nat => (x : Int)) = l := by
 rw [List.map_map]
 refine (List.map_congr_left fun x hx => ?_).trans (List.map_id l)
 obtain ⟨i, hi⟩ := List.mem_iff_getElem?.1 hx
 have h1 := h i (List.getElem?_eq_some_iff.1 hi).1
 rw [iAt_of hi] at h1
 show ((x.toNat : Nat) : Int) = x
 omega
theorem goodB_iff {n : Nat} {p : Nat -> Bool} : goodB n p = true ↔ ∀ j, j < n -> p j = true := by
 unfold goodB
 rw [List.all_eq_true]
 exact ⟨fun h j hj => h j (List.mem_range.2 hj), fun h x hx => h x (List.mem_range.1 hx)⟩
theorem surfB_nat {s : Sd} (hs : SdOk s) {k : Nat} {l : List Nat} : surfB s k (l.map fun x : Nat => (x : Int)) = true ↔ SurfB s.n s.cols.length s.K k l := by
 have hK : (s.K : Int) = s.least := by have := hs.least; unfold Sd.K; omega
 have hg : ∀ i, i < l.length -> iAt (l.map fun x : Nat => (x : Int)) i = ((l.getD i 0 : Nat) : Int) := fun i hi => by
  obtain ⟨b, hb⟩ := get_of_lt hi
  simp [iAt, hb, List.getD]
 unfold surfB SurfB
 rw [List.length_map, Bool.and_eq_true, Bool.and_eq_true, Bool.and_eq_true, decide_eq_true_eq, decide_eq_true_eq, decide_eq_true_eq, goodB_iff]
 have hn := hs.beds
 constructor
 ·rintro ⟨⟨⟨_, h2⟩, h3⟩, h4⟩
  have h5 : ∀ (i b : Nat), l[i]? = some b -> b < s.n := fun i b hb => by
   have hi := (List.getElem?_eq_some_iff.1 hb).1
   have h6 := h4 i hi
   unfold okB at h6
   rw [Bool.and_eq_true, hg i hi] at h6
   have h7 := h6.1
   simp only [inB, Bool.and_eq_true, decide_eq_true_eq, List.getD, hb, Option.getD_some] at h7
   omega
  refine ⟨by omega, by omega, way_of l h5 fun i b c hb hc => ?_⟩
  have hi := (List.getElem?_eq_some_iff.1 hc).1
  have h6 := h4 (i + 1) hi
  unfold okB at h6
  rw [Bool.and_eq_true, hg (i + 1) hi, show i + 1 - 1 = i by omega, hg i (by omega)] at h6
  have h7 := h6.2
  simp only [inB, Bool.or_eq_true, Bool.and_eq_true, decide_eq_true_eq, List.getD, hb, hc, Option.getD_some] at h7
  omega
 ·rintro ⟨h1, h2, h3⟩
  refine ⟨⟨⟨by omega, by omega⟩, by omega⟩, fun i hi => ?_⟩
  obtain ⟨b, hb⟩ := get_of_lt hi
  have hbn := way_lt l i b h3 hb
  unfold okB
  rw [Bool.and_eq_true, hg i hi]
  refine ⟨by simp only [inB, Bool.and_eq_true, decide_eq_true_eq, List.getD, hb, Option.getD_some]; omega, ?_⟩
  by_cases h0 : i = 0
  ·simp [h0]
  ·rw [hg (i - 1) (by omega)]
   obtain ⟨c, hc⟩ := get_of_lt (l := l) (k := i - 1) (by omega)
   have h4 := way_get l (i - 1) c b h3 hc (by rw [show i - 1 + 1 = i by omega]; exact hb)
   simp only [inB, Bool.or_eq_true, Bool.and_eq_true, decide_eq_true_eq, List.getD, hb, hc, Option.getD_some]
   omega
theorem surfB_parts {s : Sd} (hs : SdOk s) {frm : Int} {l : List Int} (h : surfB s frm l = true) : frm = (frm.toNat : Nat) /\ l = (l.map Int.toNat).map (fun x : Nat => (x : Int)) /\ SurfB s.n s.cols.length s.K frm.toNat (l.map Int.toNat) := by
 have h0 := h
 unfold surfB at h0
 rw [Bool.and_eq_true, Bool.and_eq_true, Bool.and_eq_true, decide_eq_true_eq, decide_eq_true_eq, decide_eq_true_eq, goodB_iff] at h0
 have e1 : frm = (frm.toNat : Nat) := by omega
 have e2 : l = (l.map Int.toNat).map (fun x : Nat => (x : Int)) := (natL_of fun i hi => by
  have h6 := h0.2 i hi
  unfold okB at h6
  rw [Bool.and_eq_true] at h6
  have h7 := h6.1
  simp only [inB, Bool.and_eq_true, decide_eq_true_eq] at h7
  exact h7.1).symm
 refine ⟨e1, e2, (surfB_nat hs).1 ?_⟩
 rw [<- e1, <- e2]
 exact h
def bedsU (s : Sd) (frm : Int) (l : List Int) : List Bd := bedsL s.cols frm.toNat (l.map Int.toNat)
def facE (bs : List Bd) (hi : Bool) : Int := factorN (hK bs (fun i => endR hi (bs.getD i zeroBd)) bs.length) (dK bs bs.length)
theorem checkU_zero {s : Sd} {frm : Int} {l : List Int} (h : checkUN s frm l = 0) : SdOk s /\ surfB s frm l = true := by
 unfold checkUN at h
 cases hv : slopeB s with
 | false => rw [hv] at h; simp at h
 | true =>
  rw [hv] at h
  cases hf : surfB s frm l with
  | false => rw [hf] at h; simp at h
  | true => exact ⟨sdOk_iff.1 hv, rfl⟩
theorem end_rlB {b : Bd} (h : bdB b = true) (hi : Bool) : rlB (endR hi b) = true := by
 obtain ⟨_, _, h3, h4, h5⟩ := bdB_parts h
 cases hi <;> simp [rlB, inB, endR] <;> omega
end

section
open Go.RowKit Go.Shelf Go.Deep
set_option maxRecDepth 100000 in
set_option maxHeartbeats 1000000 in
theorem lawList (l : List Int) (A : Option Addr) (cp : Nat) (w : World) (hl : l.length <= 1000) (hr : Row intL 1 w w.heap.size A l) : Calls Tryz.prog 54 #[.slice A l.length cp] w (copiedC w l) := by
 have HR := Lib.hid (row_alloc hr (.cells #[] 3))
 obtain ⟨i0, hi0, hz0, hz1, hz2⟩ := info_parts info_int
 have HI := Lib.hid (And.intro hi0 (And.intro hz0 (And.intro hz1 hz2)))
 clear hr hi0 hz0 hz1 hz2
 go_enter Tryz.func54, Tryz.ntmps54
 go_wp2_with (at_builtin; go_loud ((refine wpList_plain rfl fun K hK => wp_append_copy (enc := intL) (size := 1) (.tmp 3) (.tmp 4) 60 3 i0 (.int .i64 0) 8 Tryz.underlying60 HI.out.1 HI.out.2.1 HI.out.2.2.1 HI.out.2.2.2 rfl (by omega) (by omega) (fun _ => rfl) rfl w.heap.size rfl l A cp rfl hl HR.out fun B c w' hB hb hc hge => hK _ _ ?_); have HB := Lib.hid (And.intro hB (And.intro ((((Below.refl w.heap.size w).alloc (Nat.le_refl _) (.cells #[] 3))).trans (hb.mono (by simp))) (And.intro (show w.heap.size <= B.block by simp at hge; omega) hc))); clear hB hb hge hc))
 go_ret
 exact ⟨_, _, rfl, HB.out.2.2.2, HB.out.1, HB.out.2.1, fun a e => by cases e; exact HB.out.2.2.1⟩
set_option maxHeartbeats 1000000 in
theorem to_any (r : Rg) (w : World) : Calls Tryz.prog 33 #[rgV r] w fun e w' => e = .returned (rgV r) /\ newer w w' := by
 have hnw : newer w ((w.alloc (.cells #[vi r.lo, vi r.hi] 38)).alloc (.cells #[vi r.lo, vi r.hi] 89)) := newer_trans (newer_allocH _ _) (newer_allocH _ _)
 have hxb := (Whole.made w 38 #[vi r.lo, vi r.hi]).alloc (.cells #[vi 0, vi 0] 89)
 have hrb := Whole.made (w.alloc (.cells #[vi r.lo, vi r.hi] 38)) 89 #[vi r.lo, vi r.hi]
 rw [World.size_alloc] at hrb
 have H0 := Lib.hid (And.intro hnw hrb)
 have x0 := hxb.at 0 (v := vi r.lo) rfl
 have x1 := hxb.at 1 (v := vi r.hi) rfl
 clear hnw hxb hrb
 go_enter Tryz.func33, Tryz.ntmps33
 go_wp2_with fail
 have z0 := H0.out.2.at 0 (v := vi r.lo) rfl
 have z1 := H0.out.2.at 1 (v := vi r.hi) rfl
 exact bodyPost_ret (v := .agg #[vi r.lo, vi r.hi]) (by simp [results, Tryz.results33, go_sem, z0, z1]) rfl ⟨rfl, H0.out.1⟩
end

section
open Go.RowKit Go.Shelf Go.Deep
def thinS (s : Sd) : Bool := s.cols.all (fun l => decide (l.length <= 8)) && decide (s.cols.length <= 15)
theorem thinS_few {s : Sm} (h : thinS s.sd = true) : SmFew s /\ s.cs.length <= 15 /\ ∀ x ∈ s.cs, x.beds.length <= 8 := by
 unfold thinS at h
 rw [Bool.and_eq_true, decide_eq_true_eq, sd_len, sd_all, List.all_eq_true] at h
 have h1 : ∀ x ∈ s.cs, x.beds.length <= 8 := fun x hx => by simpa using h.1 x hx
 exact ⟨⟨by omega, fun x hx => by have := h1 x hx; omega⟩, h.2, h1⟩
set_option maxRecDepth 100000 in
set_option maxHeartbeats 2000000 in
theorem lawThin (s : Sm) (w : World) (hok : SmOk s w) : Calls Tryz.prog 4 #[smV s] w fun e w' => e = .returned (.bool (thinS s.sd)) /\ newer w w' := by
 have H0 := Lib.hid (And.intro (newer_allocH w (.cells (smC s) 24)) (Whole.made w 24 (smC s)))
 have HOK := Lib.hid hok
 have hf1 : ∀ x ∈ s.cs, ¬ x.beds.length <= 8 -> thinS s.sd = false := fun x hx h => by
  unfold thinS
  have : s.sd.cols.all (fun l => decide (l.length <= 8)) = false := by
   rw [sd_all, List.all_eq_false]
   exact ⟨x, hx, by simpa using h⟩
  rw [this]
  rfl
 have hf2 : ¬ s.cs.length <= 15 -> thinS s.sd = false := fun h => by
  unfold thinS
  rw [sd_len, decide_eq_false h, Bool.and_false]
 have ht : s.cs.length <= 15 -> early (fun x : Cl => !decide (x.beds.length <= 8)) s.cs s.cs.length -> thinS s.sd = true := fun h1 h2 => by
  unfold thinS
  rw [sd_len, decide_eq_true h1, Bool.and_true, sd_all, List.all_eq_true]
  intro x hx
  obtain ⟨i, hi⟩ := List.mem_iff_getElem?.1 hx
  have h3 := h2 i x (List.getElem?_eq_some_iff.1 hi).1 hi
  simpa using h3
 have HF := Lib.hid (And.intro hf1 (And.intro hf2 ht))
 clear hf1 hf2 ht
 obtain ⟨r, hr⟩ : ∃ r, r = thinS s.sd := ⟨_, rfl⟩
 rw [<- hr] at HF ⊢
 clear hr hok
 go_enter Tryz.func4, Tryz.ntmps4
 go_wp2_with fail
 go_loopw [3] (fun s3 wr => ∃ k : Nat, k <= s.cs.length /\ k <= 16 /\ s3 = vi k /\ newer w wr /\ Whole wr w.heap.size 24 (smC s) /\ early (fun x : Cl => !decide (x.beds.length <= 8)) s.cs k) (fun s3 _ => s.cs.length - (intOf s3).toNat)
 case atStart => exact ⟨0, Nat.zero_le _, by omega, rfl, H0.out.1, H0.out.2, early_zero _ _⟩
 case round =>
  obtain ⟨k, hk, hk16, rfl, hbw, hbx, he⟩ := hrel
  clear H0
  have x0 := hbx.at 0 (v := .slice s.a s.cs.length s.c) rfl
  have HE := Lib.hid (And.intro hbw (And.intro hbx he))
  by_cases hlt : k < s.cs.length
  ·by_cases h15 : 15 < k
   ·have hrf : r = false := HF.out.2.1 (by omega)
    subst hrf
    clear hbx hbw he
    go_wp2_with fail
    go_ret
    exact ⟨rfl, HE.out.1⟩
   ·obtain ⟨x, hx⟩ := get_of_lt hlt
    obtain ⟨b1, o1, ea, _, cx⟩ := rowC (HOK.out.next hbw).cs hx
    have HX := Lib.hid hx
    have HEA := Lib.hid ea
    rw [ea] at x0
    clear hbx hbw he hx ea
    by_cases ha : x.beds.length <= 8
    ·have HN := Lib.hid (early_succ HE.out.2.2 HX.out (by simp [ha]))
     go_wp2_with fail
     refine ⟨⟨k + 1, by omega, by omega, rfl, HE.out.1, HE.out.2.1, HN.out⟩, ?_⟩
     simp [intOf]
     omega
    ·have hrf : r = false := HF.out.1 x (List.mem_of_getElem? HX.out) ha
     subst hrf
     go_wp2_with fail
     go_ret
     exact ⟨rfl, HE.out.1⟩
  ·obtain rfl : k = s.cs.length := by omega
   clear hbx hbw he
   by_cases h15 : s.cs.length <= 15
   ·have hrf : r = true := HF.out.2.2 h15 HE.out.2.2
    subst hrf
    go_wp2_with fail
    go_ret
    exact ⟨ret_bool (decide_eq_true (by omega)), HE.out.1⟩
   ·have hrf : r = false := HF.out.2.1 h15
    subst hrf
    go_wp2_with fail
    go_ret
    exact ⟨ret_bool (decide_eq_false (by omega)), HE.out.1⟩
set_option maxHeartbeats 400000 in
theorem refUp_any (r : Rg) (most : Int) (w : World) : Calls Tryz.prog 25 #[rgV r, vi most] w fun e w' => e = .returned (.bool (rgU r most)) /\ newer w w' := by
 obtain ⟨lo, hi⟩ := r
 unfold rgU
 dsimp only
 by_cases h1 : 0 <= lo
 ·by_cases h2 : lo <= hi
  ·by_cases h3 : hi <= most
   all_goals
    (go_enter Tryz.func25, Tryz.ntmps25
     go_wp2
     go_ret
     exact ⟨ret_bool (by simp <;> omega), (Below.refl _ _).alloc (Nat.le_refl _) _⟩)
  ·go_enter Tryz.func25, Tryz.ntmps25
   go_wp2
   go_ret
   exact ⟨ret_bool (by simp <;> omega), (Below.refl _ _).alloc (Nat.le_refl _) _⟩
 ·go_enter Tryz.func25, Tryz.ntmps25
  go_wp2
  go_ret
  exact ⟨ret_bool (by simp <;> omega), (Below.refl _ _).alloc (Nat.le_refl _) _⟩
def colP (n : Nat) (x : Cl) : Bool := inB x.beds.length 1 5 && decide (x.beds.length = n) && x.beds.all bdB
set_option maxRecDepth 100000 in
set_option maxHeartbeats 2000000 in
theorem right_any (s : Sm) (w : World) (hok : SmOk s w) (few : SmFew s) : Calls Tryz.prog 5 #[smV s] w fun e w' => e = .returned (.bool (slopeB s.sd)) /\ newer w w' := by
 have H0 := Lib.hid (And.intro (newer_allocH w (.cells (smC s) 24)) (Whole.made w 24 (smC s)))
 have HOK := Lib.hid hok
 have HFW := Lib.hid few
 have hf1 : inB s.cs.length 1 12 = false -> slopeB s.sd = false := fun h => by unfold slopeB; rw [sd_len, h]; rfl
 have hf2 : inB s.least 1 4 = false -> slopeB s.sd = false := fun h => by
  unfold slopeB
  rw [show s.sd.least = s.least from rfl, h, Bool.and_false, Bool.false_and]
 have hf3 : ∀ x ∈ s.cs, colP s.sd.n x = false -> slopeB s.sd = false := fun x hx h => by
  cases hv : slopeB s.sd with
  | false => rfl
  | true =>
   have hs := sdOk_iff.1 hv
   have hm : x.beds ∈ s.sd.cols := List.mem_map.2 ⟨x, hx, rfl⟩
   have h1 := hs.len _ hm
   have h2 := hs.beds
   have h3 : x.beds.all bdB = true := List.all_eq_true.2 fun b hb => hs.bd _ hm b hb
   unfold colP at h
   rw [h3, decide_eq_true h1, show inB x.beds.length 1 5 = true by simp [inB]; omega] at h
   cases h
 have ht : inB s.cs.length 1 12 = true -> inB s.least 1 4 = true -> early (fun x => !colP s.sd.n x) s.cs s.cs.length -> slopeB s.sd = true := fun h1 h2 h3 => by
  have h4 : ∀ x ∈ s.cs, colP s.sd.n x = true := fun x hx => by
   obtain ⟨i, hi⟩ := List.mem_iff_getElem?.1 hx
   have h5 := h3 i x (List.getElem?_eq_some_iff.1 hi).1 hi
   simpa using h5
  have h6 : 0 < s.cs.length := by simp [inB] at h1; omega
  obtain ⟨x0, hx0⟩ := get_of_lt h6
  have h7 := h4 x0 (List.mem_of_getElem? hx0)
  have h8 := sd_n hx0
  unfold slopeB
  rw [sd_len, h1, show s.sd.least = s.least from rfl, h2, sd_all]
  unfold colP at h7
  rw [Bool.and_eq_true, Bool.and_eq_true] at h7
  rw [h8, h7.1.1, Bool.true_and, Bool.true_and, Bool.true_and, List.all_eq_true, <- h8]
  intro x hx
  have h9 := h4 x hx
  unfold colP at h9
  rw [Bool.and_eq_true, Bool.and_eq_true] at h9
  rw [Bool.and_eq_true]
  exact ⟨h9.1.2, h9.2⟩
 have HF := Lib.hid (And.intro hf1 (And.intro hf2 (And.intro hf3 ht)))
 clear hf1 hf2 hf3 ht
 obtain ⟨r, hr⟩ : ∃ r, r = slopeB s.sd := ⟨_, rfl⟩
 rw [<- hr] at HF ⊢
 have x0 := H0.out.2.at 0 (v := .slice s.a s.cs.length s.c) rfl
 have x1 := H0.out.2.at 1 (v := vi s.least) rfl
 have C1 := Lib.hid (fun W => in_any s.cs.length 1 12 W)
 have C2 := Lib.hid (fun W => in_any s.least 1 4 W)
 clear hr hok few
 cases q1 : inB s.cs.length 1 12 with
 | false =>
  have hrf := HF.out.1 q1
  subst hrf
  rw [q1] at C1
  clear q1
  go_enter Tryz.func5, Tryz.ntmps5
  go_wp2_with fail
  refine (C1.out _).mono ?_
  rintro e w2 ⟨rfl, rfl⟩
  go_wp2_with fail
  go_ret
  exact ⟨rfl, H0.out.1⟩
 | true =>
  cases q2 : inB s.least 1 4 with
  | false =>
   have hrf := HF.out.2.1 q2
   subst hrf
   rw [q1] at C1
   rw [q2] at C2
   clear q1 q2
   go_enter Tryz.func5, Tryz.ntmps5
   go_wp2_with fail
   refine (C1.out _).mono ?_
   rintro e w2 ⟨rfl, rfl⟩
   go_wp2_with fail
   refine (C2.out _).mono ?_
   rintro e w2 ⟨rfl, rfl⟩
   go_wp2_with fail
   go_ret
   exact ⟨rfl, H0.out.1⟩
  | true =>
   have hl1 : 1 <= s.cs.length /\ s.cs.length <= 12 := by simp [inB] at q1; omega
   have HT := Lib.hid (HF.out.2.2.2 q1 q2)
   rw [q1] at C1
   rw [q2] at C2
   obtain ⟨y0, hy0⟩ := get_of_lt (l := s.cs) (k := 0) (by omega)
   have hyn : y0.beds.length = s.sd.n := (sd_n hy0).symm
   obtain ⟨b1, o1, ea, _, cy⟩ := rowC (HOK.out.next H0.out.1).cs hy0
   simp only [Nat.add_zero] at cy
   obtain ⟨n, hn⟩ : ∃ n, n = s.sd.n := ⟨_, rfl⟩
   rw [hyn, <- hn] at cy
   rw [<- hn] at HF HT
   have hnb : n <= 1000 := by have := HFW.out.bd y0 (List.mem_of_getElem? hy0); omega
   have HCY := Lib.hid (And.intro cy ea)
   have hcne : ¬ (s.cs = []) := by intro h; rw [h] at hl1; simp at hl1
   rw [ea] at x0
   clear q1 q2 hy0 hyn hn cy ea
   go_enter Tryz.func5, Tryz.ntmps5
   go_wp2_with fail
   refine (C1.out _).mono ?_
   rintro e w2 ⟨rfl, rfl⟩
   go_wp2_with fail
   refine (C2.out _).mono ?_
   rintro e w2 ⟨rfl, rfl⟩
   go_wp2_with fail
   go_loopw [3] (fun s3 wr => ∃ k : Nat, k <= s.cs.length /\ s3 = vi k /\ newer w wr /\ Whole wr w.heap.size 24 (smC s) /\ newer (w.alloc (.cells (smC s) 24)) wr /\ early (fun x => !colP n x) s.cs k) (fun s3 _ => s.cs.length - (intOf s3).toNat)
   case atStart => exact ⟨0, Nat.zero_le _, rfl, H0.out.1, H0.out.2, Below.refl _ _, early_zero _ _⟩
   case round =>
    obtain ⟨k, hk, rfl, hbw, hbx, hbz, he⟩ := hrel
    clear H0 x0 x1 C1 C2
    have x0 := hbx.at 0 (v := .slice s.a s.cs.length s.c) rfl
    rw [HCY.out.2] at x0
    have cy := keep_cell HCY.out.1 hbz
    have HE := Lib.hid (And.intro hbw (And.intro hbx (And.intro hbz he)))
    clear hbx hbz he
    by_cases hlt : k < s.cs.length
    ·obtain ⟨x, hx⟩ := get_of_lt hlt
     obtain ⟨b2, o2, ea, _, cx⟩ := rowC (HOK.out.next hbw).cs hx
     rw [HCY.out.2] at ea
     obtain ⟨rfl, rfl⟩ : b1 = b2 /\ o1 = o2 := by simpa using ea
     have HX := Lib.hid hx
     have hxl := HFW.out.bd x (List.mem_of_getElem? hx)
     have HXM := Lib.hid (List.mem_of_getElem? hx)
     have hki : (k : Int) < s.cs.length := by omega
     have C3 := Lib.hid (fun W => in_any x.beds.length 1 5 W)
     have hcp : colP n x = (inB x.beds.length 1 5 && decide (x.beds.length = n) && x.beds.all bdB) := rfl
     clear hx ea hbw
     cases q3 : inB x.beds.length 1 5 with
     | false =>
      have hrf := HF.out.2.2.1 x HXM.out (by rw [hcp, q3]; rfl)
      subst hrf
      rw [q3] at C3
      clear q3 hcp
      go_upto_region 6 with fail
      refine wp_words (by kernel_rfl) (region_told_u 21 (by kernel_rfl) (by kernel_rfl) [false, false, false, false, false, false, false, false, false, true, true, true, true, true, true, true, true, true, true, true, true] (fun W => Below wr.heap.size wr W) newer [vIs (.pointer (some ⟨w.heap.size, 0, none⟩)), vIs (.slice (some ⟨b1, o1, none⟩) s.cs.length s.c), vIs (.int .i64 k), vIs (.pointer (some ⟨b1, o1 + k, none⟩)), vIs (.slice x.a x.beds.length x.cp), vIs (.int .i64 x.beds.length), vIs (.bool false), vIs (.bool true), vIs (.bool true), vIs (undef), vIs (undef), vIs (undef), vIs (undef), vIs (undef), vIs (undef), vIs (undef), vIs (undef), vIs (undef), vIs (undef), vIs (undef), vIs (undef)] (by repeat' first | refine And.intro ?_ ?_ | exact trivial | exact rfl | (intro v W h; obtain rfl : v = _ := h; first | rfl | (simp; done) | (simp [undef]; done))) (by repeat' first | refine And.intro ?_ ?_ | exact trivial | exact (fun h => Bool.noConfusion (show false = true from h)) | exact (fun _ _ => rfl)) (fun h k => newer_trans h k) (pickD_stable _ (by repeat' first | refine And.intro ?_ ?_ | exact trivial | exact vIs_st)) (Below.refl _ wr).drew (Below.refl _ _) ?_ ?_)
      ·refine ⟨.inr ?_, .inr ?_, .inr ?_, .inr ?_, .inr ?_, .inr ?_, .inr ?_, .inr ?_, .inr ?_, .inl rfl, .inl rfl, .inl rfl, .inl rfl, .inl rfl, .inl rfl, .inl rfl, .inl rfl, .inl rfl, .inl rfl, .inl rfl, .inl rfl, trivial⟩
       ·intro a W hG hR hO hp; have h1 := hO.slot 1 (by kernel_rfl); refine wp_yields (v := .pointer (some ⟨w.heap.size, 0, none⟩)) ?_ ⟨_, rfl, rfl, Below.refl _ _, hG⟩; simp [slotOf] at h1; simp [execOp, go_sem, h1]
       ·intro a W hG hR hO hp; have h24 : slotOf a 24 = .pointer (some ⟨w.heap.size, 0, none⟩) := hp.1; have c0 := keep_cell x0 hG; refine wp_yields (v := .slice (some ⟨b1, o1, none⟩) s.cs.length s.c) ?_ ⟨_, rfl, rfl, Below.refl _ _, hG⟩; simp [slotOf] at h24; simp [execOp, go_sem, h24, c0]
       ·intro a W hG hR hO hp; have h3 := hO.slot 3 (by kernel_rfl); refine wp_yields (v := .int .i64 k) ?_ ⟨_, rfl, rfl, Below.refl _ _, hG⟩; simp [slotOf] at h3; simp [execOp, go_sem, h3]
       ·intro a W hG hR hO hp; have h25 : slotOf a 25 = .slice (some ⟨b1, o1, none⟩) s.cs.length s.c := hp.1; have h26 : slotOf a 26 = .int .i64 k := hp.2.1; refine wp_yields (v := .pointer (some ⟨b1, o1 + k, none⟩)) ?_ ⟨_, rfl, rfl, Below.refl _ _, hG⟩; simp [slotOf] at h25 h26; simp [execOp, go_sem, h25, h26, hki]
       ·intro a W hG hR hO hp; have h27 : slotOf a 27 = .pointer (some ⟨b1, o1 + k, none⟩) := hp.1; have c0 := keep_cell cx hG; refine wp_yields (v := .slice x.a x.beds.length x.cp) ?_ ⟨_, rfl, rfl, Below.refl _ _, hG⟩; simp [slotOf] at h27; simp [execOp, go_sem, h27, c0]
       ·intro a W hG hR hO hp; have h28 : slotOf a 28 = .slice x.a x.beds.length x.cp := hp.1; refine wp_yields (v := .int .i64 x.beds.length) ?_ ⟨_, rfl, rfl, Below.refl _ _, hG⟩; simp [slotOf] at h28; simp [go_sem, h28]
       ·intro a W hG hR hO hp
        have h29 : slotOf a 29 = .int .i64 x.beds.length := hp.1
        refine wp_enters (f := 24) (args := #[vi x.beds.length, vi 1, vi 5]) ?_ ((C3.out W).mono ?_)
        ·simp [slotOf] at h29
         simp [go_sem, h29]
        ·rintro e w' ⟨rfl, rfl⟩
         exact ⟨_, rfl, _, rfl, rfl, Below.refl _ _, hG⟩
       ·intro a W hG hR hO hp; have h30 : slotOf a 30 = .bool false := hp.1; refine wp_yields (v := .bool true) ?_ ⟨_, rfl, rfl, Below.refl _ _, hG⟩; simp [slotOf] at h30; simp [execOp, go_sem, h30]
       ·intro a W hG hR hO hp; have h31 : slotOf a 31 = .bool true := hp.1; refine wp_yields (v := .bool true) ?_ ⟨_, rfl, rfl, Below.refl _ _, hG⟩; simp [slotOf] at h31; simp [execOp, go_sem, h31]
      ·intro W hG hR
       rintro _ rfl _ rfl _ rfl _ rfl _ rfl _ rfl _ rfl _ rfl _ rfl _ rfl _ rfl _ rfl _ rfl _ rfl _ rfl _ rfl _ rfl _ rfl _ rfl _ rfl _ rfl
       change wpList _ _ _ _ _ _
       simp only [Act.put, List.setIfInBounds_toArray, List.set_cons_zero, List.set_cons_succ, List.drop_succ_cons, List.drop_zero]
       have HE2 := Lib.hid (newer_trans HE.out.1 hG)
       clear hG hR cy cx x0
       go_wp2_with fail
       go_ret
       exact ⟨rfl, HE2.out⟩
     | true =>
      rw [q3] at C3
      by_cases hln : x.beds.length = n
      ·have HB := Lib.hid (fun b (hb : b ∈ x.beds) (h : bdB b = false) => HF.out.2.2.1 x HXM.out (by
        rw [hcp, q3, show x.beds.all bdB = false from List.all_eq_false.2 ⟨b, hb, by simp [h]⟩, Bool.and_false]))
       have HBT : Hid (early (fun b => !bdB b) x.beds x.beds.length -> colP n x = true) := Lib.hid (fun h => by
        rw [hcp, q3, decide_eq_true hln, Bool.true_and, Bool.true_and, List.all_eq_true]
        intro b hb
        obtain ⟨i, hi⟩ := List.mem_iff_getElem?.1 hb
        have h1 := h i b (List.getElem?_eq_some_iff.1 hi).1 hi
        simpa using h1)
       have hne : ((x.beds.length : Int) != n) = false := by simp [hln]
       clear q3 hcp hln
       go_upto_region 6 with fail
       refine wp_words (by kernel_rfl) (region_told_u 21 (by kernel_rfl) (by kernel_rfl) [false, false, false, false, false, false, false, false, false, false, false, false, false, false, false, false, false, false, false, false, false] (fun W => Below wr.heap.size wr W) newer [vIs (.pointer (some ⟨w.heap.size, 0, none⟩)), vIs (.slice (some ⟨b1, o1, none⟩) s.cs.length s.c), vIs (.int .i64 k), vIs (.pointer (some ⟨b1, o1 + k, none⟩)), vIs (.slice x.a x.beds.length x.cp), vIs (.int .i64 x.beds.length), vIs (.bool true), vIs (.bool false), vIs (.bool false), vIs (.pointer (some ⟨w.heap.size, 0, none⟩)), vIs (.slice (some ⟨b1, o1, none⟩) s.cs.length s.c), vIs (.int .i64 k), vIs (.pointer (some ⟨b1, o1 + k, none⟩)), vIs (.slice x.a x.beds.length x.cp), vIs (.int .i64 x.beds.length), vIs (.pointer (some ⟨w.heap.size, 0, none⟩)), vIs (.slice (some ⟨b1, o1, none⟩) s.cs.length s.c), vIs (.pointer (some ⟨b1, o1, none⟩)), vIs (.slice y0.a n y0.cp), vIs (.int .i64 n), vIs (.bool false)] (by repeat' first | refine And.intro ?_ ?_ | exact trivial | exact rfl | (intro v W h; obtain rfl : v = _ := h; first | rfl | (simp; done) | (simp [undef]; done))) (by repeat' first | refine And.intro ?_ ?_ | exact trivial | exact (fun h => Bool.noConfusion (show false = true from h)) | exact (fun _ _ => rfl)) (fun h k => newer_trans h k) (pickD_stable _ (by repeat' first | refine And.intro ?_ ?_ | exact trivial | exact vIs_st)) (Below.refl _ wr).drew (Below.refl _ _) ?_ ?_)
       ·refine ⟨.inr ?_, .inr ?_, .inr ?_, .inr ?_, .inr ?_, .inr ?_, .inr ?_, .inr ?_, .inr ?_, .inr ?_, .inr ?_, .inr ?_, .inr ?_, .inr ?_, .inr ?_, .inr ?_, .inr ?_, .inr ?_, .inr ?_, .inr ?_, .inr ?_, trivial⟩
        ·intro a W hG hR hO hp; have h1 := hO.slot 1 (by kernel_rfl); refine wp_yields (v := .pointer (some ⟨w.heap.size, 0, none⟩)) ?_ ⟨_, rfl, rfl, Below.refl _ _, hG⟩; simp [slotOf] at h1; simp [execOp, go_sem, h1]
        ·intro a W hG hR hO hp; have h24 : slotOf a 24 = .pointer (some ⟨w.heap.size, 0, none⟩) := hp.1; have c0 := keep_cell x0 hG; refine wp_yields (v := .slice (some ⟨b1, o1, none⟩) s.cs.length s.c) ?_ ⟨_, rfl, rfl, Below.refl _ _, hG⟩; simp [slotOf] at h24; simp [execOp, go_sem, h24, c0]
        ·intro a W hG hR hO hp; have h3 := hO.slot 3 (by kernel_rfl); refine wp_yields (v := .int .i64 k) ?_ ⟨_, rfl, rfl, Below.refl _ _, hG⟩; simp [slotOf] at h3; simp [execOp, go_sem, h3]
        ·intro a W hG hR hO hp; have h25 : slotOf a 25 = .slice (some ⟨b1, o1, none⟩) s.cs.length s.c := hp.1; have h26 : slotOf a 26 = .int .i64 k := hp.2.1; refine wp_yields (v := .pointer (some ⟨b1, o1 + k, none⟩)) ?_ ⟨_, rfl, rfl, Below.refl _ _, hG⟩; simp [slotOf] at h25 h26; simp [execOp, go_sem, h25, h26, hki]
        ·intro a W hG hR hO hp; have h27 : slotOf a 27 = .pointer (some ⟨b1, o1 + k, none⟩) := hp.1; have c0 := keep_cell cx hG; refine wp_yields (v := .slice x.a x.beds.length x.cp) ?_ ⟨_, rfl, rfl, Below.refl _ _, hG⟩; simp [slotOf] at h27; simp [execOp, go_sem, h27, c0]
        ·intro a W hG hR hO hp; have h28 : slotOf a 28 = .slice x.a x.beds.length x.cp := hp.1; refine wp_yields (v := .int .i64 x.beds.length) ?_ ⟨_, rfl, rfl, Below.refl _ _, hG⟩; simp [slotOf] at h28; simp [go_sem, h28]
        ·intro a W hG hR hO hp
         have h29 : slotOf a 29 = .int .i64 x.beds.length := hp.1
         refine wp_enters (f := 24) (args := #[vi x.beds.length, vi 1, vi 5]) ?_ ((C3.out W).mono ?_)
         ·simp [slotOf] at h29
          simp [go_sem, h29]
         ·rintro e w' ⟨rfl, rfl⟩
          exact ⟨_, rfl, _, rfl, rfl, Below.refl _ _, hG⟩
        ·intro a W hG hR hO hp; have h30 : slotOf a 30 = .bool true := hp.1; refine wp_yields (v := .bool false) ?_ ⟨_, rfl, rfl, Below.refl _ _, hG⟩; simp [slotOf] at h30; simp [execOp, go_sem, h30]
        ·intro a W hG hR hO hp; have h31 : slotOf a 31 = .bool false := hp.1; refine wp_yields (v := .bool false) ?_ ⟨_, rfl, rfl, Below.refl _ _, hG⟩; simp [slotOf] at h31; simp [execOp, go_sem, h31]
        ·intro a W hG hR hO hp; have h1 := hO.slot 1 (by kernel_rfl); refine wp_yields (v := .pointer (some ⟨w.heap.size, 0, none⟩)) ?_ ⟨_, rfl, rfl, Below.refl _ _, hG⟩; simp [slotOf] at h1; simp [execOp, go_sem, h1]
        ·intro a W hG hR hO hp; have h33 : slotOf a 33 = .pointer (some ⟨w.heap.size, 0, none⟩) := hp.1; have c0 := keep_cell x0 hG; refine wp_yields (v := .slice (some ⟨b1, o1, none⟩) s.cs.length s.c) ?_ ⟨_, rfl, rfl, Below.refl _ _, hG⟩; simp [slotOf] at h33; simp [execOp, go_sem, h33, c0]
        ·intro a W hG hR hO hp; have h3 := hO.slot 3 (by kernel_rfl); refine wp_yields (v := .int .i64 k) ?_ ⟨_, rfl, rfl, Below.refl _ _, hG⟩; simp [slotOf] at h3; simp [execOp, go_sem, h3]
        ·intro a W hG hR hO hp; have h34 : slotOf a 34 = .slice (some ⟨b1, o1, none⟩) s.cs.length s.c := hp.1; have h35 : slotOf a 35 = .int .i64 k := hp.2.1; refine wp_yields (v := .pointer (some ⟨b1, o1 + k, none⟩)) ?_ ⟨_, rfl, rfl, Below.refl _ _, hG⟩; simp [slotOf] at h34 h35; simp [execOp, go_sem, h34, h35, hki]
        ·intro a W hG hR hO hp; have h36 : slotOf a 36 = .pointer (some ⟨b1, o1 + k, none⟩) := hp.1; have c0 := keep_cell cx hG; refine wp_yields (v := .slice x.a x.beds.length x.cp) ?_ ⟨_, rfl, rfl, Below.refl _ _, hG⟩; simp [slotOf] at h36; simp [execOp, go_sem, h36, c0]
        ·intro a W hG hR hO hp; have h37 : slotOf a 37 = .slice x.a x.beds.length x.cp := hp.1; refine wp_yields (v := .int .i64 x.beds.length) ?_ ⟨_, rfl, rfl, Below.refl _ _, hG⟩; simp [slotOf] at h37; simp [go_sem, h37]
        ·intro a W hG hR hO hp; have h1 := hO.slot 1 (by kernel_rfl); refine wp_yields (v := .pointer (some ⟨w.heap.size, 0, none⟩)) ?_ ⟨_, rfl, rfl, Below.refl _ _, hG⟩; simp [slotOf] at h1; simp [execOp, go_sem, h1]
        ·intro a W hG hR hO hp; have h39 : slotOf a 39 = .pointer (some ⟨w.heap.size, 0, none⟩) := hp.1; have c0 := keep_cell x0 hG; refine wp_yields (v := .slice (some ⟨b1, o1, none⟩) s.cs.length s.c) ?_ ⟨_, rfl, rfl, Below.refl _ _, hG⟩; simp [slotOf] at h39; simp [execOp, go_sem, h39, c0]
        ·intro a W hG hR hO hp; have h40 : slotOf a 40 = .slice (some ⟨b1, o1, none⟩) s.cs.length s.c := hp.1; refine wp_yields (v := .pointer (some ⟨b1, o1, none⟩)) ?_ ⟨_, rfl, rfl, Below.refl _ _, hG⟩; simp [slotOf] at h40; simp [execOp, go_sem, h40, hcne]
        ·intro a W hG hR hO hp; have h41 : slotOf a 41 = .pointer (some ⟨b1, o1, none⟩) := hp.1; have c0 := keep_cell cy hG; refine wp_yields (v := .slice y0.a n y0.cp) ?_ ⟨_, rfl, rfl, Below.refl _ _, hG⟩; simp [slotOf] at h41; simp [execOp, go_sem, h41, c0]
        ·intro a W hG hR hO hp; have h42 : slotOf a 42 = .slice y0.a n y0.cp := hp.1; refine wp_yields (v := .int .i64 n) ?_ ⟨_, rfl, rfl, Below.refl _ _, hG⟩; simp [slotOf] at h42; simp [go_sem, h42]
        ·intro a W hG hR hO hp; have h38 : slotOf a 38 = .int .i64 x.beds.length := hp.1; have h43 : slotOf a 43 = .int .i64 n := hp.2.1; refine wp_yields (v := .bool false) ?_ ⟨_, rfl, rfl, Below.refl _ _, hG⟩; simp [slotOf] at h38 h43; simp [execOp, go_sem, h38, h43, hne]
       ·intro W hG hR
        rintro _ rfl _ rfl _ rfl _ rfl _ rfl _ rfl _ rfl _ rfl _ rfl _ rfl _ rfl _ rfl _ rfl _ rfl _ rfl _ rfl _ rfl _ rfl _ rfl _ rfl _ rfl
        change wpList _ _ _ _ _ _
        simp only [Act.put, List.setIfInBounds_toArray, List.set_cons_zero, List.set_cons_succ, List.drop_succ_cons, List.drop_zero]
        have HE2 := Lib.hid (And.intro (newer_trans HE.out.1 hG) (And.intro (HE.out.2.1.below hG HE.out.2.1.lt) (newer_trans HE.out.2.2.1 hG)))
        clear hG hR cy cx x0 hne
        go_wp2_with fail
        go_loopw [4] (fun s4 wr => ∃ j : Nat, j <= x.beds.length /\ s4 = vi j /\ newer w wr /\ Whole wr w.heap.size 24 (smC s) /\ newer (w.alloc (.cells (smC s) 24)) wr /\ early (fun b => !bdB b) x.beds j) (fun s4 _ => x.beds.length - (intOf s4).toNat)
        case atStart => exact ⟨0, Nat.zero_le _, rfl, HE2.out.1, HE2.out.2.1, HE2.out.2.2, early_zero _ _⟩
        case round =>
         obtain ⟨j, hj, rfl, hbw, hbx, hbz, he⟩ := hrel
         have x0 := hbx.at 0 (v := .slice s.a s.cs.length s.c) rfl
         rw [HCY.out.2] at x0
         have HE3 := Lib.hid (And.intro hbw (And.intro hbx (And.intro hbz he)))
         obtain ⟨b3, o3, ea, _, cx⟩ := rowC (HOK.out.next hbw).cs HX.out
         rw [HCY.out.2] at ea
         obtain ⟨rfl, rfl⟩ : b1 = b3 /\ o1 = o3 := by simpa using ea
         clear HE2 ea hbx hbz he
         by_cases hlt2 : j < x.beds.length
         ·obtain ⟨b, hb⟩ := get_of_lt hlt2
          obtain ⟨b4, o4, e4, _, d0, d1, d2, d3, d4, d5, d6, d7⟩ := row8 ((HOK.out.next hbw).bd x HXM.out) hb
          rw [e4] at cx
          have hji : (j : Int) < x.beds.length := by omega
          have HBM := Lib.hid (And.intro hb (List.mem_of_getElem? hb))
          have D1 := Lib.hid (fun W => in_any b.drive (-100000) 100000 W)
          have D2 := Lib.hid (fun W => in_any b.normal 0 100000 W)
          have D3 := Lib.hid (fun W => refUp_any b.fr 2000 W)
          have D4 := Lib.hid (fun W => refUp_any b.co 100000 W)
          have D5 := Lib.hid (fun W => refUp_any b.wa 100000 W)
          have hbd : bdB b = (inB b.drive (-100000) 100000 && inB b.normal 0 100000 && rgU b.fr 2000 && rgU b.co 100000 && rgU b.wa 100000) := rfl
          have e5 := newer_allocH wr (.cells (bdC b) 40)
          have HE4 := Lib.hid (And.intro (newer_trans HE3.out.1 e5) (And.intro (HE3.out.2.1.below e5 HE3.out.2.1.lt) (And.intro (newer_trans HE3.out.2.2.1 e5) (Whole.made wr 40 (bdC b)))))
          clear hb hbw e4 e5
          go_upto_region 12 with fail
          refine genQ (fun X => newer w X /\ Whole X w.heap.size 24 (smC s) /\ newer (w.alloc (.cells (smC s) 24)) X /\ Whole X wr.heap.size 40 (bdC b)) HE4.out ?_
          clear HE4 d0 d1 d2 d3 d4 d5 d6 d7 cx x0
          obtain ⟨bb, hbb⟩ : ∃ bb, bb = wr.heap.size := ⟨_, rfl⟩
          rw [<- hbb]
          rintro w5 ⟨p1, p2, p3, p4⟩
          have z0 := p4.at 0 (v := vi b.drive) rfl
          have z1 := p4.at 1 (v := vi b.normal) rfl
          have z2 := p4.at 2 (v := vi b.fr.lo) rfl
          have z3 := p4.at 3 (v := vi b.fr.hi) rfl
          have z4 := p4.at 4 (v := vi b.co.lo) rfl
          have z5 := p4.at 5 (v := vi b.co.hi) rfl
          have z6 := p4.at 6 (v := vi b.wa.lo) rfl
          have z7 := p4.at 7 (v := vi b.wa.hi) rfl
          have HE5 := Lib.hid (And.intro p1 (And.intro p2 p3))
          clear p1 p2 p3 p4 hbb
          cases t1 : inB b.drive (-100000) 100000 with
          | false =>
           rw [t1] at D1
           have hrf := HB.out b HBM.out.2 (by rw [hbd, t1]; simp)
           subst hrf
           clear t1 hbd
           go_wp2_with fail
           refine (D1.out _).mono ?_
           rintro e w6 ⟨rfl, rfl⟩
           go_wp2_with fail
           go_ret
           exact ⟨rfl, HE5.out.1⟩
          | true =>
           rw [t1] at D1
           cases t2 : inB b.normal 0 100000 with
           | false =>
            rw [t2] at D2
            have hrf := HB.out b HBM.out.2 (by rw [hbd, t1, t2]; simp)
            subst hrf
            clear t1 t2 hbd
            go_wp2_with fail
            refine (D1.out _).mono ?_
            rintro e w6 ⟨rfl, rfl⟩
            go_wp2_with fail
            refine (D2.out _).mono ?_
            rintro e w6 ⟨rfl, rfl⟩
            go_wp2_with fail
            go_ret
            exact ⟨rfl, HE5.out.1⟩
           | true =>
            rw [t2] at D2
            cases t3 : rgU b.fr 2000 with
            | false =>
             rw [t3] at D3
             have hrf := HB.out b HBM.out.2 (by rw [hbd, t1, t2, t3]; simp)
             subst hrf
             clear t1 t2 t3 hbd
             go_wp2_with fail
             refine (D1.out _).mono ?_
             rintro e w6 ⟨rfl, rfl⟩
             go_wp2_with fail
             refine (D2.out _).mono ?_
             rintro e w6 ⟨rfl, rfl⟩
             go_wp2_with fail
             refine (D3.out _).mono ?_
             rintro e v3 ⟨rfl, hb⟩
             have HF3 := Lib.hid (And.intro (And.intro (newer_trans HE5.out.1 hb) (And.intro (HE5.out.2.1.below hb HE5.out.2.1.lt) (newer_trans HE5.out.2.2 hb))) hb)
             clear hb
             have y4_3 := keep_cell z4 HF3.out.2
             have y5_3 := keep_cell z5 HF3.out.2
             have y6_3 := keep_cell z6 HF3.out.2
             have y7_3 := keep_cell z7 HF3.out.2
             go_wp2_with fail
             go_ret
             exact ⟨rfl, HF3.out.1.1⟩
            | true =>
             rw [t3] at D3
             cases t4 : rgU b.co 100000 with
             | false =>
              rw [t4] at D4
              have hrf := HB.out b HBM.out.2 (by rw [hbd, t1, t2, t3, t4]; simp)
              subst hrf
              clear t1 t2 t3 t4 hbd
              go_wp2_with fail
              refine (D1.out _).mono ?_
              rintro e w6 ⟨rfl, rfl⟩
              go_wp2_with fail
              refine (D2.out _).mono ?_
              rintro e w6 ⟨rfl, rfl⟩
              go_wp2_with fail
              refine (D3.out _).mono ?_
              rintro e v3 ⟨rfl, hb⟩
              have HF3 := Lib.hid (And.intro (And.intro (newer_trans HE5.out.1 hb) (And.intro (HE5.out.2.1.below hb HE5.out.2.1.lt) (newer_trans HE5.out.2.2 hb))) hb)
              clear hb
              have y4_3 := keep_cell z4 HF3.out.2
              have y5_3 := keep_cell z5 HF3.out.2
              have y6_3 := keep_cell z6 HF3.out.2
              have y7_3 := keep_cell z7 HF3.out.2
              go_wp2_with fail
              refine (D4.out _).mono ?_
              rintro e v4 ⟨rfl, hb⟩
              have HF4 := Lib.hid (And.intro (And.intro (newer_trans HF3.out.1.1 hb) (And.intro (HF3.out.1.2.1.below hb HF3.out.1.2.1.lt) (newer_trans HF3.out.1.2.2 hb))) (newer_trans HF3.out.2 hb))
              clear hb
              have y6_4 := keep_cell z6 HF4.out.2
              have y7_4 := keep_cell z7 HF4.out.2
              go_wp2_with fail
              go_ret
              exact ⟨rfl, HF4.out.1.1⟩
             | true =>
              rw [t4] at D4
              cases t5 : rgU b.wa 100000 with
              | false =>
               rw [t5] at D5
               have hrf := HB.out b HBM.out.2 (by rw [hbd, t1, t2, t3, t4, t5]; simp)
               subst hrf
               clear t1 t2 t3 t4 t5 hbd
               go_wp2_with fail
               refine (D1.out _).mono ?_
               rintro e w6 ⟨rfl, rfl⟩
               go_wp2_with fail
               refine (D2.out _).mono ?_
               rintro e w6 ⟨rfl, rfl⟩
               go_wp2_with fail
               refine (D3.out _).mono ?_
               rintro e v3 ⟨rfl, hb⟩
               have HF3 := Lib.hid (And.intro (And.intro (newer_trans HE5.out.1 hb) (And.intro (HE5.out.2.1.below hb HE5.out.2.1.lt) (newer_trans HE5.out.2.2 hb))) hb)
               clear hb
               have y4_3 := keep_cell z4 HF3.out.2
               have y5_3 := keep_cell z5 HF3.out.2
               have y6_3 := keep_cell z6 HF3.out.2
               have y7_3 := keep_cell z7 HF3.out.2
               go_wp2_with fail
               refine (D4.out _).mono ?_
               rintro e v4 ⟨rfl, hb⟩
               have HF4 := Lib.hid (And.intro (And.intro (newer_trans HF3.out.1.1 hb) (And.intro (HF3.out.1.2.1.below hb HF3.out.1.2.1.lt) (newer_trans HF3.out.1.2.2 hb))) (newer_trans HF3.out.2 hb))
               clear hb
               have y6_4 := keep_cell z6 HF4.out.2
               have y7_4 := keep_cell z7 HF4.out.2
               go_wp2_with fail
               refine (D5.out _).mono ?_
               rintro e v5 ⟨rfl, hb⟩
               have HF5 := Lib.hid (And.intro (And.intro (newer_trans HF4.out.1.1 hb) (And.intro (HF4.out.1.2.1.below hb HF4.out.1.2.1.lt) (newer_trans HF4.out.1.2.2 hb))) (newer_trans HF4.out.2 hb))
               clear hb
               go_wp2_with fail
               go_ret
               exact ⟨rfl, HF5.out.1.1⟩
              | true =>
               rw [t5] at D5
               have HN := Lib.hid (early_succ HE3.out.2.2.2 HBM.out.1 (show (!bdB b) = false by rw [hbd, t1, t2, t3, t4, t5]; rfl))
               clear t1 t2 t3 t4 t5 hbd
               go_wp2_with fail
               refine (D1.out _).mono ?_
               rintro e w6 ⟨rfl, rfl⟩
               go_wp2_with fail
               refine (D2.out _).mono ?_
               rintro e w6 ⟨rfl, rfl⟩
               go_wp2_with fail
               refine (D3.out _).mono ?_
               rintro e v3 ⟨rfl, hb⟩
               have HF3 := Lib.hid (And.intro (And.intro (newer_trans HE5.out.1 hb) (And.intro (HE5.out.2.1.below hb HE5.out.2.1.lt) (newer_trans HE5.out.2.2 hb))) hb)
               clear hb
               have y4_3 := keep_cell z4 HF3.out.2
               have y5_3 := keep_cell z5 HF3.out.2
               have y6_3 := keep_cell z6 HF3.out.2
               have y7_3 := keep_cell z7 HF3.out.2
               go_wp2_with fail
               refine (D4.out _).mono ?_
               rintro e v4 ⟨rfl, hb⟩
               have HF4 := Lib.hid (And.intro (And.intro (newer_trans HF3.out.1.1 hb) (And.intro (HF3.out.1.2.1.below hb HF3.out.1.2.1.lt) (newer_trans HF3.out.1.2.2 hb))) (newer_trans HF3.out.2 hb))
               clear hb
               have y6_4 := keep_cell z6 HF4.out.2
               have y7_4 := keep_cell z7 HF4.out.2
               go_wp2_with fail
               refine (D5.out _).mono ?_
               rintro e v5 ⟨rfl, hb⟩
               have HF5 := Lib.hid (And.intro (And.intro (newer_trans HF4.out.1.1 hb) (And.intro (HF4.out.1.2.1.below hb HF4.out.1.2.1.lt) (newer_trans HF4.out.1.2.2 hb))) (newer_trans HF4.out.2 hb))
               clear hb
               go_wp2_with fail
               refine ⟨⟨j + 1, by omega, rfl, HF5.out.1.1, HF5.out.1.2.1, HF5.out.1.2.2, HN.out⟩, ?_⟩
               simp [intOf]
               omega
         ·obtain rfl : j = x.beds.length := by omega
          have HC := Lib.hid (early_succ HE.out.2.2.2 HX.out (by rw [HBT.out HE3.out.2.2.2]; rfl))
          go_wp2_with fail
          refine ⟨⟨k + 1, by omega, rfl, HE3.out.1, HE3.out.2.1, HE3.out.2.2.1, HC.out⟩, ?_⟩
          simp [intOf]
          omega
      ·have hne : ((x.beds.length : Int) != n) = true := by simp; omega
       have hrf := HF.out.2.2.1 x HXM.out (by rw [hcp, q3, decide_eq_false hln]; rfl)
       subst hrf
       clear q3 hcp
       go_upto_region 6 with fail
       refine wp_words (by kernel_rfl) (region_told_u 21 (by kernel_rfl) (by kernel_rfl) [false, false, false, false, false, false, false, false, false, false, false, false, false, false, false, false, false, false, false, false, false] (fun W => Below wr.heap.size wr W) newer [vIs (.pointer (some ⟨w.heap.size, 0, none⟩)), vIs (.slice (some ⟨b1, o1, none⟩) s.cs.length s.c), vIs (.int .i64 k), vIs (.pointer (some ⟨b1, o1 + k, none⟩)), vIs (.slice x.a x.beds.length x.cp), vIs (.int .i64 x.beds.length), vIs (.bool true), vIs (.bool false), vIs (.bool false), vIs (.pointer (some ⟨w.heap.size, 0, none⟩)), vIs (.slice (some ⟨b1, o1, none⟩) s.cs.length s.c), vIs (.int .i64 k), vIs (.pointer (some ⟨b1, o1 + k, none⟩)), vIs (.slice x.a x.beds.length x.cp), vIs (.int .i64 x.beds.length), vIs (.pointer (some ⟨w.heap.size, 0, none⟩)), vIs (.slice (some ⟨b1, o1, none⟩) s.cs.length s.c), vIs (.pointer (some ⟨b1, o1, none⟩)), vIs (.slice y0.a n y0.cp), vIs (.int .i64 n), vIs (.bool true)] (by repeat' first | refine And.intro ?_ ?_ | exact trivial | exact rfl | (intro v W h; obtain rfl : v = _ := h; first | rfl | (simp; done) | (simp [undef]; done))) (by repeat' first | refine And.intro ?_ ?_ | exact trivial | exact (fun h => Bool.noConfusion (show false = true from h)) | exact (fun _ _ => rfl)) (fun h k => newer_trans h k) (pickD_stable _ (by repeat' first | refine And.intro ?_ ?_ | exact trivial | exact vIs_st)) (Below.refl _ wr).drew (Below.refl _ _) ?_ ?_)
       ·refine ⟨.inr ?_, .inr ?_, .inr ?_, .inr ?_, .inr ?_, .inr ?_, .inr ?_, .inr ?_, .inr ?_, .inr ?_, .inr ?_, .inr ?_, .inr ?_, .inr ?_, .inr ?_, .inr ?_, .inr ?_, .inr ?_, .inr ?_, .inr ?_, .inr ?_, trivial⟩
        ·intro a W hG hR hO hp; have h1 := hO.slot 1 (by kernel_rfl); refine wp_yields (v := .pointer (some ⟨w.heap.size, 0, none⟩)) ?_ ⟨_, rfl, rfl, Below.refl _ _, hG⟩; simp [slotOf] at h1; simp [execOp, go_sem, h1]
        ·intro a W hG hR hO hp; have h24 : slotOf a 24 = .pointer (some ⟨w.heap.size, 0, none⟩) := hp.1; have c0 := keep_cell x0 hG; refine wp_yields (v := .slice (some ⟨b1, o1, none⟩) s.cs.length s.c) ?_ ⟨_, rfl, rfl, Below.refl _ _, hG⟩; simp [slotOf] at h24; simp [execOp, go_sem, h24, c0]
        ·intro a W hG hR hO hp; have h3 := hO.slot 3 (by kernel_rfl); refine wp_yields (v := .int .i64 k) ?_ ⟨_, rfl, rfl, Below.refl _ _, hG⟩; simp [slotOf] at h3; simp [execOp, go_sem, h3]
        ·intro a W hG hR hO hp; have h25 : slotOf a 25 = .slice (some ⟨b1, o1, none⟩) s.cs.length s.c := hp.1; have h26 : slotOf a 26 = .int .i64 k := hp.2.1; refine wp_yields (v := .pointer (some ⟨b1, o1 + k, none⟩)) ?_ ⟨_, rfl, rfl, Below.refl _ _, hG⟩; simp [slotOf] at h25 h26; simp [execOp, go_sem, h25, h26, hki]
        ·intro a W hG hR hO hp; have h27 : slotOf a 27 = .pointer (some ⟨b1, o1 + k, none⟩) := hp.1; have c0 := keep_cell cx hG; refine wp_yields (v := .slice x.a x.beds.length x.cp) ?_ ⟨_, rfl, rfl, Below.refl _ _, hG⟩; simp [slotOf] at h27; simp [execOp, go_sem, h27, c0]
        ·intro a W hG hR hO hp; have h28 : slotOf a 28 = .slice x.a x.beds.length x.cp := hp.1; refine wp_yields (v := .int .i64 x.beds.length) ?_ ⟨_, rfl, rfl, Below.refl _ _, hG⟩; simp [slotOf] at h28; simp [go_sem, h28]
        ·intro a W hG hR hO hp
         have h29 : slotOf a 29 = .int .i64 x.beds.length := hp.1
         refine wp_enters (f := 24) (args := #[vi x.beds.length, vi 1, vi 5]) ?_ ((C3.out W).mono ?_)
         ·simp [slotOf] at h29
          simp [go_sem, h29]
         ·rintro e w' ⟨rfl, rfl⟩
          exact ⟨_, rfl, _, rfl, rfl, Below.refl _ _, hG⟩
        ·intro a W hG hR hO hp; have h30 : slotOf a 30 = .bool true := hp.1; refine wp_yields (v := .bool false) ?_ ⟨_, rfl, rfl, Below.refl _ _, hG⟩; simp [slotOf] at h30; simp [execOp, go_sem, h30]
        ·intro a W hG hR hO hp; have h31 : slotOf a 31 = .bool false := hp.1; refine wp_yields (v := .bool false) ?_ ⟨_, rfl, rfl, Below.refl _ _, hG⟩; simp [slotOf] at h31; simp [execOp, go_sem, h31]
        ·intro a W hG hR hO hp; have h1 := hO.slot 1 (by kernel_rfl); refine wp_yields (v := .pointer (some ⟨w.heap.size, 0, none⟩)) ?_ ⟨_, rfl, rfl, Below.refl _ _, hG⟩; simp [slotOf] at h1; simp [execOp, go_sem, h1]
        ·intro a W hG hR hO hp; have h33 : slotOf a 33 = .pointer (some ⟨w.heap.size, 0, none⟩) := hp.1; have c0 := keep_cell x0 hG; refine wp_yields (v := .slice (some ⟨b1, o1, none⟩) s.cs.length s.c) ?_ ⟨_, rfl, rfl, Below.refl _ _, hG⟩; simp [slotOf] at h33; simp [execOp, go_sem, h33, c0]
        ·intro a W hG hR hO hp; have h3 := hO.slot 3 (by kernel_rfl); refine wp_yields (v := .int .i64 k) ?_ ⟨_, rfl, rfl, Below.refl _ _, hG⟩; simp [slotOf] at h3; simp [execOp, go_sem, h3]
        ·intro a W hG hR hO hp; have h34 : slotOf a 34 = .slice (some ⟨b1, o1, none⟩) s.cs.length s.c := hp.1; have h35 : slotOf a 35 = .int .i64 k := hp.2.1; refine wp_yields (v := .pointer (some ⟨b1, o1 + k, none⟩)) ?_ ⟨_, rfl, rfl, Below.refl _ _, hG⟩; simp [slotOf] at h34 h35; simp [execOp, go_sem, h34, h35, hki]
        ·intro a W hG hR hO hp; have h36 : slotOf a 36 = .pointer (some ⟨b1, o1 + k, none⟩) := hp.1; have c0 := keep_cell cx hG; refine wp_yields (v := .slice x.a x.beds.length x.cp) ?_ ⟨_, rfl, rfl, Below.refl _ _, hG⟩; simp [slotOf] at h36; simp [execOp, go_sem, h36, c0]
        ·intro a W hG hR hO hp; have h37 : slotOf a 37 = .slice x.a x.beds.length x.cp := hp.1; refine wp_yields (v := .int .i64 x.beds.length) ?_ ⟨_, rfl, rfl, Below.refl _ _, hG⟩; simp [slotOf] at h37; simp [go_sem, h37]
        ·intro a W hG hR hO hp; have h1 := hO.slot 1 (by kernel_rfl); refine wp_yields (v := .pointer (some ⟨w.heap.size, 0, none⟩)) ?_ ⟨_, rfl, rfl, Below.refl _ _, hG⟩; simp [slotOf] at h1; simp [execOp, go_sem, h1]
        ·intro a W hG hR hO hp; have h39 : slotOf a 39 = .pointer (some ⟨w.heap.size, 0, none⟩) := hp.1; have c0 := keep_cell x0 hG; refine wp_yields (v := .slice (some ⟨b1, o1, none⟩) s.cs.length s.c) ?_ ⟨_, rfl, rfl, Below.refl _ _, hG⟩; simp [slotOf] at h39; simp [execOp, go_sem, h39, c0]
        ·intro a W hG hR hO hp; have h40 : slotOf a 40 = .slice (some ⟨b1, o1, none⟩) s.cs.length s.c := hp.1; refine wp_yields (v := .pointer (some ⟨b1, o1, none⟩)) ?_ ⟨_, rfl, rfl, Below.refl _ _, hG⟩; simp [slotOf] at h40; simp [execOp, go_sem, h40, hcne]
        ·intro a W hG hR hO hp; have h41 : slotOf a 41 = .pointer (some ⟨b1, o1, none⟩) := hp.1; have c0 := keep_cell cy hG; refine wp_yields (v := .slice y0.a n y0.cp) ?_ ⟨_, rfl, rfl, Below.refl _ _, hG⟩; simp [slotOf] at h41; simp [execOp, go_sem, h41, c0]
        ·intro a W hG hR hO hp; have h42 : slotOf a 42 = .slice y0.a n y0.cp := hp.1; refine wp_yields (v := .int .i64 n) ?_ ⟨_, rfl, rfl, Below.refl _ _, hG⟩; simp [slotOf] at h42; simp [go_sem, h42]
        ·intro a W hG hR hO hp; have h38 : slotOf a 38 = .int .i64 x.beds.length := hp.1; have h43 : slotOf a 43 = .int .i64 n := hp.2.1; refine wp_yields (v := .bool true) ?_ ⟨_, rfl, rfl, Below.refl _ _, hG⟩; simp [slotOf] at h38 h43; simp [execOp, go_sem, h38, h43, hne]
       ·intro W hG hR
        rintro _ rfl _ rfl _ rfl _ rfl _ rfl _ rfl _ rfl _ rfl _ rfl _ rfl _ rfl _ rfl _ rfl _ rfl _ rfl _ rfl _ rfl _ rfl _ rfl _ rfl _ rfl
        change wpList _ _ _ _ _ _
        simp only [Act.put, List.setIfInBounds_toArray, List.set_cons_zero, List.set_cons_succ, List.drop_succ_cons, List.drop_zero]
        have HE2 := Lib.hid (newer_trans HE.out.1 hG)
        clear hG hR cy cx x0
        go_wp2_with fail
        go_ret
        exact ⟨rfl, HE2.out⟩
    ·obtain rfl : k = s.cs.length := by omega
     have hrf := HT.out HE.out.2.2.2
     subst hrf
     go_wp2_with fail
     go_ret
     exact ⟨rfl, HE.out.1⟩
end

section
open Go.RowKit Go.Shelf Go.Deep
structure CvJ (s : Sm) (i : Nat) (xs : List Cl) (A : Option Addr) (c : Nat) (w W : World) : Prop where
 nw : newer w W
 xb : Whole W w.heap.size 24 (smC s)
 rb : Whole W (w.heap.size + 1) 48 #[.slice none 0 0, vi 0]
 ob : Whole W (w.heap.size + 1 + 1) 48 #[.slice A xs.length c, vi s.least]
 own : W.ownsRow w.heap.size 92 1 (.slice A xs.length c) xs.length (xs.flatMap clL)
 col : ∀ x ∈ xs, W.ownsRow w.heap.size 91 8 (.slice x.a x.beds.length x.cp) x.beds.length (x.beds.flatMap bdL)
 eq : xs.map (fun x => x.beds) = (s.cs.take i).map fun x => x.beds
 ln : xs.length = i
section
variable {s : Sm} {i : Nat} {xs : List Cl} {A : Option Addr} {c : Nat} {w W W' : World}
theorem CvJ.next (h : CvJ s i xs A c w W) (hb : newer W W') : CvJ s i xs A c w W' :=
 ⟨newer_trans h.nw hb, h.xb.below hb h.xb.lt, h.rb.below hb h.rb.lt, h.ob.below hb h.ob.lt, own_below h.own hb, fun x hx => own_below (h.col x hx) hb, h.eq, h.ln⟩
theorem CvJ.add (h : CvJ s i xs A c w W) {x y : Cl} (hx : s.cs[i]? = some x) (hy : y.beds = x.beds) (hc : W.ownsRow w.heap.size 91 8 (.slice y.a y.beds.length y.cp) y.beds.length (y.beds.flatMap bdL))
  {g2 c2 : Nat} (hown : W'.ownsRow w.heap.size 92 1 (.slice (some ⟨g2, 0, none⟩) (xs.length + 1) c2) (xs.length + 1) (xs.flatMap clL ++ [clV y])) (hw : (A = some ⟨g2, 0, none⟩ /\ c2 = c /\ W.grownBy W' (some g2)) ∨ (W.heap.size <= g2 /\ W.grownBy W' none)) :
  Whole W' (w.heap.size + 1 + 1) 48 #[.slice A xs.length c, vi s.least] /\ CvJ s (i + 1) (xs ++ [y]) (some ⟨g2, 0, none⟩) c2 w (W'.setCell ⟨w.heap.size + 1 + 1, 0, none⟩ (.slice (some ⟨g2, 0, none⟩) (xs.length + 1) c2)) := by
 have hgr : W.grownBy W' (Value.slice A xs.length c).ownBlock := by
  rcases hw with ⟨h1, _, h3⟩ | ⟨_, h3⟩
  ·rw [h1]; exact h3
  ·exact h3.but _
 have k1 := h.xb.grown hgr (fun e => own_ne h.own h.xb (by decide) e.symm)
 have k2 := h.rb.grown hgr (fun e => own_ne h.own h.rb (by decide) e.symm)
 have k3 := h.ob.grown hgr (fun e => own_ne h.own h.ob (by decide) e.symm)
 have k4 : ∀ z : Cl, W.ownsRow w.heap.size 91 8 (.slice z.a z.beds.length z.cp) z.beds.length (z.beds.flatMap bdL) -> W'.ownsRow w.heap.size 91 8 (.slice z.a z.beds.length z.cp) z.beds.length (z.beds.flatMap bdL) := fun z h2 => h2.kept hgr (own_apart h2 h.own (by decide))
 have hnw : newer w W' := by
  rcases hw with ⟨h1, _, h3⟩ | ⟨_, h3⟩
  ·refine Below.trans h.nw (below_of_grown h3 (own_ge h.own g2 (by rw [h1]; rfl)) h.nw.size)
  ·exact newer_trans h.nw (below_grown h3 (fun q e => by cases e) (Nat.le_refl _))
 refine ⟨k3, hnw.setCell (p := ⟨w.heap.size + 1 + 1, 0, none⟩) (by show w.heap.size <= w.heap.size + 1 + 1; omega) _, k1.far (p := ⟨w.heap.size + 1 + 1, 0, none⟩) (by show w.heap.size ≠ w.heap.size + 1 + 1; omega) _, k2.far (p := ⟨w.heap.size + 1 + 1, 0, none⟩) (by show w.heap.size + 1 ≠ w.heap.size + 1 + 1; omega) _, ?_, ?_, fun z hz => ?_, ?_, by rw [List.length_append, h.ln]; rfl⟩
 ·rw [List.length_append]
  exact k3.set 0 _
 ·rw [List.length_append, List.flatMap_append]
  exact own_set hown (own_ne hown k3 (by decide)) _
 ·rcases List.mem_append.1 hz with hz | hz
  ·have h3 := k4 z (h.col z hz)
   exact own_set h3 (own_ne h3 k3 (by decide)) _
  ·obtain rfl : z = y := List.mem_singleton.1 hz
   have h3 := k4 z hc
   exact own_set h3 (own_ne h3 k3 (by decide)) _
 ·rw [List.map_append, h.eq, List.take_add_one, hx, List.map_append]
  congr 1
  simp [hy]
theorem CvJ.done (h : CvJ s s.cs.length xs A c w W) (u v : Value) : SmOk ⟨xs, A, c, s.least⟩ ((W.setCell ⟨w.heap.size + 1, 0, none⟩ u).setCell ⟨w.heap.size + 1, 1, none⟩ v) /\ Sm.sd ⟨xs, A, c, s.least⟩ = s.sd /\ newer w ((W.setCell ⟨w.heap.size + 1, 0, none⟩ u).setCell ⟨w.heap.size + 1, 1, none⟩ v) /\ Whole ((W.setCell ⟨w.heap.size + 1, 0, none⟩ u).setCell ⟨w.heap.size + 1, 1, none⟩ v) (w.heap.size + 1) 48 #[u, v] := by
 refine ⟨⟨?_, fun x hx => ?_⟩, ?_, (h.nw.setCell (p := ⟨w.heap.size + 1, 0, none⟩) (Nat.le_succ _) u).setCell (p := ⟨w.heap.size + 1, 1, none⟩) (Nat.le_succ _) v, (h.rb.set 0 u).set 1 v⟩
 ·exact row_of_own (by omega) (fun _ => rfl) (own_set (own_set h.own (own_ne h.own h.rb (by decide)) u) (own_ne h.own h.rb (by decide)) v)
 ·have h2 := h.col x hx
  exact row_of_own (by omega) (fun _ => rfl) (own_set (own_set h2 (own_ne h2 h.rb (by decide)) u) (own_ne h2 h.rb (by decide)) v)
 ·have e := h.eq
  rw [List.take_length] at e
  show (⟨xs.map (fun x => x.beds), s.least⟩ : Sd) = ⟨s.cs.map fun x => x.beds, s.least⟩
  rw [e]
end
set_option maxRecDepth 100000 in
set_option maxHeartbeats 2000000 in
theorem lawSlope (s : Sm) (w : World) (hok : SmOk s w) (few : SmFew s) : Calls Tryz.prog 11 #[smV s] w fun e w' => ∃ s2 : Sm, e = .returned (smV s2) /\ s2.sd = s.sd /\ SmOk s2 w' /\ newer w w' := by
 have H0 : Hid (CvJ s 0 [] none 0 w (((w.alloc (.cells (smC s) 24)).alloc (.cells #[.slice none 0 0, vi 0] 48)).alloc (.cells #[.slice none 0 0, vi s.least] 48))) := Lib.hid (by
  have e1 := newer_allocH w (.cells (smC s) 24)
  have e2 := newer_allocH (w.alloc (.cells (smC s) 24)) (.cells #[.slice none 0 0, vi 0] 48)
  have e3 := newer_allocH ((w.alloc (.cells (smC s) 24)).alloc (.cells #[.slice none 0 0, vi 0] 48)) (.cells #[.slice none 0 0, vi s.least] 48)
  have a1 := Whole.made w 24 (smC s)
  have a2 := Whole.made (w.alloc (.cells (smC s) 24)) 48 #[.slice none 0 0, vi 0]
  have a3 := Whole.made ((w.alloc (.cells (smC s) 24)).alloc (.cells #[.slice none 0 0, vi 0] 48)) 48 #[.slice none 0 0, vi s.least]
  rw [World.size_alloc] at a2
  rw [World.size_alloc, World.size_alloc] at a3
  exact ⟨newer_trans (newer_trans e1 e2) e3, (a1.below e2 a1.lt).below e3 (by simp; omega), a2.below e3 a2.lt, a3, ⟨rfl, .inl ⟨rfl, rfl⟩⟩, fun x hx => by simp at hx, rfl, rfl⟩)
 have HOK := Lib.hid hok
 have HFW := Lib.hid few
 have hcl := few.cs
 obtain ⟨i0, hi0, hz0, hz1, hz2⟩ := info_parts info_col
 have HI := Lib.hid (And.intro hi0 (And.intro hz0 (And.intro hz1 hz2)))
 obtain ⟨i8, hj0, hy0, hy1, hy2⟩ := info_parts info_bd
 have HI8 := Lib.hid (And.intro hj0 (And.intro hy0 (And.intro hy1 hy2)))
 have x1 := H0.out.xb.at 1 (v := vi s.least) rfl
 clear hok few hi0 hz0 hz1 hz2 hj0 hy0 hy1 hy2
 go_enter Tryz.func11, Tryz.ntmps11
 go_wp2_with fail
 clear x1
 go_loopw [4] (fun s4 wr => ∃ (i : Nat) (xs : List Cl) (A : Option Addr) (c : Nat), i <= s.cs.length /\ s4 = vi i /\ CvJ s i xs A c w wr) (fun s4 _ => s.cs.length - (intOf s4).toNat)
 case atStart => exact ⟨0, [], none, 0, Nat.zero_le _, rfl, H0.out⟩
 case round =>
  obtain ⟨i, xs, A, c, hi, rfl, hj⟩ := hrel
  clear H0
  have HJ := Lib.hid hj
  have x0 := hj.xb.at 0 (v := .slice s.a s.cs.length s.c) rfl
  clear hj
  obtain ⟨wo, rfl⟩ : ∃ wo : World, wo = wr := ⟨_, rfl⟩
  by_cases hlt : i < s.cs.length
  ·obtain ⟨x, hx⟩ := get_of_lt hlt
   have hxn := HFW.out.bd x (List.mem_of_getElem? hx)
   have HX := Lib.hid (And.intro hx (List.mem_of_getElem? hx))
   obtain ⟨b1, o1, ea, _, cx⟩ := rowC (HOK.out.next HJ.out.nw).cs hx
   have HEA := Lib.hid (And.intro ea cx)
   clear hx cx ea
   go_wp2_with fail
   go_loopw [5, 6] (fun s5 s6 wr => ∃ (j : Nat) (A2 : Option Addr) (c2 : Nat), j <= x.beds.length /\ s6 = vi j /\ s5 = .slice A2 j c2 /\ newer wo wr /\ wr.ownsRow wo.heap.size 91 8 (.slice A2 j c2) j ((x.beds.take j).flatMap bdL)) (fun _ s6 _ => x.beds.length - (intOf s6).toNat)
   case atStart => exact ⟨0, none, 0, Nat.zero_le _, rfl, rfl, Below.refl _ _, ⟨rfl, .inl ⟨rfl, rfl⟩⟩⟩
   case round =>
    obtain ⟨j, A2, c2, hj, rfl, rfl, q1, q2⟩ := hrel
    clear x0
    have hj2 := HJ.out.next q1
    have HJ2 := Lib.hid hj2
    have x0 := hj2.xb.at 0 (v := .slice s.a s.cs.length s.c) rfl
    rw [HEA.out.1] at x0
    have cx := keep_cell HEA.out.2 q1
    have hii : (i : Int) < s.cs.length := by omega
    have HQ := Lib.hid (And.intro q1 q2)
    clear hj2 q1 q2
    by_cases hlt2 : j < x.beds.length
    ·obtain ⟨b, hb⟩ := get_of_lt hlt2
     obtain ⟨b4, o4, e4, _, d0, d1, d2, d3, d4, d5, d6, d7⟩ := row8 ((HOK.out.next HJ2.out.nw).bd x HX.out.2) hb
     rw [e4] at cx
     have hji : (j : Int) < x.beds.length := by omega
     have HB := Lib.hid hb
     have e5 := newer_allocH wr (.cells (bdC b) 40)
     have HE4 := Lib.hid (And.intro (newer_trans HQ.out.1 e5) (And.intro (own_below HQ.out.2 e5) (Whole.made wr 40 (bdC b))))
     clear hb e4 e5
     go_upto_region 10 with fail
     refine genQ (fun X => newer wo X /\ X.ownsRow wo.heap.size 91 8 (.slice A2 j c2) j ((x.beds.take j).flatMap bdL) /\ Whole X wr.heap.size 40 (bdC b)) HE4.out ?_
     clear HE4 d0 d1 d2 d3 d4 d5 d6 d7 cx x0
     obtain ⟨bb, hbb⟩ : ∃ bb, bb = wr.heap.size := ⟨_, rfl⟩
     rw [<- hbb]
     rintro w5 ⟨p1, p2, p4⟩
     have z0 := p4.at 0 (v := vi b.drive) rfl
     have z1 := p4.at 1 (v := vi b.normal) rfl
     have z2 := p4.at 2 (v := vi b.fr.lo) rfl
     have z3 := p4.at 3 (v := vi b.fr.hi) rfl
     have z4 := p4.at 4 (v := vi b.co.lo) rfl
     have z5 := p4.at 5 (v := vi b.co.hi) rfl
     have z6 := p4.at 6 (v := vi b.wa.lo) rfl
     have z7 := p4.at 7 (v := vi b.wa.hi) rfl
     have HE5 := Lib.hid (And.intro p1 p2)
     clear p1 p2 p4 hbb
     refine wp_words (by kernel_rfl) (region_told 16 (by kernel_rfl) (by kernel_rfl) (fun W => Below w5.heap.size w5 W) newer (pickD [vIs (.slice A2 j c2), vIs (.pointer (some ⟨bb, 0, none⟩)), vIs (vi b.drive), vIs (.pointer (some ⟨bb, 1, none⟩)), vIs (vi b.normal), vIs (.pointer (some ⟨bb, 2, none⟩)), vIs (rgV b.fr), vIs (rgV b.fr), vIs (.pointer (some ⟨bb, 4, none⟩)), vIs (rgV b.co), vIs (rgV b.co), vIs (.pointer (some ⟨bb, 6, none⟩)), vIs (rgV b.wa), vIs (rgV b.wa), vIs (bdV b), vOne w5.heap.size 91 (bdC b)]) (fun h k => newer_trans h k) (pickD_stable _ ⟨vIs_st, vIs_st, vIs_st, vIs_st, vIs_st, vIs_st, vIs_st, vIs_st, vIs_st, vIs_st, vIs_st, vIs_st, vIs_st, vIs_st, vIs_st, vOne_st, trivial⟩) (Below.refl _ w5).drew (Below.refl _ _) ?_ ?_)
     ·refine ⟨?_, ?_, ?_, ?_, ?_, ?_, ?_, ?_, ?_, ?_, ?_, ?_, ?_, ?_, ?_, ?_, trivial⟩
      ·intro a W hG hR hO hp; have h5 := hO.slot 5 (by kernel_rfl); refine wp_yields (v := .slice A2 j c2) ?_ ⟨_, rfl, rfl, Below.refl _ _, hG⟩; simp [slotOf] at h5; simp [execOp, go_sem, h5]
      ·intro a W hG hR hO hp; have h7 := hO.slot 7 (by kernel_rfl); refine wp_yields (v := .pointer (some ⟨bb, 0, none⟩)) ?_ ⟨_, rfl, rfl, Below.refl _ _, hG⟩; simp [slotOf] at h7; simp [execOp, go_sem, h7]
      ·intro a W hG hR hO hp; have h37 : slotOf a 37 = .pointer (some ⟨bb, 0, none⟩) := hp.1; have c0 := keep_cell z0 hG; refine wp_yields (v := vi b.drive) ?_ ⟨_, rfl, rfl, Below.refl _ _, hG⟩; simp [slotOf] at h37; simp [execOp, go_sem, h37, c0]
      ·intro a W hG hR hO hp; have h7 := hO.slot 7 (by kernel_rfl); refine wp_yields (v := .pointer (some ⟨bb, 1, none⟩)) ?_ ⟨_, rfl, rfl, Below.refl _ _, hG⟩; simp [slotOf] at h7; simp [execOp, go_sem, h7]
      ·intro a W hG hR hO hp; have h39 : slotOf a 39 = .pointer (some ⟨bb, 1, none⟩) := hp.1; have c0 := keep_cell z1 hG; refine wp_yields (v := vi b.normal) ?_ ⟨_, rfl, rfl, Below.refl _ _, hG⟩; simp [slotOf] at h39; simp [execOp, go_sem, h39, c0]
      ·intro a W hG hR hO hp; have h7 := hO.slot 7 (by kernel_rfl); refine wp_yields (v := .pointer (some ⟨bb, 2, none⟩)) ?_ ⟨_, rfl, rfl, Below.refl _ _, hG⟩; simp [slotOf] at h7; simp [execOp, go_sem, h7]
      ·intro a W hG hR hO hp; have h41 : slotOf a 41 = .pointer (some ⟨bb, 2, none⟩) := hp.1; have c0 := keep_cell z2 hG; have c1 := keep_cell z3 hG; refine wp_yields (v := rgV b.fr) ?_ ⟨_, rfl, rfl, Below.refl _ _, hG⟩; simp [slotOf] at h41; simp [execOp, go_sem, h41, c0, c1]
      ·intro a W hG hR hO hp
       have h42 : slotOf a 42 = rgV b.fr := hp.1
       refine wp_enters (f := 33) (args := #[rgV b.fr]) ?_ ((to_any b.fr W).mono ?_)
       ·simp [slotOf] at h42
        simp [go_sem, h42]
       ·rintro e w' ⟨rfl, hb⟩
        exact ⟨_, rfl, _, rfl, rfl, hb, below_next hG hb⟩
      ·intro a W hG hR hO hp; have h7 := hO.slot 7 (by kernel_rfl); refine wp_yields (v := .pointer (some ⟨bb, 4, none⟩)) ?_ ⟨_, rfl, rfl, Below.refl _ _, hG⟩; simp [slotOf] at h7; simp [execOp, go_sem, h7]
      ·intro a W hG hR hO hp; have h44 : slotOf a 44 = .pointer (some ⟨bb, 4, none⟩) := hp.1; have c0 := keep_cell z4 hG; have c1 := keep_cell z5 hG; refine wp_yields (v := rgV b.co) ?_ ⟨_, rfl, rfl, Below.refl _ _, hG⟩; simp [slotOf] at h44; simp [execOp, go_sem, h44, c0, c1]
      ·intro a W hG hR hO hp
       have h45 : slotOf a 45 = rgV b.co := hp.1
       refine wp_enters (f := 33) (args := #[rgV b.co]) ?_ ((to_any b.co W).mono ?_)
       ·simp [slotOf] at h45
        simp [go_sem, h45]
       ·rintro e w' ⟨rfl, hb⟩
        exact ⟨_, rfl, _, rfl, rfl, hb, below_next hG hb⟩
      ·intro a W hG hR hO hp; have h7 := hO.slot 7 (by kernel_rfl); refine wp_yields (v := .pointer (some ⟨bb, 6, none⟩)) ?_ ⟨_, rfl, rfl, Below.refl _ _, hG⟩; simp [slotOf] at h7; simp [execOp, go_sem, h7]
      ·intro a W hG hR hO hp; have h47 : slotOf a 47 = .pointer (some ⟨bb, 6, none⟩) := hp.1; have c0 := keep_cell z6 hG; have c1 := keep_cell z7 hG; refine wp_yields (v := rgV b.wa) ?_ ⟨_, rfl, rfl, Below.refl _ _, hG⟩; simp [slotOf] at h47; simp [execOp, go_sem, h47, c0, c1]
      ·intro a W hG hR hO hp
       have h48 : slotOf a 48 = rgV b.wa := hp.1
       refine wp_enters (f := 33) (args := #[rgV b.wa]) ?_ ((to_any b.wa W).mono ?_)
       ·simp [slotOf] at h48
        simp [go_sem, h48]
       ·rintro e w' ⟨rfl, hb⟩
        exact ⟨_, rfl, _, rfl, rfl, hb, below_next hG hb⟩
      ·intro a W hG hR hO hp; have h38 : slotOf a 38 = vi b.drive := hp.1; have h40 : slotOf a 40 = vi b.normal := hp.2.1; have h43 : slotOf a 43 = rgV b.fr := hp.2.2.1; have h46 : slotOf a 46 = rgV b.co := hp.2.2.2.1; have h49 : slotOf a 49 = rgV b.wa := hp.2.2.2.2.1; refine wp_yields (v := bdV b) ?_ ⟨_, rfl, rfl, Below.refl _ _, hG⟩; simp [slotOf] at h38 h40 h43 h46 h49; simp [execOp, go_sem, h38, h40, h43, h46, h49]
      ·intro a W hG hR hO hp; have h50 : slotOf a 50 = bdV b := hp.1; refine wp_makes (v := .slice (some ⟨W.heap.size, 0, none⟩) 1 1) (W' := W.alloc (.cells (bdC b) 91)) ?_ ⟨_, rfl, ⟨_, rfl, hG.size, Whole.made _ _ _⟩, newer_allocH _ _, below_next hG (newer_allocH _ _)⟩; simp [slotOf] at h50; simp [execOp, go_sem, h50]
     ·intro wz hG hR
      rintro _ rfl _ rfl _ rfl _ rfl _ rfl _ rfl _ rfl _ rfl _ rfl _ rfl _ rfl _ rfl _ rfl _ rfl _ rfl _ ⟨nb, rfl, hnb, hW⟩
      change wpList _ _ _ _ _ _
      simp only [Act.put, List.setIfInBounds_toArray, List.set_cons_zero, List.set_cons_succ, List.drop_succ_cons, List.drop_zero]
      have HO := Lib.hid (own_below HE5.out.2 hG)
      have HN := Lib.hid (newer_trans HE5.out.1 hG)
      have HWN := Lib.hid (World.news_of_block hW)
      clear hG hR hW z0 z1 z2 z3 z4 z5 z6 z7
      go_wp2_with (at_builtin; go_loud ((refine wpList_append_lies _ rfl (.tmp 36) (.tmp 51) 92 rfl wo.heap.size 91 i8 (.agg #[vi 0, vi 0, vi 0, vi 0, vi 0, vi 0, vi 0, vi 0]) 8 64 Tryz.underlying92 HI8.out.1 HI8.out.2.1 HI8.out.2.2.1 HI8.out.2.2.2 rfl (by omega) _ j _ rfl HO.out ⟨nb, 0, none⟩ 1 1 (bdL b) rfl rfl HWN.out (by simp [Value.oneCell']) (by omega) (by unfold maxLen; omega) (by omega) HN.out.size wz.heap.size rfl ?_); intro gg cp2 w2 hown2 hgrow2 hat2 hlt3; rw [<- take_flat bdL _ j b HB.out] at hown2; have HE := Lib.hid (And.intro hown2 (And.intro hgrow2 (own_ge HO.out))); clear hown2 hgrow2 hat2 hlt3))
      refine ⟨⟨j + 1, some ⟨gg, 0, none⟩, cp2, by omega, rfl, rfl, ?_, HE.out.1⟩, ?_⟩
      ·exact below_grown (grown_trans' (grown_of_newer HN.out _) HE.out.2.1) HE.out.2.2 (Nat.le_refl _)
      ·simp [intOf]
       omega
    ·obtain rfl : j = x.beds.length := by omega
     have hown := HQ.out.2
     rw [List.take_of_length_le (Nat.le_refl _)] at hown
     obtain ⟨y, hy⟩ : ∃ y : Cl, y = ⟨x.beds, A2, c2⟩ := ⟨_, rfl⟩
     have hn1 := newer_allocH wr (.cells #[.slice A2 x.beds.length c2] 92)
     have hcy : clV y = .slice A2 x.beds.length c2 := by rw [hy]
     have HADD := Lib.hid (fun g2 c3 w5 => (HJ2.out.next hn1).add (W' := w5) HX.out.1 (y := y) (by rw [hy]) (by rw [hy]; exact own_more (own_below hown hn1) HJ.out.nw.size) (g2 := g2) (c2 := c3))
     have HJ3 := Lib.hid (HJ2.out.next hn1)
     have HXS := Lib.hid (show xs.length <= 1000 by have := HJ.out.ln; omega)
     have HCW : Hid ((wr.alloc (.cells #[.slice A2 x.beds.length c2] 92)).cell? ⟨wr.heap.size, 0, none⟩ = some (.slice A2 x.beds.length c2)) := Lib.hid ((Whole.made wr 92 #[.slice A2 x.beds.length c2]).at 0 rfl)
     rw [hcy] at HADD
     have o0 := HJ2.out.ob.at 0 (v := .slice A xs.length c) rfl
     clear hown hn1 hcy hy
     go_wp2_with (at_builtin; go_loud ((refine wpList_plain rfl fun _ hK => wp_append_one (.tmp 54) (.tmp 56) 46 rfl w.heap.size 92 i0 (.slice none 0 0) 24 Tryz.underlying46 HI.out.1 HI.out.2.1 HI.out.2.2.1 HI.out.2.2.2 rfl A xs.length c (xs.flatMap clL) rfl HJ3.out.own ⟨wr.heap.size, 0, none⟩ 1 (.slice A2 x.beds.length c2) rfl HCW.out rfl (by have := HXS.out; unfold maxLen; omega) (by have := HXS.out; omega) HJ3.out.nw.size fun g2 c3 w5 hown hwh => hK _ _ ?_); have HE := Lib.hid (HADD.out g2 c3 w5 hown hwh); have p0 := HE.out.1.at 0 (v := .slice A xs.length c) rfl; have pf0 := HE.out.1.free 0; clear hown hwh))
     refine ⟨⟨i + 1, xs ++ [y], some ⟨g2, 0, none⟩, c3, by omega, rfl, HE.out.2⟩, ?_⟩
     simp [intOf]
     omega
  ·obtain rfl : i = s.cs.length := by omega
   have o0 := HJ.out.ob.at 0 (v := .slice A xs.length c) rfl
   have o1 := HJ.out.ob.at 1 (v := vi s.least) rfl
   have r0 := HJ.out.rb.at 0 (v := .slice none 0 0) rfl
   have r1 := HJ.out.rb.at 1 (v := vi 0) rfl
   have f0 := HJ.out.rb.free 0
   have f1 := HJ.out.rb.free 1
   have HF := Lib.hid (HJ.out.done (.slice A xs.length c) (vi s.least))
   have z0 := HF.out.2.2.2.at 0 (v := .slice A xs.length c) rfl
   have z1 := HF.out.2.2.2.at 1 (v := vi s.least) rfl
   go_wp2_with fail
   exact bodyPost_ret (v := .agg #[.slice A xs.length c, vi s.least]) (by simp [results, Tryz.results11, go_sem, z0, z1]) rfl ⟨⟨xs, A, c, s.least⟩, rfl, HF.out.2.1, HF.out.1, HF.out.2.2.1⟩
end

section
open Go.RowKit Go.Shelf Go.Deep
def vLis (B : Nat) (l : List Int) (v : Value) (W : World) : Prop := ∃ A c, v = .slice A l.length c /\ Row intL 1 W W.heap.size A l /\ ∀ a, A = some a -> B <= a.block
theorem vLis_st {B : Nat} {l : List Int} : ∀ v W W', vLis B l v W -> newer W W' -> vLis B l v W' := fun _ _ _ ⟨A, c, h1, h2, h3⟩ hb => ⟨A, c, h1, (h2.below hb).more hb.size, h3⟩
def vSur (B : Nat) (frm : Int) (l : List Int) (v : Value) (W : World) : Prop := ∃ A c, v = .agg #[vi frm, .slice A l.length c] /\ Row intL 1 W W.heap.size A l /\ ∀ a, A = some a -> B <= a.block
theorem vSur_st {B : Nat} {frm : Int} {l : List Int} : ∀ v W W', vSur B frm l v W -> newer W W' -> vSur B frm l v W' := fun _ _ _ ⟨A, c, h1, h2, h3⟩ hb => ⟨A, c, h1, (h2.below hb).more hb.size, h3⟩
theorem row_far {W : World} {B : Nat} {A : Option Addr} {l : List Int} {b i : Nat} (h : Row intL 1 W B A l) (hne : ∀ a, A = some a -> l ≠ [] -> a.block ≠ b) (u : Value) : Row intL 1 (W.setCell ⟨b, i, none⟩ u) B A l := by
 intro hl
 obtain ⟨g, off, e, hb, hc⟩ := h hl
 refine ⟨g, off, e, hb, fun k x hk j v hj => ?_⟩
 have h1 := hne _ e hl
 have e2 : (W.setCell ⟨b, i, none⟩ u).heap[g]? = W.heap[g]? := Below.heap_setCell W ⟨b, i, none⟩ u g h1
 exact (cell_of_same e2 _).trans (hc k x hk j v hj)
set_option maxRecDepth 100000 in
set_option maxHeartbeats 2000000 in
theorem lawSurface (u : Su) (w : World) (hu : SuOk u w) (hul : u.beds.length <= 1000) : Calls Tryz.prog 21 #[suV u] w fun e w' => ∃ u2 : Su, e = .returned (suV u2) /\ u2.frm = u.frm /\ u2.beds = u.beds /\ SuOk u2 w' /\ newer w w' := by
 have e1 := newer_allocH w (.cells (suC u) 69)
 have e2 := newer_allocH (w.alloc (.cells (suC u) 69)) (.cells #[vi 0, .slice none 0 0] 72)
 have a1 := Whole.made w 69 (suC u)
 have a2 := Whole.made (w.alloc (.cells (suC u) 69)) 72 #[vi 0, .slice none 0 0]
 rw [World.size_alloc] at a2
 have H0 := Lib.hid (And.intro (newer_trans e1 e2) (And.intro (a1.below e2 a1.lt) a2))
 have HUW := Lib.hid (hu.next (newer_trans e1 e2))
 clear e1 e2 a1 a2 hu
 go_enter Tryz.func21, Tryz.ntmps21
 go_upto_region 1 with fail
 refine genQ (fun X => newer w X /\ Whole X w.heap.size 69 (suC u) /\ Whole X (w.heap.size + 1) 72 #[vi 0, .slice none 0 0] /\ SuOk u X) ⟨H0.out.1, H0.out.2.1, H0.out.2.2, HUW.out⟩ ?_
 clear H0 HUW
 rintro w2 ⟨p1, p2, p3, p4⟩
 have u0 := p2.at 0 (v := vi u.frm) rfl
 have u1 := p2.at 1 (v := .slice u.a u.beds.length u.c) rfl
 have HU := Lib.hid (show Row intL 1 w2 w2.heap.size u.a u.beds from p4)
 have H2 := Lib.hid (And.intro p1 p3)
 clear p1 p2 p3 p4
 refine wp_words (by kernel_rfl) (region_told 6 (by kernel_rfl) (by kernel_rfl) (fun W => Below w2.heap.size w2 W) newer (pickD [vIs (.pointer (some ⟨w.heap.size, 0, none⟩)), vIs (vi u.frm), vIs (.pointer (some ⟨w.heap.size, 1, none⟩)), vIs (.slice u.a u.beds.length u.c), vLis w2.heap.size u.beds, vSur w2.heap.size u.frm u.beds]) (fun h k => newer_trans h k) (pickD_stable _ ⟨vIs_st, vIs_st, vIs_st, vIs_st, vLis_st, vSur_st, trivial⟩) (Below.refl _ w2).drew (Below.refl _ _) ?_ ?_)
 ·refine ⟨?_, ?_, ?_, ?_, ?_, ?_, trivial⟩
  ·intro a W hG hR hO hp; have h1 := hO.slot 1 (by kernel_rfl); refine wp_yields (v := .pointer (some ⟨w.heap.size, 0, none⟩)) ?_ ⟨_, rfl, rfl, Below.refl _ _, hG⟩; simp [slotOf] at h1; simp [execOp, go_sem, h1]
  ·intro a W hG hR hO hp; have h3 : slotOf a 3 = .pointer (some ⟨w.heap.size, 0, none⟩) := hp.1; have c0 := keep_cell u0 hG; refine wp_yields (v := vi u.frm) ?_ ⟨_, rfl, rfl, Below.refl _ _, hG⟩; simp [slotOf] at h3; simp [execOp, go_sem, h3, c0]
  ·intro a W hG hR hO hp; have h1 := hO.slot 1 (by kernel_rfl); refine wp_yields (v := .pointer (some ⟨w.heap.size, 1, none⟩)) ?_ ⟨_, rfl, rfl, Below.refl _ _, hG⟩; simp [slotOf] at h1; simp [execOp, go_sem, h1]
  ·intro a W hG hR hO hp; have h5 : slotOf a 5 = .pointer (some ⟨w.heap.size, 1, none⟩) := hp.1; have c0 := keep_cell u1 hG; refine wp_yields (v := .slice u.a u.beds.length u.c) ?_ ⟨_, rfl, rfl, Below.refl _ _, hG⟩; simp [slotOf] at h5; simp [execOp, go_sem, h5, c0]
  ·intro a W hG hR hO hp
   have h6 : slotOf a 6 = .slice u.a u.beds.length u.c := hp.1
   refine wp_enters (f := 54) (args := #[.slice u.a u.beds.length u.c]) ?_ ((lawList u.beds u.a u.c W hul ((HU.out.below hG).more hG.size)).mono ?_)
   ·simp [slotOf] at h6
    simp [go_sem, h6]
   ·rintro e w' ⟨A, c, rfl, _, hr, hb, hge⟩
    exact ⟨_, rfl, _, rfl, ⟨A, c, rfl, hr, fun a e => Nat.le_trans hG.size (hge a e)⟩, hb, below_next hG hb⟩
  ·intro a W hG hR hO hp; have h4 : slotOf a 4 = vi u.frm := hp.1; have h7 := hp.2.1; obtain ⟨A, c, h7, hrow, hge⟩ := h7; refine wp_yields (v := .agg #[vi u.frm, .slice A u.beds.length c]) ?_ ⟨_, rfl, ⟨A, c, rfl, hrow, hge⟩, Below.refl _ _, hG⟩; simp [slotOf] at h4 h7; simp [execOp, go_sem, h4, h7]
 ·intro wz hG hR
  rintro _ rfl _ rfl _ rfl _ rfl _ - _ ⟨A, c, rfl, hrow, hge⟩
  change wpList _ _ _ _ _ _
  simp only [Act.put, List.setIfInBounds_toArray, List.set_cons_zero, List.set_cons_succ, List.drop_succ_cons, List.drop_zero]
  have hr := H2.out.2.below hG H2.out.2.lt
  have r0 := hr.at 0 (v := vi 0) rfl
  have r1 := hr.at 1 (v := .slice none 0 0) rfl
  have f0 := hr.free 0
  have f1 := hr.free 1
  have hset := (hr.set 0 (vi u.frm)).set 1 (.slice A u.beds.length c)
  have z0 := hset.at 0 (v := vi u.frm) rfl
  have z1 := hset.at 1 (v := .slice A u.beds.length c) rfl
  have HF : Hid (Row intL 1 ((wz.setCell ⟨w.heap.size + 1, 0, none⟩ (vi u.frm)).setCell ⟨w.heap.size + 1, 1, none⟩ (.slice A u.beds.length c)) ((wz.setCell ⟨w.heap.size + 1, 0, none⟩ (vi u.frm)).setCell ⟨w.heap.size + 1, 1, none⟩ (.slice A u.beds.length c)).heap.size A u.beds /\ newer w ((wz.setCell ⟨w.heap.size + 1, 0, none⟩ (vi u.frm)).setCell ⟨w.heap.size + 1, 1, none⟩ (.slice A u.beds.length c))) := Lib.hid (by
   have hl := H2.out.2.lt
   have hne : ∀ a, A = some a -> u.beds ≠ [] -> a.block ≠ w.heap.size + 1 := fun a e _ => by have := hge a e; omega
   refine ⟨?_, ((newer_trans H2.out.1 hG).setCell (p := ⟨w.heap.size + 1, 0, none⟩) (Nat.le_succ _) _).setCell (p := ⟨w.heap.size + 1, 1, none⟩) (Nat.le_succ _) _⟩
   exact (row_far (row_far hrow hne _) hne _).more (by simp))
  clear hr hset hrow hge hG hR u0 u1
  go_wp2_with fail
  exact bodyPost_ret (v := .agg #[vi u.frm, .slice A u.beds.length c]) (by simp [results, Tryz.results21, go_sem, z0, z1]) rfl ⟨⟨u.frm, u.beds, A, c⟩, rfl, rfl, rfl, HF.out.1, HF.out.2⟩
end

end Go.Proofs.YtcdhhfgpdokkoaaGreat
