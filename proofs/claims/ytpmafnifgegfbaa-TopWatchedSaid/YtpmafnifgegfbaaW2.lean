/- The states of a post whose gauges read a truth. -/
import Derived.Test.YtpmafnifgegfbaaW1
import Derived.ChangeKeysEq
namespace Go.Proofs.Ytpmafnifgegfbaa
open Go.RowKit Go.Shelf Go.Deep

open Go.ChangeMaps (setBlock)
theorem prV_inj {a b : Int × Int} (h : prV a = prV b) : a = b := by
 obtain ⟨a1, a2⟩ := a
 obtain ⟨b1, b2⟩ := b
 simp at h
 rw [h.1, h.2]
theorem vi_inj {a b : Int} (h : vi a = vi b) : a = b := by
 simp at h
 exact h
theorem map_inj2 {α β : Type} {f : α → β} (hf : ∀ a b, f a = f b → a = b) : ∀ {l l' : List α}, l.map f = l'.map f → l = l'
 | [], [], _ => rfl
 | [], _ :: _, h => by cases h
 | _ :: _, [], h => by cases h
 | a :: l, b :: l', h => by
  rw [List.map_cons, List.map_cons] at h
  injection h with h1 h2
  rw [hf a b h1, map_inj2 hf h2]
theorem KMap.uniq {b : Nat} {l l' : List (Int × Int × Int)} {W : World} (h : KMap vi prV b l W) (h' : KMap vi prV b l' W) : l = l' := by
 obtain ⟨L, n, h1, rfl⟩ := h
 obtain ⟨L', n', h2, rfl⟩ := h'
 have e := h1.at_.symm.trans h2.at_
 injection e with e
 injection e with e _
 have e2 : entS vi prV L = entS vi prV L' := by
  have := congrArg Array.toList e
  simpa using this
 have e3 : L = L' := by
  refine map_inj2 ?_ e2
  rintro ⟨a1, a2, a3⟩ ⟨b1, b2, b3⟩ he
  injection he with k1 k2 k3
  have k1' := vi_inj k1
  have k2' := prV_inj k2
  dsimp only at k1' k2' k3
  rw [k1', k2', k3]
 rw [e3]
theorem KMap.noRow {b : Nat} {l : List (Int × Int × Int)} {W : World} (h : KMap vi prV b l W) (o : Nat) : W.cell? ⟨b, o, none⟩ = none := by
 obtain ⟨L, n, h1, rfl⟩ := h
 unfold World.cell?
 rw [h1.at_]
/-- A row stays when a map turns. -/
theorem row_turned {w W : World} {B mb : Nat} {A : Option Addr} {l : List Int} {m : List (Int × Int × Int)} (h : Row intL 1 w B A l) (hB : B ≤ w.heap.size) (hm : KMap vi prV mb m w) (hg : w.grownBy W (some mb)) : Row intL 1 W B A l := by
 intro hne
 obtain ⟨b, off, e, hb, hc⟩ := h hne
 refine ⟨b, off, e, hb, fun k x hk j v hj => ?_⟩
 have h1 := hc k x hk j v hj
 have hbm : b ≠ mb := by
  rintro rfl
  rw [hm.noRow] at h1
  cases h1
 rw [World.cell?_of_block (hg.block b (by omega) (fun e => hbm (by injection e)))]
 exact h1
theorem eqI (n : Nat) (a b : Int) (W : World) : (Op.equalIn (n + 1) 3 (vi a) (vi b)).run Try.prog W = .ok (a == b) W := by
 simp [Op.equalIn, run_underlying Try.underlying3, go_sem]
theorem eqE (a1 a2 : Int) (W : World) : (Op.equalIn 10000 136 (.agg #[vi a1, vi a2]) (.agg #[vi 1, vi 0])).run Try.prog W = .ok (decide ((a1, a2) = ((1 : Int), (0 : Int)))) W := by
 have hi : Try.prog.info? 3 = some Try.t3 := by kernel_rfl
 have h : ∀ n, (Op.equalIn (n + 2) 136 (.agg #[vi a1, vi a2]) (.agg #[vi 1, vi 0])).run Try.prog W = .ok (decide ((a1, a2) = ((1 : Int), (0 : Int)))) W := by
  intro n
  rw [run_equalIn_array W (n + 1) _ _ Try.underlying136 hi]
  have hs : Try.prog.cellsOf 3 = 1 := by kernel_rfl
  rw [hs]
  simp [Op.eqItems, List.range_succ, part, eqI, go_sem]
  by_cases h1 : a1 = 1 <;> by_cases h2 : a2 = 0 <;> simp [h1, h2]
 exact h 9998
/-- What the rounds of a watch that reads a row hold. -/
structure NxJ (x : Pm) (l : List Int) (A : Option Addr) (c : Nat) (first : Bool) (wb mb D : Nat) (v : Int) (r : Loop) (w W : World) : Prop where
 gr : w.grownBy W (some mb)
 b0 : Whole W w.heap.size 133 #[.pointer (some ⟨wb, 0, none⟩)]
 b1 : Whole W (w.heap.size + 1) 24 #[.slice A l.length c]
 b2 : Whole W (w.heap.size + 1 + 1) 4 #[.bool first]
 b3 : Whole W (w.heap.size + 1 + 1 + 1) 137 #[.func (.func 67) #[pmV x] #[]]
 b4 : Whole W (w.heap.size + 1 + 1 + 1 + 1) 133 #[.pointer (some ⟨wb, 0, none⟩)]
 er : PmAt x W
 rw_ : Row intL 1 W W.heap.size A l
 bx : Whole W wb 187 (waC x mb)
 mp : ∃ m, KMap vi prV mb m W ∧ MayOk v m
 df : W.heap[D]? = some (.deferred (some []))
 lo : W.heap[D + 1]? = some (.loop r)
 so : wb < w.heap.size ∧ mb < w.heap.size ∧ mb ≠ wb ∧ w.heap.size + 5 = D
section
variable {x : Pm} {l : List Int} {A : Option Addr} {c : Nat} {first : Bool} {wb mb D : Nat} {v : Int} {r : Loop} {w W W' : World}
theorem NxJ.wa (h : NxJ x l A c first wb mb D v r w W) : ∃ m, WaIn x wb mb m W ∧ MayOk v m := by
 obtain ⟨m, h1, h2⟩ := h.mp
 exact ⟨m, ⟨h.bx, h1, h.er⟩, h2⟩
theorem NxJ.may (h : NxJ x l A c first wb mb D v r w W) {m : List (Int × Int × Int)} (hm : KMap vi prV mb m W) : MayOk v m := by
 obtain ⟨m', h1, h2⟩ := h.mp
 rw [hm.uniq h1]
 exact h2
theorem NxJ.next (h : NxJ x l A c first wb mb D v r w W) (hb : newer W W') : NxJ x l A c first wb mb D v r w W' := by
 obtain ⟨m, h1, h2⟩ := h.mp
 exact ⟨grown_below h.gr hb, h.b0.below hb h.b0.lt, h.b1.below hb h.b1.lt, h.b2.below hb h.b2.lt, h.b3.below hb h.b3.lt, h.b4.below hb h.b4.lt, h.er.next hb, (h.rw_.below hb).more hb.size, h.bx.below hb h.bx.lt, ⟨m, h1.next hb, h2⟩, (hb.block _ (Array.getElem?_eq_some_iff.1 h.df).1).trans h.df, (hb.block _ (Array.getElem?_eq_some_iff.1 h.lo).1).trans h.lo, h.so⟩
/-- The loop's own block is put. -/
theorem NxJ.put (hok : PmAt x w) (hr : Row intL 1 w w.heap.size A l) (hm : ∃ m, KMap vi prV mb m w) (h : NxJ x l A c first wb mb D v r w W) (r' : Loop) : NxJ x l A c first wb mb D v r' w (W.putObj (D + 1) (.loop r')) := by
 have h3 := h.so
 have hD := (Array.getElem?_eq_some_iff.1 h.lo).1
 obtain ⟨m, h1, h2⟩ := h.mp
 obtain ⟨m0, hm0⟩ := hm
 have hp := grown_putL W (D + 1) (.loop r')
 have ne : ∀ {k : Nat}, k < D → some k ≠ some (D + 1) := fun hk e => by injection e with e; omega
 have hg : w.grownBy (W.putObj (D + 1) (.loop r')) (some mb) := ⟨hp.os.trans h.gr.os, hp.tape.trans h.gr.tape, hp.output.trans h.gr.output, Nat.le_trans h.gr.size hp.size, fun k hk hne => (hp.block k (Nat.lt_of_lt_of_le hk h.gr.size) (ne (by omega))).trans (h.gr.block k hk hne)⟩
 exact ⟨hg, h.b0.grown hp (ne (by omega)), h.b1.grown hp (ne (by omega)), h.b2.grown hp (ne (by omega)), h.b3.grown hp (ne (by omega)), h.b4.grown hp (ne (by omega)), Row.more (row_turned hok (Nat.le_refl _) hm0 hg) hg.size, Row.more (row_turned hr (Nat.le_refl _) hm0 hg) hg.size, h.bx.grown hp (ne (by omega)), ⟨m, h1.same (hp.block mb h1.lt (ne (by omega))), h2⟩, (hp.block D (Array.getElem?_eq_some_iff.1 h.df).1 (by intro e; injection e with e; omega)).trans h.df, World.putObj_heap_same hD, h.so⟩
/-- A block behind all of it turns. -/
theorem NxJ.far (hok : PmAt x w) (hr : Row intL 1 w w.heap.size A l) (hm : ∃ m, KMap vi prV mb m w) (h : NxJ x l A c first wb mb D v r w W) {d : Nat} (hd : D + 1 < d) (hp : W.grownBy W' (some d)) : NxJ x l A c first wb mb D v r w W' := by
 have h3 := h.so
 obtain ⟨m, h1, h2⟩ := h.mp
 obtain ⟨m0, hm0⟩ := hm
 have ne : ∀ {k : Nat}, k < d → some k ≠ some d := fun hk e => by injection e with e; omega
 have hg : w.grownBy W' (some mb) := ⟨hp.os.trans h.gr.os, hp.tape.trans h.gr.tape, hp.output.trans h.gr.output, Nat.le_trans h.gr.size hp.size, fun k hk hne => (hp.block k (Nat.lt_of_lt_of_le hk h.gr.size) (ne (by omega))).trans (h.gr.block k hk hne)⟩
 exact ⟨hg, h.b0.grown hp (ne (by omega)), h.b1.grown hp (ne (by omega)), h.b2.grown hp (ne (by omega)), h.b3.grown hp (ne (by omega)), h.b4.grown hp (ne (by omega)), Row.more (row_turned hok (Nat.le_refl _) hm0 hg) hg.size, Row.more (row_turned hr (Nat.le_refl _) hm0 hg) hg.size, h.bx.grown hp (ne (by omega)), ⟨m, h1.same (hp.block mb h1.lt (ne (by omega))), h2⟩, (hp.block D (Array.getElem?_eq_some_iff.1 h.df).1 (ne (by omega))).trans h.df, (hp.block (D + 1) (Array.getElem?_eq_some_iff.1 h.lo).1 (ne hd)).trans h.lo, h.so⟩
theorem grown_two (W : World) (d : Nat) (a b : Value) : W.grownBy ((W.setCell ⟨d, 0, none⟩ a).setCell ⟨d, 1, none⟩ b) (some d) := grown_set (p := ⟨d, 1, none⟩) (grown_set (p := ⟨d, 0, none⟩) (grown_refl W (some d)) (.inl rfl) a) (.inl rfl) b
theorem whole_two {W : World} {d : Nat} {a b : Value} (h : Whole W d 136 #[a, b]) (a' b' : Value) : Whole ((W.setCell ⟨d, 0, none⟩ a').setCell ⟨d, 1, none⟩ b') d 136 #[a', b'] := (h.set 0 a').set 1 b'
/-- The map turns. -/
theorem NxJ.lay_ (hok : PmAt x w) (hr : Row intL 1 w w.heap.size A l) (hm : ∃ m, KMap vi prV mb m w) (h : NxJ x l A c first wb mb D v r w W) {m' : List (Int × Int × Int)} {v' : Int} (o : Obj) (h1 : KMap vi prV mb m' (setBlock W mb o)) (h2 : MayOk v' m') : NxJ x l A c first wb mb D v' r w (setBlock W mb o) := by
 have h3 := h.so
 obtain ⟨m0, hm0⟩ := hm
 have hp := grown_setBlock W mb o
 have ne : ∀ {k : Nat}, k ≠ mb → some k ≠ some mb := fun hk e => hk (by injection e)
 have hg := grown_trans' h.gr hp
 exact ⟨hg, h.b0.grown hp (ne (by omega)), h.b1.grown hp (ne (by omega)), h.b2.grown hp (ne (by omega)), h.b3.grown hp (ne (by omega)), h.b4.grown hp (ne (by omega)), Row.more (row_turned hok (Nat.le_refl _) hm0 hg) hg.size, Row.more (row_turned hr (Nat.le_refl _) hm0 hg) hg.size, h.bx.grown hp (ne (by omega)), ⟨m', h1, h2⟩, (hp.block D (Array.getElem?_eq_some_iff.1 h.df).1 (ne (by omega))).trans h.df, (hp.block (D + 1) (Array.getElem?_eq_some_iff.1 h.lo).1 (ne (by omega))).trans h.lo, h.so⟩
end

attribute [local go_sem] Oper.semAt_some
def endA (first : Bool) (y : Int × Int) : Int × Int := if first then y else (y.1 - 60, y.2 + 60)
set_option maxRecDepth 100000 in
set_option maxHeartbeats 2000000 in
theorem next_any (x : Pm) (l : List Int) (A : Option Addr) (c : Nat) (first : Bool) (wb mb : Nat) (v v' : Int) (w : World) (hp : PoOk x.p) (hl : l.length = x.p.es.length) (hlb : ∀ n ∈ l, -1000 ≤ n ∧ n ≤ 2000) (hr : Row intL 1 w w.heap.size A l) (hwa : ∃ m, WaIn x wb mb m w ∧ MayOk v m) (hne : mb ≠ wb)
  (hv : 0 ≤ v' ∧ v' ≤ 1000) (hstep : if first then v' = v else v - x.p.d ≤ v' ∧ v' ≤ v + x.p.g) (hag : (agN x.p.es l (-1)).1 ≤ v' ∧ v' ≤ (agN x.p.es l (-1)).2) :
  Calls Try.prog 100 #[.pointer (some ⟨wb, 0, none⟩), .slice A l.length c, .bool first] w fun e w' => (∃ u, e = .returned u) ∧ w.grownBy w' (some mb) ∧ ∃ m, WaIn x wb mb m w' ∧ MayOk v' m := by
 obtain ⟨m0, hwa0, hmay0⟩ := hwa
 have HX := Lib.hid (And.intro hp (And.intro hl hlb))
 have HV := Lib.hid (And.intro hv (And.intro hstep hag))
 have HS := Lib.hid (And.intro hwa0.er (And.intro hr (show ∃ m, KMap vi prV mb m w from ⟨m0, hwa0.mp⟩)))
 have HSO := Lib.hid (show wb < w.heap.size ∧ mb < w.heap.size ∧ mb ≠ wb from ⟨hwa0.bx.lt, hwa0.mp.lt, hne⟩)
 have HW := Lib.hid (And.intro hwa0 hmay0)
 have e1 := newer_allocH w (.cells #[.pointer (some ⟨wb, 0, none⟩)] 133)
 have e2 := newer_allocH (w.alloc (.cells #[.pointer (some ⟨wb, 0, none⟩)] 133)) (.cells #[.slice A l.length c] 24)
 have e3 := newer_allocH ((w.alloc (.cells #[.pointer (some ⟨wb, 0, none⟩)] 133)).alloc (.cells #[.slice A l.length c] 24)) (.cells #[.bool first] 4)
 have a0 := ((Whole.made w 133 #[.pointer (some ⟨wb, 0, none⟩)]).alloc (.cells #[.slice A l.length c] 24)).alloc (.cells #[.bool first] 4)
 have z0 := a0.at 0 (v := .pointer (some ⟨wb, 0, none⟩)) rfl
 have hb := (hwa0.next (newer_trans (newer_trans e1 e2) e3)).bx
 have q0 := hb.at 0 (v := .slice x.a x.p.es.length x.c) rfl
 have q1 := hb.at 1 (v := vi x.p.g) rfl
 have q2 := hb.at 2 (v := vi x.p.d) rfl
 have q3 := hb.at 3 (v := vi x.p.fall) rfl
 have q4 := hb.at 4 (v := vi x.p.out) rfl
 have q5 := hb.at 5 (v := vi x.p.ah) rfl
 clear hp hl hlb hr hwa0 hmay0 hne hv hstep hag e1 e2 e3 a0 hb
 refine callsIn_wide.1 (callsIn_of_wp_marks (n := 9) Try.func100 rfl trivial ?_ rfl)
 simp only [Try.ntmps100, List.size_toArray, List.length_cons, List.length_nil, Nat.reduceAdd, Nat.reduceSub, Array.replicate_succ, Array.replicate_zero, List.push_toArray, List.append_toArray, List.nil_append, List.cons_append]
 refine wpIn_wide.2 ?_
 go_upto_region 2 with fail
 refine genQ (fun X => newer w X ∧ X.heap.size = w.heap.size + 1 + 1 + 1 + 1 ∧ Whole X w.heap.size 133 #[.pointer (some ⟨wb, 0, none⟩)] ∧ Whole X (w.heap.size + 1) 24 #[.slice A l.length c] ∧ Whole X (w.heap.size + 1 + 1) 4 #[.bool first] ∧ Whole X (w.heap.size + 1 + 1 + 1) 137 #[.func (.func 67) #[pmV x] #[]]) ?hg ?_
 case hg =>
  have e1 := newer_allocH w (.cells #[.pointer (some ⟨wb, 0, none⟩)] 133)
  have e2 := newer_allocH (w.alloc (.cells #[.pointer (some ⟨wb, 0, none⟩)] 133)) (.cells #[.slice A l.length c] 24)
  have e3 := newer_allocH ((w.alloc (.cells #[.pointer (some ⟨wb, 0, none⟩)] 133)).alloc (.cells #[.slice A l.length c] 24)) (.cells #[.bool first] 4)
  have e4 := newer_allocH (((w.alloc (.cells #[.pointer (some ⟨wb, 0, none⟩)] 133)).alloc (.cells #[.slice A l.length c] 24)).alloc (.cells #[.bool first] 4)) (.cells #[.func (.func 67) #[pmV x] #[]] 137)
  have a0 := (((Whole.made w 133 #[.pointer (some ⟨wb, 0, none⟩)]).alloc (.cells #[.slice A l.length c] 24)).alloc (.cells #[.bool first] 4)).alloc (.cells #[.func (.func 67) #[pmV x] #[]] 137)
  have a1 := ((Whole.made (w.alloc (.cells #[.pointer (some ⟨wb, 0, none⟩)] 133)) 24 #[.slice A l.length c]).alloc (.cells #[.bool first] 4)).alloc (.cells #[.func (.func 67) #[pmV x] #[]] 137)
  have a2 := (Whole.made ((w.alloc (.cells #[.pointer (some ⟨wb, 0, none⟩)] 133)).alloc (.cells #[.slice A l.length c] 24)) 4 #[.bool first]).alloc (.cells #[.func (.func 67) #[pmV x] #[]] 137)
  have a3 := Whole.made (((w.alloc (.cells #[.pointer (some ⟨wb, 0, none⟩)] 133)).alloc (.cells #[.slice A l.length c] 24)).alloc (.cells #[.bool first] 4)) 137 #[.func (.func 67) #[pmV x] #[]]
  simp only [World.size_alloc] at a1 a2 a3
  exact ⟨newer_trans (newer_trans (newer_trans e1 e2) e3) e4, by simp only [World.size_alloc], a0, a1, a2, a3⟩
 clear z0 q0 q1 q2 q3 q4 q5
 intro w1 h1
 have z0 := h1.2.2.1.at 0 (v := .pointer (some ⟨wb, 0, none⟩)) rfl
 have H1 := Lib.hid h1
 clear h1
 go_wp2_with fail
 refine (failing_any wb _).mono ?_
 rintro e w2 ⟨rfl, hw2⟩
 rw [H1.out.2.1]
 have H2 : Hid (newer w w2 ∧ w2.heap.size = w.heap.size + 5 ∧ Whole w2 w.heap.size 133 #[.pointer (some ⟨wb, 0, none⟩)] ∧ Whole w2 (w.heap.size + 1) 24 #[.slice A l.length c] ∧ Whole w2 (w.heap.size + 1 + 1) 4 #[.bool first] ∧ Whole w2 (w.heap.size + 1 + 1 + 1) 137 #[.func (.func 67) #[pmV x] #[]] ∧ Whole w2 (w.heap.size + 1 + 1 + 1 + 1) 133 #[.pointer (some ⟨wb, 0, none⟩)]) := Lib.hid (by
  have e1 := newer_allocH w1 (.cells #[.pointer (some ⟨wb, 0, none⟩)] 133)
  have a1 := Whole.made w1 133 #[.pointer (some ⟨wb, 0, none⟩)]
  rw [← hw2] at e1 a1
  rw [H1.out.2.1] at a1
  obtain ⟨g1, g2, g3, g4, g5, g6⟩ := H1.out
  exact ⟨newer_trans g1 e1, by rw [hw2, World.size_alloc, g2], g3.below e1 g3.lt, g4.below e1 g4.lt, g5.below e1 g5.lt, g6.below e1 g6.lt, a1⟩)
 clear hw2 H1 z0 w1
 go_wp2_with fail
 refine (wpIn_wide (n := 9)).1 (range_law (gf := 140) (lb := #[.pointer (some ⟨w.heap.size + 1 + 1 + 1 + 1, 0, none⟩)]) rfl (enters_of Try.func140 (by kernel_rfl) rfl) ?_)
 intro r0 r1 r2 r3 r4 r5 r6
 refine (callsIn_wide.1 (fail_in 8 (w2.heap.size + 1) (w.heap.size + 1 + 1 + 1 + 1) wb mb x HX.out.1 (fun k W => NxJ x l A c first wb mb w2.heap.size (if k = 0 then v else v') r0 w W) ?hJ ?hN ?hS ?hY _ ?h0)).mono ?_
 case hJ => exact fun k W hj => ⟨hj.b4, by obtain ⟨m, h1, _⟩ := hj.wa; exact ⟨m, h1⟩⟩
 case hN => exact fun k W W' hj hb => hj.next hb
 case hS =>
  intro k W m hk hj hm hno
  by_cases h0 : k = 0
  ·subst h0
   obtain ⟨y, hy, _⟩ := (hj.may hm.mp).at_
   exact absurd hy (hno y)
  ·show NxJ x l A c first wb mb w2.heap.size (if k + 1 = 0 then v else v') r0 w W
   rw [if_neg h0] at hj
   rw [if_neg (by omega)]
   exact hj
 case h0 =>
  have e1 := newer_trans (newer_allocH w2 (.deferred (some []))) (newer_allocH (w2.alloc (.deferred (some []))) (.loop r0))
  obtain ⟨a1, a2, a3, a4, a5, a6, a7⟩ := H2.out
  obtain ⟨s1, s2, s3⟩ := HSO.out
  have hn := newer_trans a1 e1
  have hwa := HW.out.1.next hn
  refine ⟨grown_of_newer hn _, a3.below e1 a3.lt, a4.below e1 a4.lt, a5.below e1 a5.lt, a6.below e1 a6.lt, a7.below e1 a7.lt, hwa.er, (HS.out.2.1.below hn).more hn.size, hwa.bx, ⟨m0, hwa.mp, HW.out.2⟩, ?_, ?_, s1, s2, s3, a2.symm⟩
  ·simp only [heap_if, World.size_alloc]
   repeat rw [if_neg (by omega)]
   rfl
  ·simp only [heap_if, World.size_alloc]
   repeat rw [if_neg (by omega)]
   rfl
 case hY =>
  intro k W m y hk hj hm hym
  have HMY := Lib.hid (And.intro hm (And.intro hym hk))
  refine yield_round (r := r0) hj.lo r1 r2 (by rw [r4]; rfl) ?_
  rw [r3, r4, r5, r6]
  simp only [List.zip_toArray, List.zip_cons_cons, List.zip_nil_right, List.foldl_toArray, List.foldl_cons, List.foldl_nil, List.setIfInBounds_toArray, List.set_cons_zero, List.set_cons_succ]
  gi_wp2_with fail
  have hj1 := hj.next (newer_allocH W (.cells (prC y) 136))
  refine ⟨hj1.lo, ?_⟩
  have hj5 := NxJ.put HS.out.1 HS.out.2.1 HS.out.2.2 hj1 (busyOf r0)
  have hlw := (Array.getElem?_eq_some_iff.1 hj.lo).1
  have hxb : Whole ((W.alloc (.cells (prC y) 136)).putObj (w2.heap.size + 1) (.loop (busyOf r0))) W.heap.size 136 (prC y) := (Whole.made W 136 (prC y)).put (by omega) _
  have hso := hj.so
  have HGT := Lib.hid (show w2.heap.size + 1 < W.heap.size from hlw)
  have hyb := (hj.may hm.mp).bd _ hym
  dsimp only at hyb
  have HK0 := Lib.hid (fun h0 : k = 0 => show y.1 ≤ v ∧ v ≤ y.2 from by
   have hmay := hj.may hm.mp
   rw [if_pos h0] at hmay
   obtain ⟨z, hz, hz2⟩ := hmay.at_
   subst h0
   have hnd := hm.mp.nodup
   have e : ((-1 : Int), z) = (((0 : Nat) : Int) - 1, y) := nodup_inj hnd hz hym rfl
   injection e with _ e
   rw [← e]
   exact hz2)
  obtain ⟨w8, hw8⟩ : ∃ w8, w8 = (W.alloc (.cells (prC y) 136)).putObj (w2.heap.size + 1) (.loop (busyOf r0)) := ⟨_, rfl⟩
  rw [← hw8] at hj5 hxb ⊢
  obtain ⟨xb, hxe⟩ : ∃ q, q = W.heap.size := ⟨_, rfl⟩
  rw [← hxe] at hxb HGT ⊢
  obtain ⟨D, hD⟩ : ∃ D, D = w2.heap.size := ⟨_, rfl⟩
  rw [← hD] at hj5 HGT ⊢
  have HXB := Lib.hid hxb
  have HJ := Lib.hid hj5
  clear hw8 hj hj1 hso hxe hj5 hxb r1 r2 r3 r4 r5 r6 hD H2 hlw hm hym
  have v0 := HJ.out.b0.at 0 (v := .pointer (some ⟨wb, 0, none⟩)) rfl
  have f0 := HJ.out.b2.at 0 (v := .bool first) rfl
  have q1 := HJ.out.bx.at 1 (v := vi x.p.g) rfl
  have q2 := HJ.out.bx.at 2 (v := vi x.p.d) rfl
  have xa := HXB.out.at 0 (v := vi y.1) rfl
  have xc := HXB.out.at 1 (v := vi y.2) rfl
  have xf := HXB.out.free 0
  have xg := HXB.out.free 1
  cases first with
  | false =>
   have hgd := HX.out.1.gd
   have hw1 : IntKind.i64.wrap (y.1 - x.p.d) = y.1 - x.p.d := IntWalk.i64_in _ (by omega)
   have hw2 : IntKind.i64.wrap (y.2 + x.p.g) = y.2 + x.p.g := IntWalk.i64_in _ (by omega)
   gi_wp2_with fail
   refine round_words (by kernel_rfl) (by kernel_rfl) (fun _ _ h => h) (region_told 17 (by kernel_rfl) (by kernel_rfl) (fun W => Below w8.heap.size w8 W) newer (pickD [vIs (.pointer (some ⟨xb, 0, none⟩)), vIs (vi y.1), vIs (.pointer (some ⟨wb, 0, none⟩)), vIs (.pointer (some ⟨wb, 0, none⟩)), vIs (.pointer (some ⟨wb, 0, none⟩)), vIs (.pointer (some ⟨wb, 2, none⟩)), vIs (vi x.p.d), vIs (vi ((y.1 - x.p.d))), vIs (.pointer (some ⟨xb, 1, none⟩)), vIs (vi y.2), vIs (.pointer (some ⟨wb, 0, none⟩)), vIs (.pointer (some ⟨wb, 0, none⟩)), vIs (.pointer (some ⟨wb, 0, none⟩)), vIs (.pointer (some ⟨wb, 1, none⟩)), vIs (vi x.p.g), vIs (vi ((y.2 + x.p.g))), vIs (.agg #[vi (y.1 - x.p.d), vi (y.2 + x.p.g)])]) (fun h k => newer_trans h k) (pickD_stable _ ⟨vIs_st, vIs_st, vIs_st, vIs_st, vIs_st, vIs_st, vIs_st, vIs_st, vIs_st, vIs_st, vIs_st, vIs_st, vIs_st, vIs_st, vIs_st, vIs_st, vIs_st, trivial⟩) (Below.refl _ w8).drew (Below.refl _ _) ?_ ?_)
   ·refine ⟨?_, ?_, ?_, ?_, ?_, ?_, ?_, ?_, ?_, ?_, ?_, ?_, ?_, ?_, ?_, ?_, ?_, trivial⟩
    ·intro a W hG hR hO hp; have h8 := hO.slot 8 (by kernel_rfl); refine kY (v := .pointer (some ⟨xb, 0, none⟩)) hG rfl ?_; simp [slotOf] at h8; simp [execOp, go_sem, h8]
    ·intro a W hG hR hO hp; have h21 : slotOf a 21 = .pointer (some ⟨xb, 0, none⟩) := hp.1; have c0 := keep_cell xa hG; refine kY (v := vi y.1) hG rfl ?_; simp [slotOf] at h21; simp [execOp, go_sem, h21, c0]
    ·intro a W hG hR hO hp; have h3 := hO.slot 3 (by kernel_rfl); have c0 := keep_cell v0 hG; refine kY (v := .pointer (some ⟨wb, 0, none⟩)) hG rfl ?_; simp [slotOf] at h3; simp [execOp, go_sem, h3, c0]
    ·intro a W hG hR hO hp; have h23 : slotOf a 23 = .pointer (some ⟨wb, 0, none⟩) := hp.1; refine kY (v := .pointer (some ⟨wb, 0, none⟩)) hG rfl ?_; simp [slotOf] at h23; simp [execOp, go_sem, h23]
    ·intro a W hG hR hO hp; have h24 : slotOf a 24 = .pointer (some ⟨wb, 0, none⟩) := hp.1; refine kY (v := .pointer (some ⟨wb, 0, none⟩)) hG rfl ?_; simp [slotOf] at h24; simp [execOp, go_sem, h24]
    ·intro a W hG hR hO hp; have h25 : slotOf a 25 = .pointer (some ⟨wb, 0, none⟩) := hp.1; refine kY (v := .pointer (some ⟨wb, 2, none⟩)) hG rfl ?_; simp [slotOf] at h25; simp [execOp, go_sem, h25]
    ·intro a W hG hR hO hp; have h26 : slotOf a 26 = .pointer (some ⟨wb, 2, none⟩) := hp.1; have c0 := keep_cell q2 hG; refine kY (v := vi x.p.d) hG rfl ?_; simp [slotOf] at h26; simp [execOp, go_sem, h26, c0]
    ·intro a W hG hR hO hp; have h22 : slotOf a 22 = vi y.1 := hp.1; have h27 : slotOf a 27 = vi x.p.d := hp.2.1; refine kY (v := vi ((y.1 - x.p.d))) hG rfl ?_; simp [slotOf] at h22 h27; simp [execOp, go_sem, h22, h27, hw1]
    ·intro a W hG hR hO hp; have h8 := hO.slot 8 (by kernel_rfl); refine kY (v := .pointer (some ⟨xb, 1, none⟩)) hG rfl ?_; simp [slotOf] at h8; simp [execOp, go_sem, h8]
    ·intro a W hG hR hO hp; have h29 : slotOf a 29 = .pointer (some ⟨xb, 1, none⟩) := hp.1; have c0 := keep_cell xc hG; refine kY (v := vi y.2) hG rfl ?_; simp [slotOf] at h29; simp [execOp, go_sem, h29, c0]
    ·intro a W hG hR hO hp; have h3 := hO.slot 3 (by kernel_rfl); have c0 := keep_cell v0 hG; refine kY (v := .pointer (some ⟨wb, 0, none⟩)) hG rfl ?_; simp [slotOf] at h3; simp [execOp, go_sem, h3, c0]
    ·intro a W hG hR hO hp; have h31 : slotOf a 31 = .pointer (some ⟨wb, 0, none⟩) := hp.1; refine kY (v := .pointer (some ⟨wb, 0, none⟩)) hG rfl ?_; simp [slotOf] at h31; simp [execOp, go_sem, h31]
    ·intro a W hG hR hO hp; have h32 : slotOf a 32 = .pointer (some ⟨wb, 0, none⟩) := hp.1; refine kY (v := .pointer (some ⟨wb, 0, none⟩)) hG rfl ?_; simp [slotOf] at h32; simp [execOp, go_sem, h32]
    ·intro a W hG hR hO hp; have h33 : slotOf a 33 = .pointer (some ⟨wb, 0, none⟩) := hp.1; refine kY (v := .pointer (some ⟨wb, 1, none⟩)) hG rfl ?_; simp [slotOf] at h33; simp [execOp, go_sem, h33]
    ·intro a W hG hR hO hp; have h34 : slotOf a 34 = .pointer (some ⟨wb, 1, none⟩) := hp.1; have c0 := keep_cell q1 hG; refine kY (v := vi x.p.g) hG rfl ?_; simp [slotOf] at h34; simp [execOp, go_sem, h34, c0]
    ·intro a W hG hR hO hp; have h30 : slotOf a 30 = vi y.2 := hp.1; have h35 : slotOf a 35 = vi x.p.g := hp.2.1; refine kY (v := vi ((y.2 + x.p.g))) hG rfl ?_; simp [slotOf] at h30 h35; simp [execOp, go_sem, h30, h35, hw2]
    ·intro a W hG hR hO hp; have h28 : slotOf a 28 = vi ((y.1 - x.p.d)) := hp.1; have h36 : slotOf a 36 = vi ((y.2 + x.p.g)) := hp.2.1; refine kY (v := .agg #[vi (y.1 - x.p.d), vi (y.2 + x.p.g)]) hG rfl ?_; simp [slotOf] at h28 h36; simp [execOp, go_sem, h28, h36]
   ·intro w9 hG hR
    rintro _ rfl _ rfl _ rfl _ rfl _ rfl _ rfl _ rfl _ rfl _ rfl _ rfl _ rfl _ rfl _ rfl _ rfl _ rfl _ rfl _ rfl
    change wpList _ _ _ _ _ _
    simp only [Act.put, List.setIfInBounds_toArray, List.set_cons_zero, List.set_cons_succ, List.drop_succ_cons, List.drop_zero]
    have HJ9 := Lib.hid (HJ.out.next hG)
    have HX9 := Lib.hid (HXB.out.below hG HXB.out.lt)
    clear hG hR HJ HXB v0 f0 q1 q2 xa xc xf xg
    have xa := HX9.out.at 0 (v := vi y.1) rfl
    have xc := HX9.out.at 1 (v := vi y.2) rfl
    have xf := HX9.out.free 0
    have xg := HX9.out.free 1
    go_wp2_with fail
    refine onlyN_intro ?_
    have hxa := whole_two HX9.out (vi (y.1 - x.p.d)) (vi (y.2 + x.p.g))
    have hja := NxJ.far HS.out.1 HS.out.2.1 HS.out.2.2 HJ9.out HGT.out (grown_two w9 xb (vi (y.1 - x.p.d)) (vi (y.2 + x.p.g)))
    obtain ⟨wa, hwa⟩ : ∃ q, q = (w9.setCell ⟨xb, 0, none⟩ (vi (y.1 - x.p.d))).setCell ⟨xb, 1, none⟩ (vi (y.2 + x.p.g)) := ⟨_, rfl⟩
    rw [← hwa] at hxa hja ⊢
    have HZ0 : Hid (k = 0 → y.1 - x.p.d ≤ v' ∧ v' ≤ y.2 + x.p.g) := Lib.hid fun h0 => by
     have h1 := HK0.out h0
     have h2 := HV.out.2.1
     rw [if_neg (by decide)] at h2
     omega
    obtain ⟨za, hza⟩ : ∃ q, q = y.1 - x.p.d := ⟨_, rfl⟩
    obtain ⟨zb, hzb⟩ : ∃ q, q = y.2 + x.p.g := ⟨_, rfl⟩
    have hz : -60 ≤ za ∧ za ≤ 1000 ∧ 0 ≤ zb ∧ zb ≤ 1060 := by omega
    rw [← hza, ← hzb] at hxa HZ0
    have HJA := Lib.hid hja
    have HXA := Lib.hid hxa
    clear hw1 hw2 hwa hza hzb hxa hja xa xc xf xg HX9 HJ9 w9
    have hr0 := HJA.out.b1.at 0 (v := .slice A l.length c) rfl
    have m0 := HJA.out.b3.at 0 (v := .func (.func 67) #[pmV x] #[]) rfl
    gi_wp2_with fail
    obtain ⟨pq, hpq⟩ : ∃ q, q = agN x.p.es l ((k : Int) - 1) := ⟨_, rfl⟩
    have HA := Lib.hid (fun W (h : NxJ x l A c false wb mb D (if k = 0 then v else v') (busyOf r0) w W) => agreed_any x l ((k : Int) - 1) A c W h.er HX.out.1 HX.out.2.1 HX.out.2.2 h.rw_)
    rw [← hpq] at HA
    have hbd := agN_bd HX.out.1.e HX.out.2.2 ((k : Int) - 1)
    rw [← hpq] at hbd
    have HK : Hid (k = 0 → pq.1 ≤ v' ∧ v' ≤ pq.2) := Lib.hid fun h0 => by
     subst h0
     rw [hpq]
     exact HV.out.2.2
    clear hpq
    obtain ⟨p, q⟩ := pq
    refine ⟨trivial, CallsIn.inRound _ (callsIn_wide.2 ((HA.out _ HJA.out).mono ?_))⟩
    rintro e w10 ⟨rfl, hb⟩
    dsimp only
    have nal := newer_trans hb (newer_allocH w10 (.cells #[vi p, vi q] 136))
    have hxlt := Nat.lt_of_lt_of_le HXA.out.lt hb.size
    have hj11 := HJA.out.next nal
    have hx11 := HXA.out.below nal HXA.out.lt
    have hy11 := Whole.made w10 136 #[vi p, vi q]
    clear hb nal hr0 m0 HA HJA HXA
    gi_wp2_with fail
    obtain ⟨w11, hw11⟩ : ∃ w11, w11 = w10.alloc (.cells #[vi p, vi q] 136) := ⟨_, rfl⟩
    rw [← hw11] at hj11 hx11 hy11 ⊢
    obtain ⟨yb, hyb2⟩ : ∃ q, q = w10.heap.size := ⟨_, rfl⟩
    rw [← hyb2] at hy11 hxlt ⊢
    have HJ11 := Lib.hid hj11
    have HX11 := Lib.hid hx11
    have HY11 := Lib.hid hy11
    have HXY := Lib.hid hxlt
    clear hw11 hyb2 hj11 hx11 hy11 hxlt w10
    have xa := HX11.out.at 0 (v := vi za) rfl
    have xc := HX11.out.at 1 (v := vi zb) rfl
    have ya := HY11.out.at 0 (v := vi p) rfl
    have yc := HY11.out.at 1 (v := vi q) rfl
    refine round_words (by kernel_rfl) (by kernel_rfl) (fun _ _ h => h) (region_told 13 (by kernel_rfl) (by kernel_rfl) (fun W => Below w11.heap.size w11 W) newer (pickD [vIs (.pointer (some ⟨xb, 0, none⟩)), vIs (vi za), vIs (.pointer (some ⟨yb, 0, none⟩)), vIs (vi p), vTwoN w11.heap.size za p, vIs (vi (mxI za p)), vIs (.pointer (some ⟨xb, 1, none⟩)), vIs (vi zb), vIs (.pointer (some ⟨yb, 1, none⟩)), vIs (vi q), vTwoN w11.heap.size zb q, vIs (vi (mnI zb q)), vIs (.agg #[vi (mxI za p), vi (mnI zb q)])]) (fun h k => newer_trans h k) (pickD_stable _ ⟨vIs_st, vIs_st, vIs_st, vIs_st, vTwoN_st, vIs_st, vIs_st, vIs_st, vIs_st, vIs_st, vTwoN_st, vIs_st, vIs_st, trivial⟩) (Below.refl _ w11).drew (Below.refl _ _) ?_ ?_)
    ·refine ⟨?_, ?_, ?_, ?_, ?_, ?_, ?_, ?_, ?_, ?_, ?_, ?_, ?_, trivial⟩
     ·intro a W hG hR hO hp; have h8 := hO.slot 8 (by kernel_rfl); refine kY (v := .pointer (some ⟨xb, 0, none⟩)) hG rfl ?_; simp [slotOf] at h8; simp [execOp, go_sem, h8]
     ·intro a W hG hR hO hp; have h42 : slotOf a 42 = .pointer (some ⟨xb, 0, none⟩) := hp.1; have c0 := keep_cell xa hG; refine kY (v := vi za) hG rfl ?_; simp [slotOf] at h42; simp [execOp, go_sem, h42, c0]
     ·intro a W hG hR hO hp; have h9 := hO.slot 9 (by kernel_rfl); refine kY (v := .pointer (some ⟨yb, 0, none⟩)) hG rfl ?_; simp [slotOf] at h9; simp [execOp, go_sem, h9]
     ·intro a W hG hR hO hp; have h44 : slotOf a 44 = .pointer (some ⟨yb, 0, none⟩) := hp.1; have c0 := keep_cell ya hG; refine kY (v := vi p) hG rfl ?_; simp [slotOf] at h44; simp [execOp, go_sem, h44, c0]
     ·intro a W hG hR hO hp; have h43 : slotOf a 43 = vi za := hp.1; have h45 : slotOf a 45 = vi p := hp.2.1; refine wp_makes (v := .slice (some ⟨W.heap.size, 0, none⟩) 2 2) (W' := W.alloc (.cells #[vi za, vi p] 3)) ?_ ⟨_, rfl, ⟨W.heap.size, rfl, hG.size, Whole.made _ _ _⟩, newer_allocH _ _, below_next hG (newer_allocH _ _)⟩; simp [slotOf] at h43 h45; simp [execOp, go_sem, h43, h45]
     ·intro a W hG hR hO hp
      have h46 := hp.1
      obtain ⟨q9, h46, hq1, hq3⟩ := h46
      refine wp_enters (f := 102) (args := #[.slice (some ⟨q9, 0, none⟩) 2 2]) ?_ ((agreat_any za p q9 2 W hq3).mono ?_)
      ·simp [slotOf] at h46
       simp [go_sem, h46]
      ·rintro e w' ⟨rfl, rfl⟩
       exact ⟨_, rfl, _, rfl, rfl, Below.refl _ _, hG⟩
     ·intro a W hG hR hO hp; have h8 := hO.slot 8 (by kernel_rfl); refine kY (v := .pointer (some ⟨xb, 1, none⟩)) hG rfl ?_; simp [slotOf] at h8; simp [execOp, go_sem, h8]
     ·intro a W hG hR hO hp; have h48 : slotOf a 48 = .pointer (some ⟨xb, 1, none⟩) := hp.1; have c0 := keep_cell xc hG; refine kY (v := vi zb) hG rfl ?_; simp [slotOf] at h48; simp [execOp, go_sem, h48, c0]
     ·intro a W hG hR hO hp; have h9 := hO.slot 9 (by kernel_rfl); refine kY (v := .pointer (some ⟨yb, 1, none⟩)) hG rfl ?_; simp [slotOf] at h9; simp [execOp, go_sem, h9]
     ·intro a W hG hR hO hp; have h50 : slotOf a 50 = .pointer (some ⟨yb, 1, none⟩) := hp.1; have c0 := keep_cell yc hG; refine kY (v := vi q) hG rfl ?_; simp [slotOf] at h50; simp [execOp, go_sem, h50, c0]
     ·intro a W hG hR hO hp; have h49 : slotOf a 49 = vi zb := hp.1; have h51 : slotOf a 51 = vi q := hp.2.1; refine wp_makes (v := .slice (some ⟨W.heap.size, 0, none⟩) 2 2) (W' := W.alloc (.cells #[vi zb, vi q] 3)) ?_ ⟨_, rfl, ⟨W.heap.size, rfl, hG.size, Whole.made _ _ _⟩, newer_allocH _ _, below_next hG (newer_allocH _ _)⟩; simp [slotOf] at h49 h51; simp [execOp, go_sem, h49, h51]
     ·intro a W hG hR hO hp
      have h52 := hp.1
      obtain ⟨q9, h52, hq1, hq3⟩ := h52
      refine wp_enters (f := 103) (args := #[.slice (some ⟨q9, 0, none⟩) 2 2]) ?_ ((aleast_any zb q q9 2 W hq3).mono ?_)
      ·simp [slotOf] at h52
       simp [go_sem, h52]
      ·rintro e w' ⟨rfl, rfl⟩
       exact ⟨_, rfl, _, rfl, rfl, Below.refl _ _, hG⟩
     ·intro a W hG hR hO hp; have h47 : slotOf a 47 = vi (mxI za p) := hp.1; have h53 : slotOf a 53 = vi (mnI zb q) := hp.2.1; refine kY (v := .agg #[vi (mxI za p), vi (mnI zb q)]) hG rfl ?_; simp [slotOf] at h47 h53; simp [execOp, go_sem, h47, h53]
    ·intro w12 hG hR
     rintro _ rfl _ rfl _ rfl _ rfl _ - _ rfl _ rfl _ rfl _ rfl _ rfl _ - _ rfl _ rfl
     change wpList _ _ _ _ _ _
     simp only [Act.put, List.setIfInBounds_toArray, List.set_cons_zero, List.set_cons_succ, List.drop_succ_cons, List.drop_zero]
     have HJ12 := Lib.hid (HJ11.out.next hG)
     have HX12 := Lib.hid (HX11.out.below hG HX11.out.lt)
     have HY12 := Lib.hid (HY11.out.below hG HY11.out.lt)
     clear hG hR HJ11 HX11 HY11 xa xc ya yc
     have xa := HX12.out.at 0 (v := vi za) rfl
     have xc := HX12.out.at 1 (v := vi zb) rfl
     have xf := HX12.out.free 0
     have xg := HX12.out.free 1
     go_wp2_with fail
     refine onlyN_intro ?_
     have hx13 := whole_two HX12.out (vi (mxI za p)) (vi (mnI zb q))
     have hy13 := HY12.out.grown (grown_two w12 xb (vi (mxI za p)) (vi (mnI zb q))) (fun e => by injection e with e; have := HXY.out; omega)
     have hj13 := NxJ.far HS.out.1 HS.out.2.1 HS.out.2.2 HJ12.out HGT.out (grown_two w12 xb (vi (mxI za p)) (vi (mnI zb q)))
     obtain ⟨w13, hw13⟩ : ∃ q2, q2 = (w12.setCell ⟨xb, 0, none⟩ (vi (mxI za p))).setCell ⟨xb, 1, none⟩ (vi (mnI zb q)) := ⟨_, rfl⟩
     rw [← hw13] at hx13 hy13 hj13 ⊢
     obtain ⟨ma, hma⟩ : ∃ q, q = mxI za p := ⟨_, rfl⟩
     obtain ⟨mi, hmi⟩ : ∃ q2, q2 = mnI zb q := ⟨_, rfl⟩
     rw [← hma, ← hmi] at hx13
     have HMB : Hid (p ≤ ma ∧ mi ≤ q) := Lib.hid (by rw [hma, hmi]; unfold mxI mnI; split <;> split <;> omega)
     have HMK : Hid (k = 0 → ma ≤ v' ∧ v' ≤ mi) := Lib.hid (fun h0 => by
      have h1 := HZ0.out h0
      have h2 := HK.out h0
      rw [hma, hmi]
      unfold mxI mnI
      split <;> split <;> omega)
     have HJ13 := Lib.hid hj13
     have HX13 := Lib.hid hx13
     have HY13 := Lib.hid hy13
     clear hma hmi hw13 hj13 hx13 hy13 xa xc xf xg HJ12 HX12 HY12 w12
     have xa := HX13.out.at 0 (v := vi ma) rfl
     have xc := HX13.out.at 1 (v := vi mi) rfl
     rcases hbd with hno | hyes
     ·have h1 : p = 1 := congrArg Prod.fst hno
      have h2 : q = 0 := congrArg Prod.snd hno
      subst h1
      subst h2
      have HKN : Hid (k ≠ 0) := Lib.hid (fun h0 => by have := HK.out h0; omega)
      have ya := HY13.out.at 0 (v := vi 1) rfl
      have yc := HY13.out.at 1 (v := vi 0) rfl
      gi_wp2_with fail
      refine round_words (by kernel_rfl) (by kernel_rfl) (fun _ _ h => h) (region_told_u 9 (by kernel_rfl) (by kernel_rfl) [false, false, false, false, true, true, true, true, true] (fun W => Below w13.heap.size w13 W) newer [vIs (prV (1, 0)), vIs (prV (1, 0)), vIs (.bool true), vIs (.bool true), vIs (undef), vIs (undef), vIs (undef), vIs (undef), vIs (undef)] (by repeat' first | refine And.intro ?_ ?_ | exact trivial | exact rfl | (intro v W h; obtain rfl : v = _ := h; first | rfl | (simp; done) | (simp [undef]; done))) (by repeat' first | refine And.intro ?_ ?_ | exact trivial | exact (fun h => Bool.noConfusion (show false = true from h)) | exact (fun _ _ => rfl)) (fun h k => newer_trans h k) (pickD_stable _ (by repeat' first | refine And.intro ?_ ?_ | exact trivial | exact vIs_st)) (Below.refl _ w13).drew (Below.refl _ _) ?_ ?_)
      ·refine ⟨.inr ?_, .inr ?_, .inr ?_, .inr ?_, .inl rfl, .inl rfl, .inl rfl, .inl rfl, .inl rfl, trivial⟩
       ·intro a W hG hR hO hp; have h9 := hO.slot 9 (by kernel_rfl); have c0 := keep_cell ya hG; have c1 := keep_cell yc hG; refine kY (v := prV (1, 0)) hG rfl ?_; simp [slotOf] at h9; simp [execOp, go_sem, h9, c0, c1]
       ·intro a W hG hR hO hp
        refine wp_enters (f := 104) (args := #[]) ?_ ((nothing_any W).mono ?_)
        ·skip
         simp [go_sem]
        ·rintro e w' ⟨rfl, hb⟩
         exact ⟨_, rfl, _, rfl, rfl, hb, below_next hG hb⟩
       ·intro a W hG hR hO hp; have h55 : slotOf a 55 = prV (1, 0) := hp.1; have h56 : slotOf a 56 = prV (1, 0) := hp.2.1; refine kY (v := .bool true) hG rfl ?_; simp [slotOf] at h55 h56; simp [execOp, go_sem, h55, h56, eqE]
       ·exact fun a W hG _ _ hp => kM 57 rfl hp.1 rfl hG
      ·intro w14 hG hR
       rintro _ rfl _ rfl _ rfl _ rfl _ rfl _ rfl _ rfl _ rfl _ rfl
       change wpList _ _ _ _ _ _
       simp only [Act.put, List.setIfInBounds_toArray, List.set_cons_zero, List.set_cons_succ, List.drop_succ_cons, List.drop_zero]
       have hj14 := HJ13.out.next hG
       obtain ⟨m, hm, hmay⟩ := hj14.mp
       have HMM := Lib.hid (And.intro hm hmay)
       have v0 := hj14.b0.at 0 (v := .pointer (some ⟨wb, 0, none⟩)) rfl
       have q6 := hj14.bx.at 6 (v := .map (some mb)) rfl
       have HJ14 := Lib.hid hj14
       clear hG hR hj14 hm hmay HJ13 HX13 HY13 xa xc ya yc
       go_wp2_with fail
       refine onlyN_intro ?_
       gi_wp2_with (gi_at_delete; refine wpListIn_delete_i _ rfl _ _ 185 3 rfl Try.underlying3 Try.underlying185 mb m rfl HMM.out.1 ((k : Int) - 1) rfl ?_; intro ob hob; have HOB := Lib.hid hob; clear hob)
       have hj15 := NxJ.lay_ (v' := v') HS.out.1 HS.out.2.1 HS.out.2.2 HJ14.out ob HOB.out (by
        have h1 := HMM.out.2
        rw [if_neg HKN.out] at h1
        exact h1.del (by have := HKN.out; omega))
       have hp := NxJ.put HS.out.1 HS.out.2.1 HS.out.2.2 hj15 r0
       exact ⟨hj15.lo, rfl, hp⟩
     ·have hpq : ¬ ((p, q) = ((1 : Int), (0 : Int))) := fun e => by
       injection e with e1 e2
       omega
      have ya := HY13.out.at 0 (v := vi p) rfl
      have yc := HY13.out.at 1 (v := vi q) rfl
      gi_wp2_with fail
      by_cases hmm : mi < ma
      ·have HKN : Hid (k ≠ 0) := Lib.hid (fun h0 => by have := HMK.out h0; omega)
       refine round_words (by kernel_rfl) (by kernel_rfl) (fun _ _ h => h) (region_told_u 9 (by kernel_rfl) (by kernel_rfl) [false, false, false, false, false, false, false, false, false] (fun W => Below w13.heap.size w13 W) newer [vIs (prV (p, q)), vIs (prV (1, 0)), vIs (.bool false), vIs (.bool false), vIs (.pointer (some ⟨xb, 0, none⟩)), vIs (vi ma), vIs (.pointer (some ⟨xb, 1, none⟩)), vIs (vi mi), vIs (.bool true)] (by repeat' first | refine And.intro ?_ ?_ | exact trivial | exact rfl | (intro v W h; obtain rfl : v = _ := h; first | rfl | (simp; done) | (simp [undef]; done))) (by repeat' first | refine And.intro ?_ ?_ | exact trivial | exact (fun h => Bool.noConfusion (show false = true from h)) | exact (fun _ _ => rfl)) (fun h k => newer_trans h k) (pickD_stable _ (by repeat' first | refine And.intro ?_ ?_ | exact trivial | exact vIs_st)) (Below.refl _ w13).drew (Below.refl _ _) ?_ ?_)
       ·refine ⟨.inr ?_, .inr ?_, .inr ?_, .inr ?_, .inr ?_, .inr ?_, .inr ?_, .inr ?_, .inr ?_, trivial⟩
        ·intro a W hG hR hO hp; have h9 := hO.slot 9 (by kernel_rfl); have c0 := keep_cell ya hG; have c1 := keep_cell yc hG; refine kY (v := prV (p, q)) hG rfl ?_; simp [slotOf] at h9; simp [execOp, go_sem, h9, c0, c1]
        ·intro a W hG hR hO hp
         refine wp_enters (f := 104) (args := #[]) ?_ ((nothing_any W).mono ?_)
         ·skip
          simp [go_sem]
         ·rintro e w' ⟨rfl, hb⟩
          exact ⟨_, rfl, _, rfl, rfl, hb, below_next hG hb⟩
        ·intro a W hG hR hO hp; have h55 : slotOf a 55 = prV (p, q) := hp.1; have h56 : slotOf a 56 = prV (1, 0) := hp.2.1; refine kY (v := .bool false) hG rfl ?_; simp [slotOf] at h55 h56; simp [execOp, go_sem, h55, h56, eqE, hpq]
        ·exact fun a W hG _ _ hp => kM 57 rfl hp.1 rfl hG
        ·intro a W hG hR hO hp; have h8 := hO.slot 8 (by kernel_rfl); refine kY (v := .pointer (some ⟨xb, 0, none⟩)) hG rfl ?_; simp [slotOf] at h8; simp [execOp, go_sem, h8]
        ·intro a W hG hR hO hp; have h59 : slotOf a 59 = .pointer (some ⟨xb, 0, none⟩) := hp.1; have c0 := keep_cell xa hG; refine kY (v := vi ma) hG rfl ?_; simp [slotOf] at h59; simp [execOp, go_sem, h59, c0]
        ·intro a W hG hR hO hp; have h8 := hO.slot 8 (by kernel_rfl); refine kY (v := .pointer (some ⟨xb, 1, none⟩)) hG rfl ?_; simp [slotOf] at h8; simp [execOp, go_sem, h8]
        ·intro a W hG hR hO hp; have h61 : slotOf a 61 = .pointer (some ⟨xb, 1, none⟩) := hp.1; have c0 := keep_cell xc hG; refine kY (v := vi mi) hG rfl ?_; simp [slotOf] at h61; simp [execOp, go_sem, h61, c0]
        ·intro a W hG hR hO hp; have h60 : slotOf a 60 = vi ma := hp.1; have h62 : slotOf a 62 = vi mi := hp.2.1; refine kY (v := .bool true) hG rfl ?_; simp [slotOf] at h60 h62; simp [execOp, go_sem, h60, h62, hmm]
       ·intro w14 hG hR
        rintro _ rfl _ rfl _ rfl _ rfl _ rfl _ rfl _ rfl _ rfl _ rfl
        change wpList _ _ _ _ _ _
        simp only [Act.put, List.setIfInBounds_toArray, List.set_cons_zero, List.set_cons_succ, List.drop_succ_cons, List.drop_zero]
        have hj14 := HJ13.out.next hG
        obtain ⟨m, hm, hmay⟩ := hj14.mp
        have HMM := Lib.hid (And.intro hm hmay)
        have v0 := hj14.b0.at 0 (v := .pointer (some ⟨wb, 0, none⟩)) rfl
        have q6 := hj14.bx.at 6 (v := .map (some mb)) rfl
        have HJ14 := Lib.hid hj14
        clear hG hR hj14 hm hmay HJ13 HX13 HY13 xa xc ya yc
        go_wp2_with fail
        refine onlyN_intro ?_
        gi_wp2_with (gi_at_delete; refine wpListIn_delete_i _ rfl _ _ 185 3 rfl Try.underlying3 Try.underlying185 mb m rfl HMM.out.1 ((k : Int) - 1) rfl ?_; intro ob hob; have HOB := Lib.hid hob; clear hob)
        have hj15 := NxJ.lay_ (v' := v') HS.out.1 HS.out.2.1 HS.out.2.2 HJ14.out ob HOB.out (by
         have h1 := HMM.out.2
         rw [if_neg HKN.out] at h1
         exact h1.del (by have := HKN.out; omega))
        have hp := NxJ.put HS.out.1 HS.out.2.1 HS.out.2.2 hj15 r0
        exact ⟨hj15.lo, rfl, hp⟩
      ·have hmm2 : ma ≤ mi := by omega
       refine round_words (by kernel_rfl) (by kernel_rfl) (fun _ _ h => h) (region_told_u 9 (by kernel_rfl) (by kernel_rfl) [false, false, false, false, false, false, false, false, false] (fun W => Below w13.heap.size w13 W) newer [vIs (prV (p, q)), vIs (prV (1, 0)), vIs (.bool false), vIs (.bool false), vIs (.pointer (some ⟨xb, 0, none⟩)), vIs (vi ma), vIs (.pointer (some ⟨xb, 1, none⟩)), vIs (vi mi), vIs (.bool false)] (by repeat' first | refine And.intro ?_ ?_ | exact trivial | exact rfl | (intro v W h; obtain rfl : v = _ := h; first | rfl | (simp; done) | (simp [undef]; done))) (by repeat' first | refine And.intro ?_ ?_ | exact trivial | exact (fun h => Bool.noConfusion (show false = true from h)) | exact (fun _ _ => rfl)) (fun h k => newer_trans h k) (pickD_stable _ (by repeat' first | refine And.intro ?_ ?_ | exact trivial | exact vIs_st)) (Below.refl _ w13).drew (Below.refl _ _) ?_ ?_)
       ·refine ⟨.inr ?_, .inr ?_, .inr ?_, .inr ?_, .inr ?_, .inr ?_, .inr ?_, .inr ?_, .inr ?_, trivial⟩
        ·intro a W hG hR hO hp; have h9 := hO.slot 9 (by kernel_rfl); have c0 := keep_cell ya hG; have c1 := keep_cell yc hG; refine kY (v := prV (p, q)) hG rfl ?_; simp [slotOf] at h9; simp [execOp, go_sem, h9, c0, c1]
        ·intro a W hG hR hO hp
         refine wp_enters (f := 104) (args := #[]) ?_ ((nothing_any W).mono ?_)
         ·skip
          simp [go_sem]
         ·rintro e w' ⟨rfl, hb⟩
          exact ⟨_, rfl, _, rfl, rfl, hb, below_next hG hb⟩
        ·intro a W hG hR hO hp; have h55 : slotOf a 55 = prV (p, q) := hp.1; have h56 : slotOf a 56 = prV (1, 0) := hp.2.1; refine kY (v := .bool false) hG rfl ?_; simp [slotOf] at h55 h56; simp [execOp, go_sem, h55, h56, eqE, hpq]
        ·exact fun a W hG _ _ hp => kM 57 rfl hp.1 rfl hG
        ·intro a W hG hR hO hp; have h8 := hO.slot 8 (by kernel_rfl); refine kY (v := .pointer (some ⟨xb, 0, none⟩)) hG rfl ?_; simp [slotOf] at h8; simp [execOp, go_sem, h8]
        ·intro a W hG hR hO hp; have h59 : slotOf a 59 = .pointer (some ⟨xb, 0, none⟩) := hp.1; have c0 := keep_cell xa hG; refine kY (v := vi ma) hG rfl ?_; simp [slotOf] at h59; simp [execOp, go_sem, h59, c0]
        ·intro a W hG hR hO hp; have h8 := hO.slot 8 (by kernel_rfl); refine kY (v := .pointer (some ⟨xb, 1, none⟩)) hG rfl ?_; simp [slotOf] at h8; simp [execOp, go_sem, h8]
        ·intro a W hG hR hO hp; have h61 : slotOf a 61 = .pointer (some ⟨xb, 1, none⟩) := hp.1; have c0 := keep_cell xc hG; refine kY (v := vi mi) hG rfl ?_; simp [slotOf] at h61; simp [execOp, go_sem, h61, c0]
        ·intro a W hG hR hO hp; have h60 : slotOf a 60 = vi ma := hp.1; have h62 : slotOf a 62 = vi mi := hp.2.1; refine kY (v := .bool false) hG rfl ?_; simp [slotOf] at h60 h62; simp [execOp, go_sem, h60, h62, hmm]
       ·intro w14 hG hR
        rintro _ rfl _ rfl _ rfl _ rfl _ rfl _ rfl _ rfl _ rfl _ rfl
        change wpList _ _ _ _ _ _
        simp only [Act.put, List.setIfInBounds_toArray, List.set_cons_zero, List.set_cons_succ, List.drop_succ_cons, List.drop_zero]
        have hj14 := HJ13.out.next hG
        have hx14 := HX13.out.below hG HX13.out.lt
        obtain ⟨m, hm, hmay⟩ := hj14.mp
        have HMM := Lib.hid (And.intro hm hmay)
        have v0 := hj14.b0.at 0 (v := .pointer (some ⟨wb, 0, none⟩)) rfl
        have q6 := hj14.bx.at 6 (v := .map (some mb)) rfl
        have HJ14 := Lib.hid hj14
        clear hG hR hj14 hm hmay HJ13 HY13 xa xc ya yc
        have xa := hx14.at 0 (v := vi ma) rfl
        have xc := hx14.at 1 (v := vi mi) rfl
        clear hx14 HX13
        go_wp2_with fail
        refine onlyN_intro ?_
        gi_wp2_with fail
        refine round_words (by kernel_rfl) (by kernel_rfl) (fun _ _ h => h) (region_told 6 (by kernel_rfl) (by kernel_rfl) (fun W => Below w14.heap.size w14 W) newer (pickD [vIs (.pointer (some ⟨wb, 0, none⟩)), vIs (.pointer (some ⟨wb, 0, none⟩)), vIs (.pointer (some ⟨wb, 6, none⟩)), vIs (.map (some mb)), vIs (vi ((k : Int) - 1)), vIs (prV (ma, mi))]) (fun h k => newer_trans h k) (pickD_stable _ ⟨vIs_st, vIs_st, vIs_st, vIs_st, vIs_st, vIs_st, trivial⟩) (Below.refl _ w14).drew (Below.refl _ _) ?_ ?_)
        ·refine ⟨?_, ?_, ?_, ?_, ?_, ?_, trivial⟩
         ·intro a W hG hR hO hp; have h3 := hO.slot 3 (by kernel_rfl); have c0 := keep_cell v0 hG; refine kY (v := .pointer (some ⟨wb, 0, none⟩)) hG rfl ?_; simp [slotOf] at h3; simp [execOp, go_sem, h3, c0]
         ·intro a W hG hR hO hp; have h70 : slotOf a 70 = .pointer (some ⟨wb, 0, none⟩) := hp.1; refine kY (v := .pointer (some ⟨wb, 0, none⟩)) hG rfl ?_; simp [slotOf] at h70; simp [execOp, go_sem, h70]
         ·intro a W hG hR hO hp; have h71 : slotOf a 71 = .pointer (some ⟨wb, 0, none⟩) := hp.1; refine kY (v := .pointer (some ⟨wb, 6, none⟩)) hG rfl ?_; simp [slotOf] at h71; simp [execOp, go_sem, h71]
         ·intro a W hG hR hO hp; have h72 : slotOf a 72 = .pointer (some ⟨wb, 6, none⟩) := hp.1; have c0 := keep_cell q6 hG; refine kY (v := .map (some mb)) hG rfl ?_; simp [slotOf] at h72; simp [execOp, go_sem, h72, c0]
         ·exact fun a W hG _ hO _ => kM 7 rfl (hO.slot 7 (by kernel_rfl)) rfl hG
         ·intro a W hG hR hO hp; have h8 := hO.slot 8 (by kernel_rfl); have c0 := keep_cell xa hG; have c1 := keep_cell xc hG; refine kY (v := prV (ma, mi)) hG rfl ?_; simp [slotOf] at h8; simp [execOp, go_sem, h8, c0, c1]
        ·intro w15 hG hR
         rintro _ rfl _ rfl _ rfl _ rfl _ rfl _ rfl
         change wpList _ _ _ _ _ _
         simp only [Act.put, List.setIfInBounds_toArray, List.set_cons_zero, List.set_cons_succ, List.drop_succ_cons, List.drop_zero]
         have HJ15 := Lib.hid (HJ14.out.next hG)
         have HM15 := Lib.hid (HMM.out.1.next hG)
         clear hG hR HJ14 v0 q6 xa xc
         go_wp2_with (at_mapUpdate; refine wpList_update_i _ rfl _ _ _ 185 rfl Try.underlying3 Try.underlying185 mb m rfl HM15.out ((k : Int) - 1) (ma, mi) rfl rfl ?_; intro ob hob; have HOB := Lib.hid hob; clear hob)
         refine onlyN_intro ?_
         have hj16 := NxJ.lay_ (v' := v') HS.out.1 HS.out.2.1 HS.out.2.2 HJ15.out ob HOB.out (by
          have h1 := HMM.out.2
          have h2 := HMB.out
          by_cases h0 : k = 0
          ·have h3 := HMK.out h0
           subst h0
           rw [if_pos rfl] at h1
           exact h1.turn (by dsimp only; omega) h3
          ·rw [if_neg h0] at h1
           exact h1.put (by omega) (by dsimp only; omega))
         have hp := NxJ.put HS.out.1 HS.out.2.1 HS.out.2.2 hj16 r0
         exact ⟨hj16.lo, rfl, hp⟩
  | true =>
   have HZ0 : Hid (k = 0 → y.1 ≤ v' ∧ v' ≤ y.2) := Lib.hid fun h0 => by
    have h1 := HK0.out h0
    have h2 := HV.out.2.1
    rw [if_pos rfl] at h2
    omega
   have hr0 := HJ.out.b1.at 0 (v := .slice A l.length c) rfl
   have m0 := HJ.out.b3.at 0 (v := .func (.func 67) #[pmV x] #[]) rfl
   obtain ⟨za, hza⟩ : ∃ q, q = y.1 := ⟨_, rfl⟩
   obtain ⟨zb, hzb⟩ : ∃ q, q = y.2 := ⟨_, rfl⟩
   have hz : -60 ≤ za ∧ za ≤ 1000 ∧ 0 ≤ zb ∧ zb ≤ 1060 := by omega
   have HXA : Hid (Whole w8 xb 136 #[vi za, vi zb]) := Lib.hid (by rw [hza, hzb]; exact HXB.out)
   rw [← hza, ← hzb] at HZ0
   have HJA := HJ
   clear hza hzb xa xc xf xg q1 q2 v0
   gi_wp2_with fail
   obtain ⟨pq, hpq⟩ : ∃ q, q = agN x.p.es l ((k : Int) - 1) := ⟨_, rfl⟩
   have HA := Lib.hid (fun W (h : NxJ x l A c true wb mb D (if k = 0 then v else v') (busyOf r0) w W) => agreed_any x l ((k : Int) - 1) A c W h.er HX.out.1 HX.out.2.1 HX.out.2.2 h.rw_)
   rw [← hpq] at HA
   have hbd := agN_bd HX.out.1.e HX.out.2.2 ((k : Int) - 1)
   rw [← hpq] at hbd
   have HK : Hid (k = 0 → pq.1 ≤ v' ∧ v' ≤ pq.2) := Lib.hid fun h0 => by
    subst h0
    rw [hpq]
    exact HV.out.2.2
   clear hpq
   obtain ⟨p, q⟩ := pq
   refine ⟨trivial, CallsIn.inRound _ (callsIn_wide.2 ((HA.out _ HJA.out).mono ?_))⟩
   rintro e w10 ⟨rfl, hb⟩
   dsimp only
   have nal := newer_trans hb (newer_allocH w10 (.cells #[vi p, vi q] 136))
   have hxlt := Nat.lt_of_lt_of_le HXA.out.lt hb.size
   have hj11 := HJA.out.next nal
   have hx11 := HXA.out.below nal HXA.out.lt
   have hy11 := Whole.made w10 136 #[vi p, vi q]
   clear hb nal hr0 m0 HA HJA HXA
   gi_wp2_with fail
   obtain ⟨w11, hw11⟩ : ∃ w11, w11 = w10.alloc (.cells #[vi p, vi q] 136) := ⟨_, rfl⟩
   rw [← hw11] at hj11 hx11 hy11 ⊢
   obtain ⟨yb, hyb2⟩ : ∃ q, q = w10.heap.size := ⟨_, rfl⟩
   rw [← hyb2] at hy11 hxlt ⊢
   have HJ11 := Lib.hid hj11
   have HX11 := Lib.hid hx11
   have HY11 := Lib.hid hy11
   have HXY := Lib.hid hxlt
   clear hw11 hyb2 hj11 hx11 hy11 hxlt w10
   have xa := HX11.out.at 0 (v := vi za) rfl
   have xc := HX11.out.at 1 (v := vi zb) rfl
   have ya := HY11.out.at 0 (v := vi p) rfl
   have yc := HY11.out.at 1 (v := vi q) rfl
   refine round_words (by kernel_rfl) (by kernel_rfl) (fun _ _ h => h) (region_told 13 (by kernel_rfl) (by kernel_rfl) (fun W => Below w11.heap.size w11 W) newer (pickD [vIs (.pointer (some ⟨xb, 0, none⟩)), vIs (vi za), vIs (.pointer (some ⟨yb, 0, none⟩)), vIs (vi p), vTwoN w11.heap.size za p, vIs (vi (mxI za p)), vIs (.pointer (some ⟨xb, 1, none⟩)), vIs (vi zb), vIs (.pointer (some ⟨yb, 1, none⟩)), vIs (vi q), vTwoN w11.heap.size zb q, vIs (vi (mnI zb q)), vIs (.agg #[vi (mxI za p), vi (mnI zb q)])]) (fun h k => newer_trans h k) (pickD_stable _ ⟨vIs_st, vIs_st, vIs_st, vIs_st, vTwoN_st, vIs_st, vIs_st, vIs_st, vIs_st, vIs_st, vTwoN_st, vIs_st, vIs_st, trivial⟩) (Below.refl _ w11).drew (Below.refl _ _) ?_ ?_)
   ·refine ⟨?_, ?_, ?_, ?_, ?_, ?_, ?_, ?_, ?_, ?_, ?_, ?_, ?_, trivial⟩
    ·intro a W hG hR hO hp; have h8 := hO.slot 8 (by kernel_rfl); refine kY (v := .pointer (some ⟨xb, 0, none⟩)) hG rfl ?_; simp [slotOf] at h8; simp [execOp, go_sem, h8]
    ·intro a W hG hR hO hp; have h42 : slotOf a 42 = .pointer (some ⟨xb, 0, none⟩) := hp.1; have c0 := keep_cell xa hG; refine kY (v := vi za) hG rfl ?_; simp [slotOf] at h42; simp [execOp, go_sem, h42, c0]
    ·intro a W hG hR hO hp; have h9 := hO.slot 9 (by kernel_rfl); refine kY (v := .pointer (some ⟨yb, 0, none⟩)) hG rfl ?_; simp [slotOf] at h9; simp [execOp, go_sem, h9]
    ·intro a W hG hR hO hp; have h44 : slotOf a 44 = .pointer (some ⟨yb, 0, none⟩) := hp.1; have c0 := keep_cell ya hG; refine kY (v := vi p) hG rfl ?_; simp [slotOf] at h44; simp [execOp, go_sem, h44, c0]
    ·intro a W hG hR hO hp; have h43 : slotOf a 43 = vi za := hp.1; have h45 : slotOf a 45 = vi p := hp.2.1; refine wp_makes (v := .slice (some ⟨W.heap.size, 0, none⟩) 2 2) (W' := W.alloc (.cells #[vi za, vi p] 3)) ?_ ⟨_, rfl, ⟨W.heap.size, rfl, hG.size, Whole.made _ _ _⟩, newer_allocH _ _, below_next hG (newer_allocH _ _)⟩; simp [slotOf] at h43 h45; simp [execOp, go_sem, h43, h45]
    ·intro a W hG hR hO hp
     have h46 := hp.1
     obtain ⟨q9, h46, hq1, hq3⟩ := h46
     refine wp_enters (f := 102) (args := #[.slice (some ⟨q9, 0, none⟩) 2 2]) ?_ ((agreat_any za p q9 2 W hq3).mono ?_)
     ·simp [slotOf] at h46
      simp [go_sem, h46]
     ·rintro e w' ⟨rfl, rfl⟩
      exact ⟨_, rfl, _, rfl, rfl, Below.refl _ _, hG⟩
    ·intro a W hG hR hO hp; have h8 := hO.slot 8 (by kernel_rfl); refine kY (v := .pointer (some ⟨xb, 1, none⟩)) hG rfl ?_; simp [slotOf] at h8; simp [execOp, go_sem, h8]
    ·intro a W hG hR hO hp; have h48 : slotOf a 48 = .pointer (some ⟨xb, 1, none⟩) := hp.1; have c0 := keep_cell xc hG; refine kY (v := vi zb) hG rfl ?_; simp [slotOf] at h48; simp [execOp, go_sem, h48, c0]
    ·intro a W hG hR hO hp; have h9 := hO.slot 9 (by kernel_rfl); refine kY (v := .pointer (some ⟨yb, 1, none⟩)) hG rfl ?_; simp [slotOf] at h9; simp [execOp, go_sem, h9]
    ·intro a W hG hR hO hp; have h50 : slotOf a 50 = .pointer (some ⟨yb, 1, none⟩) := hp.1; have c0 := keep_cell yc hG; refine kY (v := vi q) hG rfl ?_; simp [slotOf] at h50; simp [execOp, go_sem, h50, c0]
    ·intro a W hG hR hO hp; have h49 : slotOf a 49 = vi zb := hp.1; have h51 : slotOf a 51 = vi q := hp.2.1; refine wp_makes (v := .slice (some ⟨W.heap.size, 0, none⟩) 2 2) (W' := W.alloc (.cells #[vi zb, vi q] 3)) ?_ ⟨_, rfl, ⟨W.heap.size, rfl, hG.size, Whole.made _ _ _⟩, newer_allocH _ _, below_next hG (newer_allocH _ _)⟩; simp [slotOf] at h49 h51; simp [execOp, go_sem, h49, h51]
    ·intro a W hG hR hO hp
     have h52 := hp.1
     obtain ⟨q9, h52, hq1, hq3⟩ := h52
     refine wp_enters (f := 103) (args := #[.slice (some ⟨q9, 0, none⟩) 2 2]) ?_ ((aleast_any zb q q9 2 W hq3).mono ?_)
     ·simp [slotOf] at h52
      simp [go_sem, h52]
     ·rintro e w' ⟨rfl, rfl⟩
      exact ⟨_, rfl, _, rfl, rfl, Below.refl _ _, hG⟩
    ·intro a W hG hR hO hp; have h47 : slotOf a 47 = vi (mxI za p) := hp.1; have h53 : slotOf a 53 = vi (mnI zb q) := hp.2.1; refine kY (v := .agg #[vi (mxI za p), vi (mnI zb q)]) hG rfl ?_; simp [slotOf] at h47 h53; simp [execOp, go_sem, h47, h53]
   ·intro w12 hG hR
    rintro _ rfl _ rfl _ rfl _ rfl _ - _ rfl _ rfl _ rfl _ rfl _ rfl _ - _ rfl _ rfl
    change wpList _ _ _ _ _ _
    simp only [Act.put, List.setIfInBounds_toArray, List.set_cons_zero, List.set_cons_succ, List.drop_succ_cons, List.drop_zero]
    have HJ12 := Lib.hid (HJ11.out.next hG)
    have HX12 := Lib.hid (HX11.out.below hG HX11.out.lt)
    have HY12 := Lib.hid (HY11.out.below hG HY11.out.lt)
    clear hG hR HJ11 HX11 HY11 xa xc ya yc
    have xa := HX12.out.at 0 (v := vi za) rfl
    have xc := HX12.out.at 1 (v := vi zb) rfl
    have xf := HX12.out.free 0
    have xg := HX12.out.free 1
    go_wp2_with fail
    refine onlyN_intro ?_
    have hx13 := whole_two HX12.out (vi (mxI za p)) (vi (mnI zb q))
    have hy13 := HY12.out.grown (grown_two w12 xb (vi (mxI za p)) (vi (mnI zb q))) (fun e => by injection e with e; have := HXY.out; omega)
    have hj13 := NxJ.far HS.out.1 HS.out.2.1 HS.out.2.2 HJ12.out HGT.out (grown_two w12 xb (vi (mxI za p)) (vi (mnI zb q)))
    obtain ⟨w13, hw13⟩ : ∃ q2, q2 = (w12.setCell ⟨xb, 0, none⟩ (vi (mxI za p))).setCell ⟨xb, 1, none⟩ (vi (mnI zb q)) := ⟨_, rfl⟩
    rw [← hw13] at hx13 hy13 hj13 ⊢
    obtain ⟨ma, hma⟩ : ∃ q, q = mxI za p := ⟨_, rfl⟩
    obtain ⟨mi, hmi⟩ : ∃ q2, q2 = mnI zb q := ⟨_, rfl⟩
    rw [← hma, ← hmi] at hx13
    have HMB : Hid (p ≤ ma ∧ mi ≤ q) := Lib.hid (by rw [hma, hmi]; unfold mxI mnI; split <;> split <;> omega)
    have HMK : Hid (k = 0 → ma ≤ v' ∧ v' ≤ mi) := Lib.hid (fun h0 => by
     have h1 := HZ0.out h0
     have h2 := HK.out h0
     rw [hma, hmi]
     unfold mxI mnI
     split <;> split <;> omega)
    have HJ13 := Lib.hid hj13
    have HX13 := Lib.hid hx13
    have HY13 := Lib.hid hy13
    clear hma hmi hw13 hj13 hx13 hy13 xa xc xf xg HJ12 HX12 HY12 w12
    have xa := HX13.out.at 0 (v := vi ma) rfl
    have xc := HX13.out.at 1 (v := vi mi) rfl
    rcases hbd with hno | hyes
    ·have h1 : p = 1 := congrArg Prod.fst hno
     have h2 : q = 0 := congrArg Prod.snd hno
     subst h1
     subst h2
     have HKN : Hid (k ≠ 0) := Lib.hid (fun h0 => by have := HK.out h0; omega)
     have ya := HY13.out.at 0 (v := vi 1) rfl
     have yc := HY13.out.at 1 (v := vi 0) rfl
     gi_wp2_with fail
     refine round_words (by kernel_rfl) (by kernel_rfl) (fun _ _ h => h) (region_told_u 9 (by kernel_rfl) (by kernel_rfl) [false, false, false, false, true, true, true, true, true] (fun W => Below w13.heap.size w13 W) newer [vIs (prV (1, 0)), vIs (prV (1, 0)), vIs (.bool true), vIs (.bool true), vIs (undef), vIs (undef), vIs (undef), vIs (undef), vIs (undef)] (by repeat' first | refine And.intro ?_ ?_ | exact trivial | exact rfl | (intro v W h; obtain rfl : v = _ := h; first | rfl | (simp; done) | (simp [undef]; done))) (by repeat' first | refine And.intro ?_ ?_ | exact trivial | exact (fun h => Bool.noConfusion (show false = true from h)) | exact (fun _ _ => rfl)) (fun h k => newer_trans h k) (pickD_stable _ (by repeat' first | refine And.intro ?_ ?_ | exact trivial | exact vIs_st)) (Below.refl _ w13).drew (Below.refl _ _) ?_ ?_)
     ·refine ⟨.inr ?_, .inr ?_, .inr ?_, .inr ?_, .inl rfl, .inl rfl, .inl rfl, .inl rfl, .inl rfl, trivial⟩
      ·intro a W hG hR hO hp; have h9 := hO.slot 9 (by kernel_rfl); have c0 := keep_cell ya hG; have c1 := keep_cell yc hG; refine kY (v := prV (1, 0)) hG rfl ?_; simp [slotOf] at h9; simp [execOp, go_sem, h9, c0, c1]
      ·intro a W hG hR hO hp
       refine wp_enters (f := 104) (args := #[]) ?_ ((nothing_any W).mono ?_)
       ·skip
        simp [go_sem]
       ·rintro e w' ⟨rfl, hb⟩
        exact ⟨_, rfl, _, rfl, rfl, hb, below_next hG hb⟩
      ·intro a W hG hR hO hp; have h55 : slotOf a 55 = prV (1, 0) := hp.1; have h56 : slotOf a 56 = prV (1, 0) := hp.2.1; refine kY (v := .bool true) hG rfl ?_; simp [slotOf] at h55 h56; simp [execOp, go_sem, h55, h56, eqE]
      ·exact fun a W hG _ _ hp => kM 57 rfl hp.1 rfl hG
     ·intro w14 hG hR
      rintro _ rfl _ rfl _ rfl _ rfl _ rfl _ rfl _ rfl _ rfl _ rfl
      change wpList _ _ _ _ _ _
      simp only [Act.put, List.setIfInBounds_toArray, List.set_cons_zero, List.set_cons_succ, List.drop_succ_cons, List.drop_zero]
      have hj14 := HJ13.out.next hG
      obtain ⟨m, hm, hmay⟩ := hj14.mp
      have HMM := Lib.hid (And.intro hm hmay)
      have v0 := hj14.b0.at 0 (v := .pointer (some ⟨wb, 0, none⟩)) rfl
      have q6 := hj14.bx.at 6 (v := .map (some mb)) rfl
      have HJ14 := Lib.hid hj14
      clear hG hR hj14 hm hmay HJ13 HX13 HY13 xa xc ya yc
      go_wp2_with fail
      refine onlyN_intro ?_
      gi_wp2_with (gi_at_delete; refine wpListIn_delete_i _ rfl _ _ 185 3 rfl Try.underlying3 Try.underlying185 mb m rfl HMM.out.1 ((k : Int) - 1) rfl ?_; intro ob hob; have HOB := Lib.hid hob; clear hob)
      have hj15 := NxJ.lay_ (v' := v') HS.out.1 HS.out.2.1 HS.out.2.2 HJ14.out ob HOB.out (by
       have h1 := HMM.out.2
       rw [if_neg HKN.out] at h1
       exact h1.del (by have := HKN.out; omega))
      have hp := NxJ.put HS.out.1 HS.out.2.1 HS.out.2.2 hj15 r0
      exact ⟨hj15.lo, rfl, hp⟩
    ·have hpq : ¬ ((p, q) = ((1 : Int), (0 : Int))) := fun e => by
      injection e with e1 e2
      omega
     have ya := HY13.out.at 0 (v := vi p) rfl
     have yc := HY13.out.at 1 (v := vi q) rfl
     gi_wp2_with fail
     by_cases hmm : mi < ma
     ·have HKN : Hid (k ≠ 0) := Lib.hid (fun h0 => by have := HMK.out h0; omega)
      refine round_words (by kernel_rfl) (by kernel_rfl) (fun _ _ h => h) (region_told_u 9 (by kernel_rfl) (by kernel_rfl) [false, false, false, false, false, false, false, false, false] (fun W => Below w13.heap.size w13 W) newer [vIs (prV (p, q)), vIs (prV (1, 0)), vIs (.bool false), vIs (.bool false), vIs (.pointer (some ⟨xb, 0, none⟩)), vIs (vi ma), vIs (.pointer (some ⟨xb, 1, none⟩)), vIs (vi mi), vIs (.bool true)] (by repeat' first | refine And.intro ?_ ?_ | exact trivial | exact rfl | (intro v W h; obtain rfl : v = _ := h; first | rfl | (simp; done) | (simp [undef]; done))) (by repeat' first | refine And.intro ?_ ?_ | exact trivial | exact (fun h => Bool.noConfusion (show false = true from h)) | exact (fun _ _ => rfl)) (fun h k => newer_trans h k) (pickD_stable _ (by repeat' first | refine And.intro ?_ ?_ | exact trivial | exact vIs_st)) (Below.refl _ w13).drew (Below.refl _ _) ?_ ?_)
      ·refine ⟨.inr ?_, .inr ?_, .inr ?_, .inr ?_, .inr ?_, .inr ?_, .inr ?_, .inr ?_, .inr ?_, trivial⟩
       ·intro a W hG hR hO hp; have h9 := hO.slot 9 (by kernel_rfl); have c0 := keep_cell ya hG; have c1 := keep_cell yc hG; refine kY (v := prV (p, q)) hG rfl ?_; simp [slotOf] at h9; simp [execOp, go_sem, h9, c0, c1]
       ·intro a W hG hR hO hp
        refine wp_enters (f := 104) (args := #[]) ?_ ((nothing_any W).mono ?_)
        ·skip
         simp [go_sem]
        ·rintro e w' ⟨rfl, hb⟩
         exact ⟨_, rfl, _, rfl, rfl, hb, below_next hG hb⟩
       ·intro a W hG hR hO hp; have h55 : slotOf a 55 = prV (p, q) := hp.1; have h56 : slotOf a 56 = prV (1, 0) := hp.2.1; refine kY (v := .bool false) hG rfl ?_; simp [slotOf] at h55 h56; simp [execOp, go_sem, h55, h56, eqE, hpq]
       ·exact fun a W hG _ _ hp => kM 57 rfl hp.1 rfl hG
       ·intro a W hG hR hO hp; have h8 := hO.slot 8 (by kernel_rfl); refine kY (v := .pointer (some ⟨xb, 0, none⟩)) hG rfl ?_; simp [slotOf] at h8; simp [execOp, go_sem, h8]
       ·intro a W hG hR hO hp; have h59 : slotOf a 59 = .pointer (some ⟨xb, 0, none⟩) := hp.1; have c0 := keep_cell xa hG; refine kY (v := vi ma) hG rfl ?_; simp [slotOf] at h59; simp [execOp, go_sem, h59, c0]
       ·intro a W hG hR hO hp; have h8 := hO.slot 8 (by kernel_rfl); refine kY (v := .pointer (some ⟨xb, 1, none⟩)) hG rfl ?_; simp [slotOf] at h8; simp [execOp, go_sem, h8]
       ·intro a W hG hR hO hp; have h61 : slotOf a 61 = .pointer (some ⟨xb, 1, none⟩) := hp.1; have c0 := keep_cell xc hG; refine kY (v := vi mi) hG rfl ?_; simp [slotOf] at h61; simp [execOp, go_sem, h61, c0]
       ·intro a W hG hR hO hp; have h60 : slotOf a 60 = vi ma := hp.1; have h62 : slotOf a 62 = vi mi := hp.2.1; refine kY (v := .bool true) hG rfl ?_; simp [slotOf] at h60 h62; simp [execOp, go_sem, h60, h62, hmm]
      ·intro w14 hG hR
       rintro _ rfl _ rfl _ rfl _ rfl _ rfl _ rfl _ rfl _ rfl _ rfl
       change wpList _ _ _ _ _ _
       simp only [Act.put, List.setIfInBounds_toArray, List.set_cons_zero, List.set_cons_succ, List.drop_succ_cons, List.drop_zero]
       have hj14 := HJ13.out.next hG
       obtain ⟨m, hm, hmay⟩ := hj14.mp
       have HMM := Lib.hid (And.intro hm hmay)
       have v0 := hj14.b0.at 0 (v := .pointer (some ⟨wb, 0, none⟩)) rfl
       have q6 := hj14.bx.at 6 (v := .map (some mb)) rfl
       have HJ14 := Lib.hid hj14
       clear hG hR hj14 hm hmay HJ13 HX13 HY13 xa xc ya yc
       go_wp2_with fail
       refine onlyN_intro ?_
       gi_wp2_with (gi_at_delete; refine wpListIn_delete_i _ rfl _ _ 185 3 rfl Try.underlying3 Try.underlying185 mb m rfl HMM.out.1 ((k : Int) - 1) rfl ?_; intro ob hob; have HOB := Lib.hid hob; clear hob)
       have hj15 := NxJ.lay_ (v' := v') HS.out.1 HS.out.2.1 HS.out.2.2 HJ14.out ob HOB.out (by
        have h1 := HMM.out.2
        rw [if_neg HKN.out] at h1
        exact h1.del (by have := HKN.out; omega))
       have hp := NxJ.put HS.out.1 HS.out.2.1 HS.out.2.2 hj15 r0
       exact ⟨hj15.lo, rfl, hp⟩
     ·have hmm2 : ma ≤ mi := by omega
      refine round_words (by kernel_rfl) (by kernel_rfl) (fun _ _ h => h) (region_told_u 9 (by kernel_rfl) (by kernel_rfl) [false, false, false, false, false, false, false, false, false] (fun W => Below w13.heap.size w13 W) newer [vIs (prV (p, q)), vIs (prV (1, 0)), vIs (.bool false), vIs (.bool false), vIs (.pointer (some ⟨xb, 0, none⟩)), vIs (vi ma), vIs (.pointer (some ⟨xb, 1, none⟩)), vIs (vi mi), vIs (.bool false)] (by repeat' first | refine And.intro ?_ ?_ | exact trivial | exact rfl | (intro v W h; obtain rfl : v = _ := h; first | rfl | (simp; done) | (simp [undef]; done))) (by repeat' first | refine And.intro ?_ ?_ | exact trivial | exact (fun h => Bool.noConfusion (show false = true from h)) | exact (fun _ _ => rfl)) (fun h k => newer_trans h k) (pickD_stable _ (by repeat' first | refine And.intro ?_ ?_ | exact trivial | exact vIs_st)) (Below.refl _ w13).drew (Below.refl _ _) ?_ ?_)
      ·refine ⟨.inr ?_, .inr ?_, .inr ?_, .inr ?_, .inr ?_, .inr ?_, .inr ?_, .inr ?_, .inr ?_, trivial⟩
       ·intro a W hG hR hO hp; have h9 := hO.slot 9 (by kernel_rfl); have c0 := keep_cell ya hG; have c1 := keep_cell yc hG; refine kY (v := prV (p, q)) hG rfl ?_; simp [slotOf] at h9; simp [execOp, go_sem, h9, c0, c1]
       ·intro a W hG hR hO hp
        refine wp_enters (f := 104) (args := #[]) ?_ ((nothing_any W).mono ?_)
        ·skip
         simp [go_sem]
        ·rintro e w' ⟨rfl, hb⟩
         exact ⟨_, rfl, _, rfl, rfl, hb, below_next hG hb⟩
       ·intro a W hG hR hO hp; have h55 : slotOf a 55 = prV (p, q) := hp.1; have h56 : slotOf a 56 = prV (1, 0) := hp.2.1; refine kY (v := .bool false) hG rfl ?_; simp [slotOf] at h55 h56; simp [execOp, go_sem, h55, h56, eqE, hpq]
       ·exact fun a W hG _ _ hp => kM 57 rfl hp.1 rfl hG
       ·intro a W hG hR hO hp; have h8 := hO.slot 8 (by kernel_rfl); refine kY (v := .pointer (some ⟨xb, 0, none⟩)) hG rfl ?_; simp [slotOf] at h8; simp [execOp, go_sem, h8]
       ·intro a W hG hR hO hp; have h59 : slotOf a 59 = .pointer (some ⟨xb, 0, none⟩) := hp.1; have c0 := keep_cell xa hG; refine kY (v := vi ma) hG rfl ?_; simp [slotOf] at h59; simp [execOp, go_sem, h59, c0]
       ·intro a W hG hR hO hp; have h8 := hO.slot 8 (by kernel_rfl); refine kY (v := .pointer (some ⟨xb, 1, none⟩)) hG rfl ?_; simp [slotOf] at h8; simp [execOp, go_sem, h8]
       ·intro a W hG hR hO hp; have h61 : slotOf a 61 = .pointer (some ⟨xb, 1, none⟩) := hp.1; have c0 := keep_cell xc hG; refine kY (v := vi mi) hG rfl ?_; simp [slotOf] at h61; simp [execOp, go_sem, h61, c0]
       ·intro a W hG hR hO hp; have h60 : slotOf a 60 = vi ma := hp.1; have h62 : slotOf a 62 = vi mi := hp.2.1; refine kY (v := .bool false) hG rfl ?_; simp [slotOf] at h60 h62; simp [execOp, go_sem, h60, h62, hmm]
      ·intro w14 hG hR
       rintro _ rfl _ rfl _ rfl _ rfl _ rfl _ rfl _ rfl _ rfl _ rfl
       change wpList _ _ _ _ _ _
       simp only [Act.put, List.setIfInBounds_toArray, List.set_cons_zero, List.set_cons_succ, List.drop_succ_cons, List.drop_zero]
       have hj14 := HJ13.out.next hG
       have hx14 := HX13.out.below hG HX13.out.lt
       obtain ⟨m, hm, hmay⟩ := hj14.mp
       have HMM := Lib.hid (And.intro hm hmay)
       have v0 := hj14.b0.at 0 (v := .pointer (some ⟨wb, 0, none⟩)) rfl
       have q6 := hj14.bx.at 6 (v := .map (some mb)) rfl
       have HJ14 := Lib.hid hj14
       clear hG hR hj14 hm hmay HJ13 HY13 xa xc ya yc
       have xa := hx14.at 0 (v := vi ma) rfl
       have xc := hx14.at 1 (v := vi mi) rfl
       clear hx14 HX13
       go_wp2_with fail
       refine onlyN_intro ?_
       gi_wp2_with fail
       refine round_words (by kernel_rfl) (by kernel_rfl) (fun _ _ h => h) (region_told 6 (by kernel_rfl) (by kernel_rfl) (fun W => Below w14.heap.size w14 W) newer (pickD [vIs (.pointer (some ⟨wb, 0, none⟩)), vIs (.pointer (some ⟨wb, 0, none⟩)), vIs (.pointer (some ⟨wb, 6, none⟩)), vIs (.map (some mb)), vIs (vi ((k : Int) - 1)), vIs (prV (ma, mi))]) (fun h k => newer_trans h k) (pickD_stable _ ⟨vIs_st, vIs_st, vIs_st, vIs_st, vIs_st, vIs_st, trivial⟩) (Below.refl _ w14).drew (Below.refl _ _) ?_ ?_)
       ·refine ⟨?_, ?_, ?_, ?_, ?_, ?_, trivial⟩
        ·intro a W hG hR hO hp; have h3 := hO.slot 3 (by kernel_rfl); have c0 := keep_cell v0 hG; refine kY (v := .pointer (some ⟨wb, 0, none⟩)) hG rfl ?_; simp [slotOf] at h3; simp [execOp, go_sem, h3, c0]
        ·intro a W hG hR hO hp; have h70 : slotOf a 70 = .pointer (some ⟨wb, 0, none⟩) := hp.1; refine kY (v := .pointer (some ⟨wb, 0, none⟩)) hG rfl ?_; simp [slotOf] at h70; simp [execOp, go_sem, h70]
        ·intro a W hG hR hO hp; have h71 : slotOf a 71 = .pointer (some ⟨wb, 0, none⟩) := hp.1; refine kY (v := .pointer (some ⟨wb, 6, none⟩)) hG rfl ?_; simp [slotOf] at h71; simp [execOp, go_sem, h71]
        ·intro a W hG hR hO hp; have h72 : slotOf a 72 = .pointer (some ⟨wb, 6, none⟩) := hp.1; have c0 := keep_cell q6 hG; refine kY (v := .map (some mb)) hG rfl ?_; simp [slotOf] at h72; simp [execOp, go_sem, h72, c0]
        ·exact fun a W hG _ hO _ => kM 7 rfl (hO.slot 7 (by kernel_rfl)) rfl hG
        ·intro a W hG hR hO hp; have h8 := hO.slot 8 (by kernel_rfl); have c0 := keep_cell xa hG; have c1 := keep_cell xc hG; refine kY (v := prV (ma, mi)) hG rfl ?_; simp [slotOf] at h8; simp [execOp, go_sem, h8, c0, c1]
       ·intro w15 hG hR
        rintro _ rfl _ rfl _ rfl _ rfl _ rfl _ rfl
        change wpList _ _ _ _ _ _
        simp only [Act.put, List.setIfInBounds_toArray, List.set_cons_zero, List.set_cons_succ, List.drop_succ_cons, List.drop_zero]
        have HJ15 := Lib.hid (HJ14.out.next hG)
        have HM15 := Lib.hid (HMM.out.1.next hG)
        clear hG hR HJ14 v0 q6 xa xc
        go_wp2_with (at_mapUpdate; refine wpList_update_i _ rfl _ _ _ 185 rfl Try.underlying3 Try.underlying185 mb m rfl HM15.out ((k : Int) - 1) (ma, mi) rfl rfl ?_; intro ob hob; have HOB := Lib.hid hob; clear hob)
        refine onlyN_intro ?_
        have hj16 := NxJ.lay_ (v' := v') HS.out.1 HS.out.2.1 HS.out.2.2 HJ15.out ob HOB.out (by
         have h1 := HMM.out.2
         have h2 := HMB.out
         by_cases h0 : k = 0
         ·have h3 := HMK.out h0
          subst h0
          rw [if_pos rfl] at h1
          exact h1.turn (by dsimp only; omega) h3
         ·rw [if_neg h0] at h1
          exact h1.put (by omega) (by dsimp only; omega))
        have hp := NxJ.put HS.out.1 HS.out.2.1 HS.out.2.2 hj16 r0
        exact ⟨hj16.lo, rfl, hp⟩
 ·rintro e W ⟨⟨u, rfl⟩, hj⟩
  refine ⟨⟨_, rfl⟩, .inl ⟨hj.lo, ?_⟩⟩
  rw [if_neg (by omega)] at hj
  have hj5 := NxJ.put HS.out.1 HS.out.2.1 HS.out.2.2 hj (overOf r0)
  have HE := Lib.hid hj5
  obtain ⟨we, hwe⟩ : ∃ we, we = W.putObj (w2.heap.size + 1) (.loop (overOf r0)) := ⟨_, rfl⟩
  rw [← hwe] at HE ⊢
  clear hj hj5 hwe r1 r2 r3 r4 r5 r6
  obtain ⟨D, hD⟩ : ∃ D, D = w2.heap.size := ⟨_, rfl⟩
  rw [← hD] at HE ⊢
  clear hD H2
  go_wp2_with fail
  have hmks : MarksOk [D] we := ⟨by simp, fun E hE => by
   rw [List.mem_singleton.1 hE]
   exact HE.out.df⟩
  refine leaves_marks [D] _ hmks ?_
  intro W2 k1 k2 k3 k4 k5
  refine ⟨.tuple #[], by simp [results, Try.results100, go_sem], ⟨_, rfl⟩, ?_⟩
  have hso := HE.out.so
  have hgr := HE.out.gr
  have hg : w.grownBy W2 (some mb) := ⟨k1.trans hgr.os, k2.trans hgr.tape, k3.trans hgr.output, by rw [k4]; exact hgr.size, fun k hk hne => (k5 k (by rw [List.mem_singleton]; omega)).trans (hgr.block k hk hne)⟩
  obtain ⟨m, h1, h2⟩ := HE.out.mp
  obtain ⟨ms, hms⟩ := HS.out.2.2
  exact ⟨hg, m, ⟨HE.out.bx.same (k5 wb (by rw [List.mem_singleton]; omega)), h1.same (k5 mb (by rw [List.mem_singleton]; omega)), Row.more (row_turned HS.out.1 (Nat.le_refl _) hms hg) hg.size⟩, h2⟩

end Go.Proofs.Ytpmafnifgegfbaa

namespace Go.Proofs.Ytpmafnifgegfbaa
open Go.RowKit Go.Shelf Go.Deep

open Go.ChangeMaps (setBlock)
abbrev stC (lo hi : Int) (lv : Nat) : Array Value := #[vi lo, vi hi, .int .u8 lv]
abbrev stV (lo hi : Int) (lv : Nat) : Value := .agg (stC lo hi lv)
/-- What the rounds of a watch that tells its state hold. -/
structure StJ (wb D : Nat) (lo hi : Int) (fst : Bool) (r : Loop) (w W : World) : Prop where
 nw : newer w W
 b0 : Whole W w.heap.size 63 (stC 0 0 0)
 b1 : Whole W (w.heap.size + 1) 63 (stC lo hi 0)
 b2 : Whole W (w.heap.size + 1 + 1) 4 #[.bool fst]
 b3 : Whole W (w.heap.size + 1 + 1 + 1) 133 #[.pointer (some ⟨wb, 0, none⟩)]
 df : W.heap[D]? = some (.deferred (some []))
 lo_ : W.heap[D + 1]? = some (.loop r)
 so : w.heap.size + 4 = D
section
variable {wb D : Nat} {lo hi : Int} {fst : Bool} {r : Loop} {w W W' : World}
theorem StJ.next (h : StJ wb D lo hi fst r w W) (hb : newer W W') : StJ wb D lo hi fst r w W' :=
 ⟨newer_trans h.nw hb, h.b0.below hb h.b0.lt, h.b1.below hb h.b1.lt, h.b2.below hb h.b2.lt, h.b3.below hb h.b3.lt, (hb.block _ (Array.getElem?_eq_some_iff.1 h.df).1).trans h.df, (hb.block _ (Array.getElem?_eq_some_iff.1 h.lo_).1).trans h.lo_, h.so⟩
theorem nw_of_grown {w W W' : World} {d : Nat} (h : newer w W) (hd : w.heap.size ≤ d) (hg : W.grownBy W' (some d)) : newer w W' := Below.trans h (below_of_grown hg hd h.size)
theorem StJ.put (h : StJ wb D lo hi fst r w W) (r' : Loop) : StJ wb D lo hi fst r' w (W.putObj (D + 1) (.loop r')) := by
 have h3 := h.so
 have hD := (Array.getElem?_eq_some_iff.1 h.lo_).1
 have hp := grown_putL W (D + 1) (.loop r')
 have ne : ∀ {k : Nat}, k ≠ D + 1 → some k ≠ some (D + 1) := fun hk e => hk (by injection e)
 exact ⟨nw_of_grown h.nw (by omega) hp, h.b0.grown hp (ne (by omega)), h.b1.grown hp (ne (by omega)), h.b2.grown hp (ne (by omega)), h.b3.grown hp (ne (by omega)), (hp.block D (Array.getElem?_eq_some_iff.1 h.df).1 (ne (by omega))).trans h.df, World.putObj_heap_same hD, h.so⟩
/-- The state's first two cells are set. -/
theorem StJ.set (h : StJ wb D lo hi fst r w W) (a b : Int) : StJ wb D a b fst r w ((W.setCell ⟨w.heap.size + 1, 0, none⟩ (vi a)).setCell ⟨w.heap.size + 1, 1, none⟩ (vi b)) := by
 have h3 := h.so
 have hp := grown_two W (w.heap.size + 1) (vi a) (vi b)
 have ne : ∀ {k : Nat}, k ≠ w.heap.size + 1 → some k ≠ some (w.heap.size + 1) := fun hk e => hk (by injection e)
 exact ⟨nw_of_grown h.nw (by omega) hp, h.b0.grown hp (ne (by omega)), (h.b1.set 0 (vi a)).set 1 (vi b), h.b2.grown hp (ne (by omega)), h.b3.grown hp (ne (by omega)), (hp.block D (Array.getElem?_eq_some_iff.1 h.df).1 (ne (by omega))).trans h.df, (hp.block (D + 1) (Array.getElem?_eq_some_iff.1 h.lo_).1 (ne (by omega))).trans h.lo_, h.so⟩
/-- The first entry is laid in. -/
theorem StJ.one (h : StJ wb D lo hi fst r w W) (a b : Int) : StJ wb D a b false r w ((((W.setCell ⟨w.heap.size + 1, 0, none⟩ (vi a)).setCell ⟨w.heap.size + 1, 1, none⟩ (vi b)).setCell ⟨w.heap.size + 1, 2, none⟩ (.int .u8 (0 : Nat))).setCell ⟨w.heap.size + 1 + 1, 0, none⟩ (.bool false)) := by
 have h1 := h.set a b
 obtain ⟨W1, hW1⟩ : ∃ q, q = (W.setCell ⟨w.heap.size + 1, 0, none⟩ (vi a)).setCell ⟨w.heap.size + 1, 1, none⟩ (vi b) := ⟨_, rfl⟩
 rw [← hW1] at h1 ⊢
 have e : W1.setCell ⟨w.heap.size + 1, 2, none⟩ (.int .u8 (0 : Nat)) = W1 := setCell_same (h1.b1.at 2 rfl)
 rw [e]
 have h3 := h1.so
 have hp : W1.grownBy (W1.setCell ⟨w.heap.size + 1 + 1, 0, none⟩ (.bool false)) (some (w.heap.size + 1 + 1)) := grown_set (p := ⟨w.heap.size + 1 + 1, 0, none⟩) (grown_refl _ _) (.inl rfl) _
 have ne : ∀ {k : Nat}, k ≠ w.heap.size + 1 + 1 → some k ≠ some (w.heap.size + 1 + 1) := fun hk e => hk (by injection e)
 exact ⟨nw_of_grown h1.nw (by omega) hp, h1.b0.grown hp (ne (by omega)), h1.b1.grown hp (ne (by omega)), h1.b2.set 0 (.bool false), h1.b3.grown hp (ne (by omega)), (hp.block D (Array.getElem?_eq_some_iff.1 h1.df).1 (ne (by omega))).trans h1.df, (hp.block (D + 1) (Array.getElem?_eq_some_iff.1 h1.lo_).1 (ne (by omega))).trans h1.lo_, h1.so⟩
end
/-- What the state holds behind so many gauges. -/
def stN (v : Int) (k : Nat) (lo hi : Int) (fst : Bool) : Prop := if k = 0 then fst = true else fst = false ∧ 0 ≤ lo ∧ lo ≤ v ∧ v ≤ hi ∧ hi ≤ 1000
attribute [local go_sem] Oper.semAt_some
set_option maxRecDepth 100000 in
set_option maxHeartbeats 2000000 in
theorem state_any (x : Pm) (wb mb : Nat) (v : Int) (m : List (Int × Int × Int)) (w : World) (hp : PoOk x.p) (hwa : WaIn x wb mb m w) (hmay : MayOk v m) (hlv : x.p.g = 60 ∨ x.p.fall ≤ v) :
  Calls Try.prog 101 #[.pointer (some ⟨wb, 0, none⟩)] w fun e w' => newer w w' ∧ ∃ lo hi, e = .returned (.tuple #[stV lo hi (levelA x.p hi), .bool true]) ∧ 0 ≤ lo ∧ lo ≤ v ∧ v ≤ hi ∧ hi ≤ 1000 := by
 have HX := Lib.hid (And.intro hp (And.intro hwa hmay))
 have HLB := Lib.hid hlv
 clear hp hwa hmay hlv
 refine callsIn_wide.1 (callsIn_of_wp_marks (n := 9) Try.func101 rfl trivial ?_ rfl)
 simp only [Try.ntmps101, List.size_toArray, List.length_cons, List.length_nil, Nat.reduceAdd, Nat.reduceSub, Array.replicate_succ, Array.replicate_zero, List.push_toArray, List.append_toArray, List.nil_append, List.cons_append]
 refine wpIn_wide.2 ?_
 go_upto_region 2 with fail
 refine genQ (fun X => newer w X ∧ X.heap.size = w.heap.size + 1 + 1 + 1 ∧ Whole X w.heap.size 63 (stC 0 0 0) ∧ Whole X (w.heap.size + 1) 63 (stC 0 0 0) ∧ Whole X (w.heap.size + 1 + 1) 4 #[.bool true]) ?hg ?_
 case hg =>
  have e1 := newer_allocH w (.cells (stC 0 0 0) 63)
  have e2 := newer_allocH (w.alloc (.cells (stC 0 0 0) 63)) (.cells (stC 0 0 0) 63)
  have e3 := newer_allocH ((w.alloc (.cells (stC 0 0 0) 63)).alloc (.cells (stC 0 0 0) 63)) (.cells #[.bool true] 4)
  have a0 := ((Whole.made w 63 (stC 0 0 0)).alloc (.cells (stC 0 0 0) 63)).alloc (.cells #[.bool true] 4)
  have a1 := (Whole.made (w.alloc (.cells (stC 0 0 0) 63)) 63 (stC 0 0 0)).alloc (.cells #[.bool true] 4)
  have a2 := Whole.made ((w.alloc (.cells (stC 0 0 0) 63)).alloc (.cells (stC 0 0 0) 63)) 4 #[.bool true]
  simp only [World.size_alloc] at a1 a2
  exact ⟨newer_trans (newer_trans e1 e2) e3, by simp only [World.size_alloc], a0, a1, a2⟩
 intro w1 h1
 have H1 := Lib.hid h1
 clear h1
 go_wp2_with fail
 refine (failing_any wb _).mono ?_
 rintro e w2 ⟨rfl, hw2⟩
 rw [H1.out.2.1]
 have H2 : Hid (newer w w2 ∧ w2.heap.size = w.heap.size + 4 ∧ Whole w2 w.heap.size 63 (stC 0 0 0) ∧ Whole w2 (w.heap.size + 1) 63 (stC 0 0 0) ∧ Whole w2 (w.heap.size + 1 + 1) 4 #[.bool true] ∧ Whole w2 (w.heap.size + 1 + 1 + 1) 133 #[.pointer (some ⟨wb, 0, none⟩)]) := Lib.hid (by
  have e1 := newer_allocH w1 (.cells #[.pointer (some ⟨wb, 0, none⟩)] 133)
  have a1 := Whole.made w1 133 #[.pointer (some ⟨wb, 0, none⟩)]
  rw [← hw2] at e1 a1
  rw [H1.out.2.1] at a1
  obtain ⟨g1, g2, g3, g4, g5⟩ := H1.out
  exact ⟨newer_trans g1 e1, by rw [hw2, World.size_alloc, g2], g3.below e1 g3.lt, g4.below e1 g4.lt, g5.below e1 g5.lt, a1⟩)
 clear hw2 H1 w1
 go_wp2_with fail
 refine (wpIn_wide (n := 9)).1 (range_law (gf := 140) (lb := #[.pointer (some ⟨w.heap.size + 1 + 1 + 1, 0, none⟩)]) rfl (enters_of Try.func140 (by kernel_rfl) rfl) ?_)
 intro r0 r1 r2 r3 r4 r5 r6
 refine (callsIn_wide.1 (fail_in 8 (w2.heap.size + 1) (w.heap.size + 1 + 1 + 1) wb mb x HX.out.1 (fun k W => ∃ lo hi fst, StJ wb w2.heap.size lo hi fst r0 w W ∧ stN v k lo hi fst) ?hJ ?hN ?hS ?hY _ ?h0)).mono ?_
 case hJ => exact fun k W ⟨lo, hi, fst, hj, _⟩ => ⟨hj.b3, m, HX.out.2.1.next hj.nw⟩
 case hN => exact fun k W W' ⟨lo, hi, fst, hj, hs⟩ hb => ⟨lo, hi, fst, hj.next hb, hs⟩
 case hS =>
  rintro k W m' hk ⟨lo, hi, fst, hj, hs⟩ hm hno
  by_cases h0 : k = 0
  ·subst h0
   obtain ⟨y, hy, _⟩ := HX.out.2.2.at_
   rw [(HX.out.2.1.next hj.nw).mp.uniq hm.mp] at hy
   exact absurd hy (hno y)
  ·refine ⟨lo, hi, fst, hj, ?_⟩
   unfold stN at hs ⊢
   rw [if_neg h0] at hs
   rw [if_neg (by omega)]
   exact hs
 case h0 =>
  have e1 := newer_trans (newer_allocH w2 (.deferred (some []))) (newer_allocH (w2.alloc (.deferred (some []))) (.loop r0))
  obtain ⟨a1, a2, a3, a4, a5, a6⟩ := H2.out
  refine ⟨0, 0, true, ⟨newer_trans a1 e1, a3.below e1 a3.lt, a4.below e1 a4.lt, a5.below e1 a5.lt, a6.below e1 a6.lt, ?_, ?_, a2.symm⟩, rfl⟩
  ·simp only [heap_if, World.size_alloc]
   repeat rw [if_neg (by omega)]
   rfl
  ·simp only [heap_if, World.size_alloc]
   repeat rw [if_neg (by omega)]
   rfl
 case hY =>
  rintro k W m' y hk ⟨lo, hi, fst, hj, hs⟩ hm hym
  rw [← (HX.out.2.1.next hj.nw).mp.uniq hm.mp] at hym
  have hyb := HX.out.2.2.bd _ hym
  dsimp only at hyb
  have HK0 : Hid (k = 0 → y.1 ≤ v ∧ v ≤ y.2) := Lib.hid (fun h0 => by
   obtain ⟨z, hz, hz2⟩ := HX.out.2.2.at_
   subst h0
   have e : ((-1 : Int), z) = (((0 : Nat) : Int) - 1, y) := nodup_inj HX.out.2.1.mp.nodup hz hym rfl
   injection e with _ e
   rw [← e]
   exact hz2)
  refine yield_round (r := r0) hj.lo_ r1 r2 (by rw [r4]; rfl) ?_
  rw [r3, r4, r5, r6]
  simp only [List.zip_toArray, List.zip_cons_cons, List.zip_nil_right, List.foldl_toArray, List.foldl_cons, List.foldl_nil, List.setIfInBounds_toArray, List.set_cons_zero, List.set_cons_succ]
  gi_wp2_with fail
  have hj1 := hj.next (newer_allocH W (.cells (prC y) 136))
  refine ⟨hj1.lo_, ?_⟩
  have hj5 := hj1.put (busyOf r0)
  have hlw := (Array.getElem?_eq_some_iff.1 hj.lo_).1
  have hxb : Whole ((W.alloc (.cells (prC y) 136)).putObj (w2.heap.size + 1) (.loop (busyOf r0))) W.heap.size 136 (prC y) := (Whole.made W 136 (prC y)).put (by omega) _
  have HSO := Lib.hid (And.intro hj.so hlw)
  obtain ⟨w8, hw8⟩ : ∃ w8, w8 = (W.alloc (.cells (prC y) 136)).putObj (w2.heap.size + 1) (.loop (busyOf r0)) := ⟨_, rfl⟩
  rw [← hw8] at hj5 hxb ⊢
  obtain ⟨xb, hxe⟩ : ∃ q, q = W.heap.size := ⟨_, rfl⟩
  rw [← hxe] at hxb HSO ⊢
  obtain ⟨D, hD⟩ : ∃ D, D = w2.heap.size := ⟨_, rfl⟩
  rw [← hD] at hj5 HSO ⊢
  have HXB := Lib.hid hxb
  have HJ := Lib.hid hj5
  have HS := Lib.hid hs
  clear hw8 hj hj1 hxe hj5 hxb r1 r2 r3 r4 r5 r6 hD H2 hlw hm hym hs
  have f0 := HJ.out.b2.at 0 (v := .bool fst) rfl
  have ff := HJ.out.b2.free 0
  have s0 := HJ.out.b1.at 0 (v := vi lo) rfl
  have s1 := HJ.out.b1.at 1 (v := vi hi) rfl
  have s2 := HJ.out.b1.at 2 (v := .int .u8 (0 : Nat)) rfl
  have sf := HJ.out.b1.free 0
  have sg := HJ.out.b1.free 1
  have sh := HJ.out.b1.free 2
  have xa := HXB.out.at 0 (v := vi y.1) rfl
  have xc := HXB.out.at 1 (v := vi y.2) rfl
  by_cases h0 : k = 0
  ·obtain rfl : fst = true := by have := HS.out; unfold stN at this; rw [if_pos h0] at this; exact this
   gi_wp2_with fail
   have hj9 := HJ.out.one y.1 y.2
   have hx9 := (((HXB.out.far (p := ⟨w.heap.size + 1, 0, none⟩) (by show xb ≠ w.heap.size + 1; have := HSO.out; omega) (vi y.1)).far (p := ⟨w.heap.size + 1, 1, none⟩) (by show xb ≠ w.heap.size + 1; have := HSO.out; omega) (vi y.2)).far (p := ⟨w.heap.size + 1, 2, none⟩) (by show xb ≠ w.heap.size + 1; have := HSO.out; omega) (.int .u8 (0 : Nat))).far (p := ⟨w.heap.size + 1 + 1, 0, none⟩) (by show xb ≠ w.heap.size + 1 + 1; have := HSO.out; omega) (.bool false)
   clear f0 ff s0 s1 s2 sf sg sh xa xc HJ HXB HS
   obtain ⟨wz, hwz⟩ : ∃ q, q = ((((w8.setCell ⟨w.heap.size + 1, 0, none⟩ (vi y.1)).setCell ⟨w.heap.size + 1, 1, none⟩ (vi y.2)).setCell ⟨w.heap.size + 1, 2, none⟩ (.int .u8 (0 : Nat))).setCell ⟨w.heap.size + 1 + 1, 0, none⟩ (.bool false)) := ⟨_, rfl⟩
   rw [← hwz] at hj9 hx9
   have HJ9 := Lib.hid hj9
   have HX9 := Lib.hid hx9
   have hwz2 := hwz.symm
   clear hwz hj9 hx9
   rw [show ((0 : Nat) : Int) = (0 : Int) from rfl] at hwz2
   rw [hwz2]
   clear hwz2
   have s0 := HJ9.out.b1.at 0 (v := vi y.1) rfl
   have s1 := HJ9.out.b1.at 1 (v := vi y.2) rfl
   have xa := HX9.out.at 0 (v := vi y.1) rfl
   have xc := HX9.out.at 1 (v := vi y.2) rfl
   refine round_words (by kernel_rfl) (by kernel_rfl) (fun _ _ h => h) (region_told 13 (by kernel_rfl) (by kernel_rfl) (fun W => Below wz.heap.size wz W) newer (pickD [vIs (.pointer (some ⟨(w.heap.size + 1), 0, none⟩)), vIs (vi y.1), vIs (.pointer (some ⟨xb, 0, none⟩)), vIs (vi y.1), vTwoN wz.heap.size y.1 y.1, vIs (vi (mnI y.1 y.1)), vIs (.pointer (some ⟨(w.heap.size + 1), 1, none⟩)), vIs (vi y.2), vIs (.pointer (some ⟨xb, 1, none⟩)), vIs (vi y.2), vTwoN wz.heap.size y.2 y.2, vIs (vi (mxI y.2 y.2)), vIs (.pointer (some ⟨(w.heap.size + 1), 0, none⟩))]) (fun h k => newer_trans h k) (pickD_stable _ ⟨vIs_st, vIs_st, vIs_st, vIs_st, vTwoN_st, vIs_st, vIs_st, vIs_st, vIs_st, vIs_st, vTwoN_st, vIs_st, vIs_st, trivial⟩) (Below.refl _ wz).drew (Below.refl _ _) ?_ ?_)
   ·refine ⟨?_, ?_, ?_, ?_, ?_, ?_, ?_, ?_, ?_, ?_, ?_, ?_, ?_, trivial⟩
    ·intro a W hG hR hO hp; have h4 := hO.slot 4 (by kernel_rfl); refine kY (v := .pointer (some ⟨(w.heap.size + 1), 0, none⟩)) hG rfl ?_; simp [slotOf] at h4; simp [execOp, go_sem, h4]
    ·intro a W hG hR hO hp; have h19 : slotOf a 19 = .pointer (some ⟨(w.heap.size + 1), 0, none⟩) := hp.1; have c0 := keep_cell s0 hG; refine kY (v := vi y.1) hG rfl ?_; simp [slotOf] at h19; simp [execOp, go_sem, h19, c0]
    ·intro a W hG hR hO hp; have h7 := hO.slot 7 (by kernel_rfl); refine kY (v := .pointer (some ⟨xb, 0, none⟩)) hG rfl ?_; simp [slotOf] at h7; simp [execOp, go_sem, h7]
    ·intro a W hG hR hO hp; have h21 : slotOf a 21 = .pointer (some ⟨xb, 0, none⟩) := hp.1; have c0 := keep_cell xa hG; refine kY (v := vi y.1) hG rfl ?_; simp [slotOf] at h21; simp [execOp, go_sem, h21, c0]
    ·intro a W hG hR hO hp; have h20 : slotOf a 20 = vi y.1 := hp.1; have h22 : slotOf a 22 = vi y.1 := hp.2.1; refine wp_makes (v := .slice (some ⟨W.heap.size, 0, none⟩) 2 2) (W' := W.alloc (.cells #[vi y.1, vi y.1] 3)) ?_ ⟨_, rfl, ⟨W.heap.size, rfl, hG.size, Whole.made _ _ _⟩, newer_allocH _ _, below_next hG (newer_allocH _ _)⟩; simp [slotOf] at h20 h22; simp [execOp, go_sem, h20, h22]
    ·intro a W hG hR hO hp
     have h23 := hp.1
     obtain ⟨q9, h23, hq1, hq3⟩ := h23
     refine wp_enters (f := 103) (args := #[.slice (some ⟨q9, 0, none⟩) 2 2]) ?_ ((aleast_any y.1 y.1 q9 2 W hq3).mono ?_)
     ·simp [slotOf] at h23
      simp [go_sem, h23]
     ·rintro e w' ⟨rfl, rfl⟩
      exact ⟨_, rfl, _, rfl, rfl, Below.refl _ _, hG⟩
    ·intro a W hG hR hO hp; have h4 := hO.slot 4 (by kernel_rfl); refine kY (v := .pointer (some ⟨(w.heap.size + 1), 1, none⟩)) hG rfl ?_; simp [slotOf] at h4; simp [execOp, go_sem, h4]
    ·intro a W hG hR hO hp; have h25 : slotOf a 25 = .pointer (some ⟨(w.heap.size + 1), 1, none⟩) := hp.1; have c0 := keep_cell s1 hG; refine kY (v := vi y.2) hG rfl ?_; simp [slotOf] at h25; simp [execOp, go_sem, h25, c0]
    ·intro a W hG hR hO hp; have h7 := hO.slot 7 (by kernel_rfl); refine kY (v := .pointer (some ⟨xb, 1, none⟩)) hG rfl ?_; simp [slotOf] at h7; simp [execOp, go_sem, h7]
    ·intro a W hG hR hO hp; have h27 : slotOf a 27 = .pointer (some ⟨xb, 1, none⟩) := hp.1; have c0 := keep_cell xc hG; refine kY (v := vi y.2) hG rfl ?_; simp [slotOf] at h27; simp [execOp, go_sem, h27, c0]
    ·intro a W hG hR hO hp; have h26 : slotOf a 26 = vi y.2 := hp.1; have h28 : slotOf a 28 = vi y.2 := hp.2.1; refine wp_makes (v := .slice (some ⟨W.heap.size, 0, none⟩) 2 2) (W' := W.alloc (.cells #[vi y.2, vi y.2] 3)) ?_ ⟨_, rfl, ⟨W.heap.size, rfl, hG.size, Whole.made _ _ _⟩, newer_allocH _ _, below_next hG (newer_allocH _ _)⟩; simp [slotOf] at h26 h28; simp [execOp, go_sem, h26, h28]
    ·intro a W hG hR hO hp
     have h29 := hp.1
     obtain ⟨q9, h29, hq1, hq3⟩ := h29
     refine wp_enters (f := 102) (args := #[.slice (some ⟨q9, 0, none⟩) 2 2]) ?_ ((agreat_any y.2 y.2 q9 2 W hq3).mono ?_)
     ·simp [slotOf] at h29
      simp [go_sem, h29]
     ·rintro e w' ⟨rfl, rfl⟩
      exact ⟨_, rfl, _, rfl, rfl, Below.refl _ _, hG⟩
    ·intro a W hG hR hO hp; have h4 := hO.slot 4 (by kernel_rfl); refine kY (v := .pointer (some ⟨(w.heap.size + 1), 0, none⟩)) hG rfl ?_; simp [slotOf] at h4; simp [execOp, go_sem, h4]
   ·intro w12 hG hR
    rintro _ rfl _ rfl _ rfl _ rfl _ - _ rfl _ rfl _ rfl _ rfl _ rfl _ - _ rfl _ rfl
    change wpList _ _ _ _ _ _
    simp only [Act.put, List.setIfInBounds_toArray, List.set_cons_zero, List.set_cons_succ, List.drop_succ_cons, List.drop_zero]
    have hj12 := HJ9.out.next hG
    have HJ12 := Lib.hid hj12
    clear hG hR s0 s1 xa xc
    have s0 := hj12.b1.at 0 (v := vi y.1) rfl
    have s1 := hj12.b1.at 1 (v := vi y.2) rfl
    have sf := hj12.b1.free 0
    have sg := hj12.b1.free 1
    clear hj12
    go_wp2_with fail
    refine onlyN_intro ?_
    have hs := HJ12.out.set (mnI y.1 y.1) (mxI y.2 y.2)
    refine ⟨hs.lo_, rfl, _, _, .inl ⟨hs.put r0, ?_⟩⟩
    unfold stN
    rw [if_neg (by omega)]
    have := HK0.out h0
    unfold mxI mnI
    refine ⟨rfl, ?_⟩
    split <;> split <;> omega
  ·have hs2 : fst = false ∧ 0 ≤ lo ∧ lo ≤ v ∧ v ≤ hi ∧ hi ≤ 1000 := by have := HS.out; unfold stN at this; rw [if_neg h0] at this; exact this
   obtain ⟨rfl, hs3⟩ := hs2
   gi_wp2_with fail
   clear f0 ff s0 s1 s2 sf sg sh xa xc
   have s0 := HJ.out.b1.at 0 (v := vi lo) rfl
   have s1 := HJ.out.b1.at 1 (v := vi hi) rfl
   have xa := HXB.out.at 0 (v := vi y.1) rfl
   have xc := HXB.out.at 1 (v := vi y.2) rfl
   refine round_words (by kernel_rfl) (by kernel_rfl) (fun _ _ h => h) (region_told 13 (by kernel_rfl) (by kernel_rfl) (fun W => Below w8.heap.size w8 W) newer (pickD [vIs (.pointer (some ⟨(w.heap.size + 1), 0, none⟩)), vIs (vi lo), vIs (.pointer (some ⟨xb, 0, none⟩)), vIs (vi y.1), vTwoN w8.heap.size lo y.1, vIs (vi (mnI lo y.1)), vIs (.pointer (some ⟨(w.heap.size + 1), 1, none⟩)), vIs (vi hi), vIs (.pointer (some ⟨xb, 1, none⟩)), vIs (vi y.2), vTwoN w8.heap.size hi y.2, vIs (vi (mxI hi y.2)), vIs (.pointer (some ⟨(w.heap.size + 1), 0, none⟩))]) (fun h k => newer_trans h k) (pickD_stable _ ⟨vIs_st, vIs_st, vIs_st, vIs_st, vTwoN_st, vIs_st, vIs_st, vIs_st, vIs_st, vIs_st, vTwoN_st, vIs_st, vIs_st, trivial⟩) (Below.refl _ w8).drew (Below.refl _ _) ?_ ?_)
   ·refine ⟨?_, ?_, ?_, ?_, ?_, ?_, ?_, ?_, ?_, ?_, ?_, ?_, ?_, trivial⟩
    ·intro a W hG hR hO hp; have h4 := hO.slot 4 (by kernel_rfl); refine kY (v := .pointer (some ⟨(w.heap.size + 1), 0, none⟩)) hG rfl ?_; simp [slotOf] at h4; simp [execOp, go_sem, h4]
    ·intro a W hG hR hO hp; have h19 : slotOf a 19 = .pointer (some ⟨(w.heap.size + 1), 0, none⟩) := hp.1; have c0 := keep_cell s0 hG; refine kY (v := vi lo) hG rfl ?_; simp [slotOf] at h19; simp [execOp, go_sem, h19, c0]
    ·intro a W hG hR hO hp; have h7 := hO.slot 7 (by kernel_rfl); refine kY (v := .pointer (some ⟨xb, 0, none⟩)) hG rfl ?_; simp [slotOf] at h7; simp [execOp, go_sem, h7]
    ·intro a W hG hR hO hp; have h21 : slotOf a 21 = .pointer (some ⟨xb, 0, none⟩) := hp.1; have c0 := keep_cell xa hG; refine kY (v := vi y.1) hG rfl ?_; simp [slotOf] at h21; simp [execOp, go_sem, h21, c0]
    ·intro a W hG hR hO hp; have h20 : slotOf a 20 = vi lo := hp.1; have h22 : slotOf a 22 = vi y.1 := hp.2.1; refine wp_makes (v := .slice (some ⟨W.heap.size, 0, none⟩) 2 2) (W' := W.alloc (.cells #[vi lo, vi y.1] 3)) ?_ ⟨_, rfl, ⟨W.heap.size, rfl, hG.size, Whole.made _ _ _⟩, newer_allocH _ _, below_next hG (newer_allocH _ _)⟩; simp [slotOf] at h20 h22; simp [execOp, go_sem, h20, h22]
    ·intro a W hG hR hO hp
     have h23 := hp.1
     obtain ⟨q9, h23, hq1, hq3⟩ := h23
     refine wp_enters (f := 103) (args := #[.slice (some ⟨q9, 0, none⟩) 2 2]) ?_ ((aleast_any lo y.1 q9 2 W hq3).mono ?_)
     ·simp [slotOf] at h23
      simp [go_sem, h23]
     ·rintro e w' ⟨rfl, rfl⟩
      exact ⟨_, rfl, _, rfl, rfl, Below.refl _ _, hG⟩
    ·intro a W hG hR hO hp; have h4 := hO.slot 4 (by kernel_rfl); refine kY (v := .pointer (some ⟨(w.heap.size + 1), 1, none⟩)) hG rfl ?_; simp [slotOf] at h4; simp [execOp, go_sem, h4]
    ·intro a W hG hR hO hp; have h25 : slotOf a 25 = .pointer (some ⟨(w.heap.size + 1), 1, none⟩) := hp.1; have c0 := keep_cell s1 hG; refine kY (v := vi hi) hG rfl ?_; simp [slotOf] at h25; simp [execOp, go_sem, h25, c0]
    ·intro a W hG hR hO hp; have h7 := hO.slot 7 (by kernel_rfl); refine kY (v := .pointer (some ⟨xb, 1, none⟩)) hG rfl ?_; simp [slotOf] at h7; simp [execOp, go_sem, h7]
    ·intro a W hG hR hO hp; have h27 : slotOf a 27 = .pointer (some ⟨xb, 1, none⟩) := hp.1; have c0 := keep_cell xc hG; refine kY (v := vi y.2) hG rfl ?_; simp [slotOf] at h27; simp [execOp, go_sem, h27, c0]
    ·intro a W hG hR hO hp; have h26 : slotOf a 26 = vi hi := hp.1; have h28 : slotOf a 28 = vi y.2 := hp.2.1; refine wp_makes (v := .slice (some ⟨W.heap.size, 0, none⟩) 2 2) (W' := W.alloc (.cells #[vi hi, vi y.2] 3)) ?_ ⟨_, rfl, ⟨W.heap.size, rfl, hG.size, Whole.made _ _ _⟩, newer_allocH _ _, below_next hG (newer_allocH _ _)⟩; simp [slotOf] at h26 h28; simp [execOp, go_sem, h26, h28]
    ·intro a W hG hR hO hp
     have h29 := hp.1
     obtain ⟨q9, h29, hq1, hq3⟩ := h29
     refine wp_enters (f := 102) (args := #[.slice (some ⟨q9, 0, none⟩) 2 2]) ?_ ((agreat_any hi y.2 q9 2 W hq3).mono ?_)
     ·simp [slotOf] at h29
      simp [go_sem, h29]
     ·rintro e w' ⟨rfl, rfl⟩
      exact ⟨_, rfl, _, rfl, rfl, Below.refl _ _, hG⟩
    ·intro a W hG hR hO hp; have h4 := hO.slot 4 (by kernel_rfl); refine kY (v := .pointer (some ⟨(w.heap.size + 1), 0, none⟩)) hG rfl ?_; simp [slotOf] at h4; simp [execOp, go_sem, h4]
   ·intro w12 hG hR
    rintro _ rfl _ rfl _ rfl _ rfl _ - _ rfl _ rfl _ rfl _ rfl _ rfl _ - _ rfl _ rfl
    change wpList _ _ _ _ _ _
    simp only [Act.put, List.setIfInBounds_toArray, List.set_cons_zero, List.set_cons_succ, List.drop_succ_cons, List.drop_zero]
    have hj12 := HJ.out.next hG
    have HJ12 := Lib.hid hj12
    clear hG hR s0 s1 xa xc
    have s0 := hj12.b1.at 0 (v := vi lo) rfl
    have s1 := hj12.b1.at 1 (v := vi hi) rfl
    have sf := hj12.b1.free 0
    have sg := hj12.b1.free 1
    clear hj12
    go_wp2_with fail
    refine onlyN_intro ?_
    have hs := HJ12.out.set (mnI lo y.1) (mxI hi y.2)
    refine ⟨hs.lo_, rfl, _, _, .inl ⟨hs.put r0, ?_⟩⟩
    unfold stN
    rw [if_neg (by omega)]
    unfold mxI mnI
    refine ⟨rfl, ?_⟩
    split <;> split <;> omega
 ·rintro e W ⟨⟨u, rfl⟩, lo, hi, fst, hj, hs⟩
  refine ⟨⟨_, rfl⟩, .inl ⟨hj.lo_, ?_⟩⟩
  unfold stN at hs
  rw [if_neg (by omega)] at hs
  obtain ⟨rfl, hs⟩ := hs
  have hj5 := hj.put (overOf r0)
  have HE := Lib.hid hj5
  obtain ⟨we, hwe⟩ : ∃ we, we = W.putObj (w2.heap.size + 1) (.loop (overOf r0)) := ⟨_, rfl⟩
  rw [← hwe] at HE ⊢
  clear hj hj5 hwe r1 r2 r3 r4 r5 r6
  obtain ⟨D, hD⟩ : ∃ D, D = w2.heap.size := ⟨_, rfl⟩
  rw [← hD] at HE ⊢
  clear hD H2
  have hb := (HX.out.2.1.next HE.out.nw).bx
  have q0 := hb.at 0 (v := .slice x.a x.p.es.length x.c) rfl
  have q1 := hb.at 1 (v := vi x.p.g) rfl
  have q2 := hb.at 2 (v := vi x.p.d) rfl
  have q3 := hb.at 3 (v := vi x.p.fall) rfl
  have q4 := hb.at 4 (v := vi x.p.out) rfl
  have q5 := hb.at 5 (v := vi x.p.ah) rfl
  have s1 := HE.out.b1.at 1 (v := vi hi) rfl
  clear hb
  have HLV := Lib.hid (fun W => level_any x hi W HX.out.1 (by omega) (by have := HLB.out; omega))
  have HHS := Lib.hid hs
  obtain ⟨lv, hlv⟩ : ∃ q, q = levelA x.p hi := ⟨_, rfl⟩
  rw [← hlv] at HLV
  have HLE := Lib.hid hlv
  clear hlv hs
  go_wp2_with fail
  refine wp_words (by kernel_rfl) (region_told 8 (by kernel_rfl) (by kernel_rfl) (fun W => Below we.heap.size we W) newer (pickD [vIs (.pointer (some ⟨wb, 0, none⟩)), vIs (.pointer (some ⟨wb, 0, none⟩)), vIs (.pointer (some ⟨wb, 0, none⟩)), vIs (pmV x), vIs (.pointer (some ⟨(w.heap.size + 1), 1, none⟩)), vIs (vi hi), vIs (.int .u8 lv), vIs (.pointer (some ⟨(w.heap.size + 1), 2, none⟩))]) (fun h k => newer_trans h k) (pickD_stable _ ⟨vIs_st, vIs_st, vIs_st, vIs_st, vIs_st, vIs_st, vIs_st, vIs_st, trivial⟩) (Below.refl _ we).drew (Below.refl _ _) ?_ ?_)
  ·refine ⟨?_, ?_, ?_, ?_, ?_, ?_, ?_, ?_, trivial⟩
   ·exact fun a W hG _ hO _ => kM 0 rfl (hO.slot 0 (by kernel_rfl)) rfl hG
   ·intro a W hG hR hO hp; have h33 : slotOf a 33 = .pointer (some ⟨wb, 0, none⟩) := hp.1; refine kY (v := .pointer (some ⟨wb, 0, none⟩)) hG rfl ?_; simp [slotOf] at h33; simp [execOp, go_sem, h33]
   ·intro a W hG hR hO hp; have h34 : slotOf a 34 = .pointer (some ⟨wb, 0, none⟩) := hp.1; refine kY (v := .pointer (some ⟨wb, 0, none⟩)) hG rfl ?_; simp [slotOf] at h34; simp [execOp, go_sem, h34]
   ·intro a W hG hR hO hp; have h35 : slotOf a 35 = .pointer (some ⟨wb, 0, none⟩) := hp.1; have c0 := keep_cell q0 hG; have c1 := keep_cell q1 hG; have c2 := keep_cell q2 hG; have c3 := keep_cell q3 hG; have c4 := keep_cell q4 hG; have c5 := keep_cell q5 hG; refine kY (v := pmV x) hG rfl ?_; simp [slotOf] at h35; simp [execOp, go_sem, h35, c0, c1, c2, c3, c4, c5]
   ·intro a W hG hR hO hp; have h4 := hO.slot 4 (by kernel_rfl); refine kY (v := .pointer (some ⟨(w.heap.size + 1), 1, none⟩)) hG rfl ?_; simp [slotOf] at h4; simp [execOp, go_sem, h4]
   ·intro a W hG hR hO hp; have h37 : slotOf a 37 = .pointer (some ⟨(w.heap.size + 1), 1, none⟩) := hp.1; have c0 := keep_cell s1 hG; refine kY (v := vi hi) hG rfl ?_; simp [slotOf] at h37; simp [execOp, go_sem, h37, c0]
   ·intro a W hG hR hO hp
    have h36 : slotOf a 36 = pmV x := hp.1
    have h38 : slotOf a 38 = vi hi := hp.2.1
    refine wp_enters (f := 128) (args := #[pmV x, vi hi]) ?_ ((HLV.out W).mono ?_)
    ·simp [slotOf] at h36 h38
     simp [go_sem, h36, h38]
    ·rintro e w' ⟨rfl, hb⟩
     exact ⟨_, rfl, _, rfl, rfl, hb, below_next hG hb⟩
   ·intro a W hG hR hO hp; have h4 := hO.slot 4 (by kernel_rfl); refine kY (v := .pointer (some ⟨(w.heap.size + 1), 2, none⟩)) hG rfl ?_; simp [slotOf] at h4; simp [execOp, go_sem, h4]
  ·intro w7 hG hR
   rintro _ rfl _ rfl _ rfl _ rfl _ rfl _ rfl _ rfl _ rfl
   change wpList _ _ _ _ _ _
   simp only [Act.put, List.setIfInBounds_toArray, List.set_cons_zero, List.set_cons_succ, List.drop_succ_cons, List.drop_zero]
   have hj7 := HE.out.next hG
   have HJ7 := Lib.hid hj7
   clear hG hR q0 q1 q2 q3 q4 q5 s1 HE
   have s0 := hj7.b1.at 0 (v := vi lo) rfl
   have s1 := hj7.b1.at 1 (v := vi hi) rfl
   have s2 := hj7.b1.at 2 (v := .int .u8 (0 : Nat)) rfl
   have sh := hj7.b1.free 2
   clear hj7
   go_upto_region 8 with fail
   have hp : w7.grownBy (w7.setCell ⟨w.heap.size + 1, 2, none⟩ (.int .u8 lv)) (some (w.heap.size + 1)) := grown_set (p := ⟨w.heap.size + 1, 2, none⟩) (grown_refl _ _) (.inl rfl) _
   have ne : ∀ {k : Nat}, k ≠ w.heap.size + 1 → some k ≠ some (w.heap.size + 1) := fun hk e => hk (by injection e)
   have hso := HJ7.out.so
   have HQ : Hid (newer w (w7.setCell ⟨w.heap.size + 1, 2, none⟩ (.int .u8 lv)) ∧ Whole (w7.setCell ⟨w.heap.size + 1, 2, none⟩ (.int .u8 lv)) w.heap.size 63 (stC 0 0 0) ∧ Whole (w7.setCell ⟨w.heap.size + 1, 2, none⟩ (.int .u8 lv)) (w.heap.size + 1) 63 (stC lo hi lv) ∧ Whole (w7.setCell ⟨w.heap.size + 1, 2, none⟩ (.int .u8 lv)) (w.heap.size + 1 + 1) 4 #[.bool false] ∧ (w7.setCell ⟨w.heap.size + 1, 2, none⟩ (.int .u8 lv)).heap[D]? = some (.deferred (some []))) := Lib.hid ⟨nw_of_grown HJ7.out.nw (by omega) hp, HJ7.out.b0.grown hp (ne (by omega)), HJ7.out.b1.set 2 (.int .u8 lv), HJ7.out.b2.grown hp (ne (by omega)), (hp.block D (Array.getElem?_eq_some_iff.1 HJ7.out.df).1 (ne (by omega))).trans HJ7.out.df⟩
   clear hp ne s0 s1 s2 sh
   have HSO := Lib.hid hso
   clear hso HJ7
   obtain ⟨w8, hw8⟩ : ∃ q, q = w7.setCell ⟨w.heap.size + 1, 2, none⟩ (.int .u8 lv) := ⟨_, rfl⟩
   rw [← hw8] at HQ ⊢
   clear hw8 w7
   have s0 := HQ.out.2.2.1.at 0 (v := vi lo) rfl
   have s1 := HQ.out.2.2.1.at 1 (v := vi hi) rfl
   have s2 := HQ.out.2.2.1.at 2 (v := .int .u8 lv) rfl
   have f0 := HQ.out.2.2.2.1.at 0 (v := .bool false) rfl
   have p0 := HQ.out.2.1.at 0 (v := vi 0) rfl
   have p1 := HQ.out.2.1.at 1 (v := vi 0) rfl
   have p2 := HQ.out.2.1.at 2 (v := .int .u8 (0 : Nat)) rfl
   have p3 := HQ.out.2.1.free 0
   have p4 := HQ.out.2.1.free 1
   have p5 := HQ.out.2.1.free 2
   have hz := ((HQ.out.2.1.set 0 (vi lo)).set 1 (vi hi)).set 2 (.int .u8 lv)
   have z0 := hz.at 0 (v := vi lo) rfl
   have z1 := hz.at 1 (v := vi hi) rfl
   have z2 := hz.at 2 (v := .int .u8 lv) rfl
   have hne : D ≠ w.heap.size := by have := HSO.out; omega
   have hgz : w8.grownBy (((w8.setCell ⟨w.heap.size, 0, none⟩ (vi lo)).setCell ⟨w.heap.size, 1, none⟩ (vi hi)).setCell ⟨w.heap.size, 2, none⟩ (.int .u8 lv)) (some w.heap.size) := grown_set (p := ⟨w.heap.size, 2, none⟩) (grown_set (p := ⟨w.heap.size, 1, none⟩) (grown_set (p := ⟨w.heap.size, 0, none⟩) (grown_refl w8 _) (.inl rfl) _) (.inl rfl) _) (.inl rfl) _
   have hmks : MarksOk [D] (((w8.setCell ⟨w.heap.size, 0, none⟩ (vi lo)).setCell ⟨w.heap.size, 1, none⟩ (vi hi)).setCell ⟨w.heap.size, 2, none⟩ (.int .u8 lv)) := ⟨by simp, fun E hE => by
    rw [List.mem_singleton.1 hE]
    exact (hgz.block D (Array.getElem?_eq_some_iff.1 HQ.out.2.2.2.2).1 (fun e => hne (by injection e))).trans HQ.out.2.2.2.2⟩
   have hz2 : Whole (((w8.setCell ⟨w.heap.size, 0, none⟩ (vi lo)).setCell ⟨w.heap.size, 1, none⟩ (vi hi)).setCell ⟨w.heap.size, 2, none⟩ (.int .u8 lv)).drew w.heap.size 63 (stC lo hi lv) := hz
   have hmk2 : MarksOk [D] (((w8.setCell ⟨w.heap.size, 0, none⟩ (vi lo)).setCell ⟨w.heap.size, 1, none⟩ (vi hi)).setCell ⟨w.heap.size, 2, none⟩ (.int .u8 lv)).drew := ⟨hmks.nd, hmks.at_⟩
   have HEND := Lib.hid (And.intro hz2 (And.intro hmk2 (nw_of_grown HQ.out.1 (Nat.le_refl _) hgz).drew))
   clear hz hz2 z0 z1 z2 hne hgz hmks hmk2
   go_region
   all_goals
    go_wp2_with fail
    refine leaves_marks [D] _ HEND.out.2.1 ?_
    intro W2 k1 k2 k3 k4 k5
    have hz := HEND.out.1.same (k5 w.heap.size (by rw [List.mem_singleton]; have := HSO.out; omega))
    have z0 := hz.at 0 (v := vi lo) rfl
    have z1 := hz.at 1 (v := vi hi) rfl
    have z2 := hz.at 2 (v := .int .u8 lv) rfl
    exact ⟨.tuple #[stV lo hi lv, .bool true], by simp [results, Try.results101, go_sem, z0, z1, z2], newer_shut HEND.out.2.2 (fun E hE => by rw [List.mem_singleton.1 hE]; have := HSO.out; omega) k1 k2 k3 k4 k5, lo, hi, by rw [HLE.out], HHS.out⟩

end Go.Proofs.Ytpmafnifgegfbaa

namespace Go.Proofs.Ytpmafnifgegfbaa
open Go.RowKit Go.Shelf Go.Deep

open Go.ChangeMaps (setBlock)
abbrev stL (p : Po) (s : Int × Int) : List Value := [vi s.1, vi s.2, .int .u8 (levelA p s.2)]
theorem stL_one (p : Po) (s : Int × Int) : ∀ u ∈ stL p s, u.oneCell' = true := by
 intro u hu
 simp only [List.mem_cons, List.not_mem_nil, or_false] at hu
 rcases hu with rfl | rfl | rfl <;> rfl
theorem info_state : (Try.prog.info? 63).map (fun i => (i.zero, i.size, i.bytes)) = some (some (.agg #[vi 0, vi 0, .int .u8 0]), 3, 24) := by kernel_rfl
/-- Speeds that are a truth of a post with rows. -/
structure TrueAt (p : Po) (R : List (List Int)) (vs : List Int) : Prop where
 len : vs.length = R.length
 bd : ∀ v ∈ vs, 0 ≤ v ∧ v ≤ 60
 st : ∀ (h : Nat) (v v' : Int), vs[h]? = some v → vs[h + 1]? = some v' → v - p.d ≤ v' ∧ v' ≤ v + p.g
 lv : ∀ v ∈ vs, p.g = 60 ∨ p.fall ≤ v
 ag : ∀ (h : Nat) (l : List Int) (v : Int), R[h]? = some l → vs[h]? = some v → (agN p.es l (-1)).1 ≤ v ∧ v ≤ (agN p.es l (-1)).2
/-- States that hold the speeds. -/
def Holds (vs : List Int) (S : List (Int × Int)) : Prop := ∀ (h : Nat) (s : Int × Int) (v : Int), S[h]? = some s → vs[h]? = some v → 0 ≤ s.1 ∧ s.1 ≤ v ∧ v ≤ s.2 ∧ s.2 ≤ 1000
theorem Holds.app {vs : List Int} {S : List (Int × Int)} (h : Holds vs S) {s : Int × Int} {v : Int} (hv : vs[S.length]? = some v) (h1 : 0 ≤ s.1 ∧ s.1 ≤ v ∧ v ≤ s.2 ∧ s.2 ≤ 1000) : Holds vs (S ++ [s]) := by
 intro j t u hj hu
 by_cases e : j < S.length
 ·rw [List.getElem?_append_left e] at hj
  exact h j t u hj hu
 ·have hl := (List.getElem?_eq_some_iff.1 hj).1
  rw [List.length_append, List.length_singleton] at hl
  obtain rfl : j = S.length := by omega
  rw [List.getElem?_append_right (Nat.le_refl _), Nat.sub_self] at hj
  simp only [List.getElem?_cons_zero, Option.some.injEq] at hj
  subst hj
  rw [hv] at hu
  injection hu with hu
  rw [← hu]
  exact h1
/-- The speed ahead of an hour. -/
def prevV (vs : List Int) (k : Nat) (v : Int) : Prop := if k = 0 then 0 ≤ v ∧ v ≤ 1000 else vs[k - 1]? = some v
theorem own_turned {w W : World} {base : Nat} {e : TypeId} {size n : Nat} {v : Value} {xs : List Value} {mb : Nat} {m : List (Int × Int × Int)} (h : w.ownsRow base e size v n xs) (hm : KMap vi prV mb m w) (hg : w.grownBy W (some mb)) : W.ownsRow base e size v n xs :=
 own_same h (fun k hk => hg.block k (own_lt h k hk) (fun e => own_map h hm (by rw [hk, e])))
structure RunJ (x : Pm) (R : List (List Int)) (vs : List Int) (wb mb B0 k : Nat) (w W : World) (S : List (Int × Int)) (B : Option Addr) (d : Nat) : Prop where
 nw : newer w W
 bx : Whole W wb 187 (waC x mb)
 mp : ∃ m, KMap vi prV mb m W ∧ ∀ v, prevV vs k v → MayOk v m
 own : W.ownsRow B0 63 3 (.slice B k d) k (S.flatMap (stL x.p))
 len : S.length = k
 ho : Holds vs S
 pb : Whole W w.heap.size 32 (pmC x)
 sz : B0 ≤ W.heap.size
set_option maxRecDepth 100000 in
set_option maxHeartbeats 2000000 in
theorem run_yes2 (x : Pm) (R : List (List Int)) (vs : List Int) (A : Option Addr) (c : Nat) (w : World) (hok : PmAt x w) (hp : PoOk x.p) (hr : IRows R A w) (hR : RowsOk x.p R) (hv : TrueAt x.p R vs) :
  Calls Try.prog 65 #[pmV x, .slice A R.length c] w fun e w' => newer w w' ∧ ∃ S B d u, e = .returned (.tuple #[.slice B R.length d, u, vi (-1)]) ∧ Row (stL x.p) 3 w' w'.heap.size B S ∧ S.length = R.length ∧ Holds vs S := by
 have hnw := newer_allocH w (.cells (pmC x) 32)
 have hbx := Whole.made w 32 (pmC x)
 have HP := Lib.hid (And.intro hp (And.intro hR hv))
 have HR := Lib.hid (And.intro hok hr)
 have hn := hR.n
 have H0 := Lib.hid (And.intro hnw (And.intro hbx (hok.next hnw)))
 have x0 := hbx.at 0 (v := .slice x.a x.p.es.length x.c) rfl
 have x1 := hbx.at 1 (v := vi x.p.g) rfl
 have x2 := hbx.at 2 (v := vi x.p.d) rfl
 have x3 := hbx.at 3 (v := vi x.p.fall) rfl
 have x4 := hbx.at 4 (v := vi x.p.out) rfl
 have x5 := hbx.at 5 (v := vi x.p.ah) rfl
 obtain ⟨n, hN⟩ : ∃ n, n = R.length := ⟨_, rfl⟩
 have HN := Lib.hid hN
 rw [← hN] at hn ⊢
 obtain ⟨i0, hi0, hz0, hz1, hz2⟩ := info_parts info_state
 have HI := Lib.hid (And.intro hi0 (And.intro hz0 (And.intro hz1 hz2)))
 clear hok hp hnw hbx hr hR hN hv hi0 hz0 hz1 hz2
 go_enter Try.func65, Try.ntmps65
 go_wp2_with fail
 refine (begin_any x _ H0.out.2.2 HP.out.1).mono ?_
 rintro e w1 ⟨wb, rfl, hb, hbeg⟩
 obtain ⟨mb, m0, hmb, hmw, hwa, hmay⟩ := hbeg
 have HMB := Lib.hid (show w.heap.size < mb ∧ mb < wb from ⟨Nat.lt_of_lt_of_le (by rw [World.size_alloc]; omega) hmb, hmw⟩)
 have HJ0 : Hid (RunJ x R vs wb mb w1.heap.size 0 w w1 [] none 0) := Lib.hid ⟨newer_trans H0.out.1 hb, hwa.bx, ⟨m0, hwa.mp, fun v hv => hmay v hv⟩, ⟨rfl, .inl ⟨rfl, rfl⟩⟩, rfl, fun h s v hs => by simp at hs, H0.out.2.1.below hb H0.out.2.1.lt, Nat.le_refl _⟩
 have HB1 := Lib.hid (show w.heap.size ≤ w1.heap.size from HJ0.out.nw.size)
 obtain ⟨B0, hB0⟩ : ∃ q, q = w1.heap.size := ⟨_, rfl⟩
 rw [← hB0] at HJ0 HB1
 clear hb hmb hmw hwa hmay H0 hB0 x0 x1 x2 x3 x4 x5
 go_wp2_with fail
 go_loopw [4, 5, 6, 7, 8, 9, 10, 15] (fun s4 s5 _ _ _ _ _ i wr => ∃ (k : Nat) (S : List (Int × Int)) (B : Option Addr) (d : Nat), k ≤ n ∧ i = vi k ∧ s4 = .slice B k d ∧ s5 = .pointer (some ⟨wb, 0, none⟩) ∧ RunJ x R vs wb mb B0 k w wr S B d) (fun _ _ _ _ _ _ _ i _ => n - (intOf i).toNat)
 case atStart => exact ⟨0, [], none, 0, Nat.zero_le _, rfl, rfl, rfl, HJ0.out⟩
 case round =>
  obtain ⟨k, S, B, d, hk, rfl, rfl, rfl, hj⟩ := hrel
  have HJ := Lib.hid hj
  clear hj HJ0
  by_cases hlt : k < n
  ·obtain ⟨l, hl⟩ := get_of_lt (l := R) (k := k) (by have := HN.out; omega)
   obtain ⟨v', hv'⟩ := get_of_lt (l := vs) (k := k) (by have h1 := HN.out; have h2 := HP.out.2.2.len; omega)
   obtain ⟨rb, ro, lb, lc, rfl, hrb, hc, hrow⟩ := (HR.out.2.next HJ.out.nw) k l hl
   have hll := HP.out.2.1.l l (List.mem_of_getElem? hl)
   have hlb := HP.out.2.1.b l (List.mem_of_getElem? hl)
   have hvb := HP.out.2.2.bd v' (List.mem_of_getElem? hv')
   have hag := HP.out.2.2.ag k l v' hl hv'
   obtain ⟨first, hfi⟩ : ∃ q, q = decide (k = 0) := ⟨_, rfl⟩
   have hz : ((k : Int) == 0) = first := by
    rw [hfi]
    by_cases e : k = 0 <;> simp [e]
   have HNX : Hid (Calls Try.prog 100 #[.pointer (some ⟨wb, 0, none⟩), .slice lb l.length lc, .bool first] wr fun e w' => (∃ u, e = .returned u) ∧ wr.grownBy w' (some mb) ∧ ∃ m, WaIn x wb mb m w' ∧ MayOk v' m) := Lib.hid (by
    obtain ⟨m, hm, hmay⟩ := HJ.out.mp
    have hwa : WaIn x wb mb m wr := ⟨HJ.out.bx, hm, HR.out.1.next HJ.out.nw⟩
    by_cases h0 : k = 0
    ·rw [hfi, decide_eq_true h0]
     refine next_any x l lb lc true wb mb v' v' wr HP.out.1 hll hlb hrow ⟨m, hwa, hmay v' ?_⟩ (by have := HMB.out; omega) (by omega) (by simp) hag
     unfold prevV
     rw [if_pos h0]
     omega
    ·rw [hfi, decide_eq_false h0]
     obtain ⟨v, hv⟩ := get_of_lt (l := vs) (k := k - 1) (by have := (List.getElem?_eq_some_iff.1 hv').1; omega)
     have hst := HP.out.2.2.st (k - 1) v v' hv (by rw [show k - 1 + 1 = k by omega]; exact hv')
     refine next_any x l lb lc false wb mb v v' wr HP.out.1 hll hlb hrow ⟨m, hwa, hmay v ?_⟩ (by have := HMB.out; omega) (by omega) (by simpa using hst) hag
     unfold prevV
     rw [if_neg h0]
     exact hv)
   have HV := Lib.hid (And.intro hv' hvb)
   clear hl hv' hll hlb hag hrow hrb hfi hvb
   go_wp2_with fail
   refine HNX.out.mono ?_
   rintro e w2 ⟨⟨u, rfl⟩, hg2, m2, hwa2, hmay2⟩
   have hmo := HJ.out.mp
   have HJ2 : Hid (newer w w2 ∧ Whole w2 wb 187 (waC x mb) ∧ KMap vi prV mb m2 w2 ∧ MayOk v' m2 ∧ w2.ownsRow B0 63 3 (.slice B k d) k (S.flatMap (stL x.p)) ∧ S.length = k ∧ Holds vs S ∧ WaIn x wb mb m2 w2 ∧ Whole w2 w.heap.size 32 (pmC x) ∧ B0 ≤ w2.heap.size) := Lib.hid ⟨nw_of_grown HJ.out.nw (by have := HMB.out; omega) hg2, hwa2.bx, hwa2.mp, hmay2, by obtain ⟨m, hm, _⟩ := hmo; exact own_turned HJ.out.own hm hg2, HJ.out.len, HJ.out.ho, hwa2, HJ.out.pb.grown hg2 (fun e => by injection e with e; have := HMB.out; omega), Nat.le_trans HJ.out.sz hg2.size⟩
   clear hg2 hwa2 hmay2 hmo HNX hc HJ hz
   go_wp2_with fail
   refine (state_any x wb mb v' m2 _ HP.out.1 HJ2.out.2.2.2.2.2.2.2.1 HJ2.out.2.2.2.1 (HP.out.2.2.lv v' (List.mem_of_getElem? HV.out.1))).mono ?_
   rintro e w3 ⟨hb3, lo, hi, rfl, hlo⟩
   have n1 := newer_trans hb3 (newer_allocH w3 (.cells (stC lo hi (levelA x.p hi)) 63))
   have hs3 := Whole.made w3 63 (stC lo hi (levelA x.p hi))
   have n2 := newer_trans n1 (newer_allocH (w3.alloc (.cells (stC lo hi (levelA x.p hi)) 63)) (.cells (stC lo hi (levelA x.p hi)) 63))
   have HAP : Hid (((w3.alloc (.cells (stC lo hi (levelA x.p hi)) 63)).alloc (.cells (stC lo hi (levelA x.p hi)) 63)).ownsRow B0 63 3 (.slice B k d) k (S.flatMap (stL x.p)) ∧ Row (stL x.p) 3 ((w3.alloc (.cells (stC lo hi (levelA x.p hi)) 63)).alloc (.cells (stC lo hi (levelA x.p hi)) 63)) ((w3.alloc (.cells (stC lo hi (levelA x.p hi)) 63)).alloc (.cells (stC lo hi (levelA x.p hi)) 63)).heap.size (some ⟨w3.heap.size + 1, 0, none⟩) [(lo, hi)] ∧ B0 ≤ ((w3.alloc (.cells (stC lo hi (levelA x.p hi)) 63)).alloc (.cells (stC lo hi (levelA x.p hi)) 63)).heap.size ∧ newer w ((w3.alloc (.cells (stC lo hi (levelA x.p hi)) 63)).alloc (.cells (stC lo hi (levelA x.p hi)) 63)) ∧ newer w2 ((w3.alloc (.cells (stC lo hi (levelA x.p hi)) 63)).alloc (.cells (stC lo hi (levelA x.p hi)) 63))) := Lib.hid (by
    have hm := Whole.made (w3.alloc (.cells (stC lo hi (levelA x.p hi)) 63)) 63 (stC lo hi (levelA x.p hi))
    rw [World.size_alloc] at hm
    exact ⟨own_below HJ2.out.2.2.2.2.1 n2, row_of_whole (enc := stL x.p) (s := 3) (fun _ => rfl) hm rfl, Nat.le_trans HJ2.out.2.2.2.2.2.2.2.2.2 n2.size, newer_trans HJ2.out.1 n2, n2⟩)
   have HLO := Lib.hid hlo
   have y0 := hs3.at 0 (v := vi lo) rfl
   have y1 := hs3.at 1 (v := vi hi) rfl
   have y2 := hs3.at 2 (v := .int .u8 (levelA x.p hi)) rfl
   clear n1 hs3 n2 hb3 hlo
   go_wp2_with (at_builtin; go_loud ((refine wpList_plain rfl fun _ hK => wp_append_all (enc := stL x.p) (size := 3) B0 (.tmp 34) (.tmp 36) 57 63 i0 (.agg #[vi 0, vi 0, .int .u8 0]) 24 Try.underlying57 HI.out.1 HI.out.2.1 HI.out.2.2.1 HI.out.2.2.2 rfl (by omega) (fun _ => rfl) (stL_one x.p) rfl B k d (S.flatMap (stL x.p)) rfl HAP.out.1 [(lo, hi)] (some ⟨w3.heap.size + 1, 0, none⟩) 1 rfl HAP.out.2.1 (by unfold maxLen; simp only [List.length_singleton]; omega) (by simp only [List.length_singleton]; omega) HAP.out.2.2.1 fun B2 c2 w5 hown hgr hat => hK _ _ ?_); have hn5 := below_row HAP.out.2.2.2.1 HAP.out.1 hgr HB1.out; have HE5 := Lib.hid (And.intro hown (And.intro hn5 (And.intro hgr hat))); clear hown hgr hat hn5))
   have HJ5 : Hid (RunJ x R vs wb mb B0 (k + 1) w w5 (S ++ [(lo, hi)]) B2 c2) := Lib.hid (by
    have hs5 := HE5.out.2.2.1
    have n2 := HAP.out.2.2.2.2
    have k1 := HJ2.out.2.1.below n2 HJ2.out.2.1.lt
    have k2 := HJ2.out.2.2.1.next n2
    have k3 := HJ2.out.2.2.2.2.2.2.2.2.1.below n2 HJ2.out.2.2.2.2.2.2.2.2.1.lt
    refine ⟨HE5.out.2.1, k1.grown hs5 (own_ne HAP.out.1 k1 (by decide)).symm, ⟨m2, k2.same (hs5.block mb k2.lt (fun e => own_map HAP.out.1 k2 e.symm)), fun v hv => ?_⟩, ?_, by rw [List.length_append, HJ2.out.2.2.2.2.2.1]; rfl, HJ2.out.2.2.2.2.2.2.1.app (v := v') (by rw [HJ2.out.2.2.2.2.2.1]; exact HV.out.1) HLO.out, k3.grown hs5 (own_ne HAP.out.1 k3 (by decide)).symm, Nat.le_trans HAP.out.2.2.1 hs5.size⟩
    ·unfold prevV at hv
     rw [if_neg (by omega), Nat.add_sub_cancel, HV.out.1] at hv
     injection hv with hv
     rw [← hv]
     exact HJ2.out.2.2.2.1
    ·rw [List.flatMap_append]
     exact HE5.out.1)
   clear y0 y1 y2
   go_roundw
   case rel => exact ⟨k + 1, S ++ [(lo, hi)], B2, c2, by omega, by go_num, rfl, rfl, HJ5.out⟩
   case measure => simp [intOf]; omega
  ·obtain rfl : k = n := by omega
   go_wp2_with fail
   exact bodyPost_ret (v := .tuple #[.slice B k d, .pointer (some ⟨wb, 0, none⟩), vi (-1)]) (by simp [results, Try.results65, go_sem]) rfl ⟨HJ.out.nw, S, B, d, _, rfl, by have h := HJ.out.own; rw [← HJ.out.len] at h; exact row_of_own (enc := stL x.p) (size := 3) (by omega) (fun _ => rfl) h, HJ.out.len, HJ.out.ho⟩
set_option maxRecDepth 100000 in
set_option maxHeartbeats 1000000 in
theorem levels_yes (x : Pm) (R : List (List Int)) (vs : List Int) (A : Option Addr) (c : Nat) (w : World) (hok : PmAt x w) (hp : PoOk x.p) (hr : IRows R A w) (hR : RowsOk x.p R) (hv : TrueAt x.p R vs) :
  Calls Try.prog 27 #[pmV x, .slice A R.length c] w fun e w' => newer w w' ∧ ∃ S B d, e = .returned (.tuple #[.slice B S.length d, .int .i64 0]) ∧ Row (stL x.p) 3 w' w'.heap.size B S ∧ S.length = R.length ∧ Holds vs S := by
 have hnw := newer_allocH w (.cells (pmC x) 32)
 have hbx := Whole.made w 32 (pmC x)
 have HC := Lib.hid (check_yes x R A c _ (hok.next hnw) hp (hr.next hnw) hR)
 have HRN := Lib.hid (fun W (h : newer w W) => run_yes2 x R vs A c W (hok.next h) hp (hr.next h) hR hv)
 have H0 := Lib.hid (And.intro hnw hbx)
 have x0 := hbx.at 0 (v := .slice x.a x.p.es.length x.c) rfl
 have x1 := hbx.at 1 (v := vi x.p.g) rfl
 have x2 := hbx.at 2 (v := vi x.p.d) rfl
 have x3 := hbx.at 3 (v := vi x.p.fall) rfl
 have x4 := hbx.at 4 (v := vi x.p.out) rfl
 have x5 := hbx.at 5 (v := vi x.p.ah) rfl
 clear hok hp hr hR hv hnw hbx
 go_enter Try.func27, Try.ntmps27
 go_wp2_with fail
 refine (HC.out).mono ?_
 rintro e w1 ⟨rfl, hb⟩
 have H1 := Lib.hid (And.intro (newer_trans H0.out.1 hb) (H0.out.2.below hb H0.out.2.lt))
 clear x0 x1 x2 x3 x4 x5 H0 HC hb
 have x0 := H1.out.2.at 0 (v := .slice x.a x.p.es.length x.c) rfl
 have x1 := H1.out.2.at 1 (v := vi x.p.g) rfl
 have x2 := H1.out.2.at 2 (v := vi x.p.d) rfl
 have x3 := H1.out.2.at 3 (v := vi x.p.fall) rfl
 have x4 := H1.out.2.at 4 (v := vi x.p.out) rfl
 have x5 := H1.out.2.at 5 (v := vi x.p.ah) rfl
 go_wp2_with fail
 refine (HRN.out _ H1.out.1).mono ?_
 rintro e w2 ⟨hb2, S, B, d, u, rfl, h1, h2, h3⟩
 have HE := Lib.hid (And.intro (newer_trans H1.out.1 hb2) (And.intro h1 (And.intro h2 h3)))
 rw [← h2]
 clear hb2 h1 h2 h3
 go_wp2_with fail
 exact bodyPost_ret (v := .tuple #[.slice B S.length d, .int .i64 0]) (by simp [results, Try.results27, go_sem]) rfl ⟨HE.out.1, S, B, d, rfl, HE.out.2⟩

end Go.Proofs.Ytpmafnifgegfbaa
