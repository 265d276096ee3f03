/- What the last text of this chain needs: J, K, M, O, T, U, V, W. -/
import Derived.Test.YtcdhhfgpdokkoaaZH06
namespace Go.Proofs.Ytcdhhfgpdokkoaa
section
open Go.RowKit Go.Shelf Go.Deep
abbrev wOf (s : Sm) (f : Int) (t : Option Bool) (z : Nat) (w : World) : World := (((((((w.alloc (.cells (lkC s f t) 88)).alloc (.cells #[vi z] 3)).alloc (.cells #[vi 0, .slice none 0 0] 40)).alloc (.map #[] 0)).alloc (.cells #[.map (some (w.heap.size + 1 + 1 + 1))] 150)).alloc (.cells #[.func (.func 77) #[lkV s f t] #[]] 151)).alloc (.cells #[.func (.func 78) #[] (rpA (rpOf s f t z w.heap.size))] 152))
theorem start_is (s : Sm) (f : Int) (t : Option Bool) (z : Nat) (w : World) (hok : SmOk s w) : RsM (rpOf s f t z w.heap.size) [] (wOf s f t z w) /\ Whole (wOf s f t z w) (w.heap.size + 1 + 1) 40 #[vi 0, .slice none 0 0] /\ newer w (wOf s f t z w) /\ (wOf s f t z w).heap.size = w.heap.size + 7 := by
 have h1 : newer w (wOf s f t z w) := newer_trans (newer_trans (newer_trans (newer_trans (newer_trans (newer_trans (newer_allocH _ _) (newer_allocH _ _)) (newer_allocH _ _)) (newer_allocH _ _)) (newer_allocH _ _)) (newer_allocH _ _)) (newer_allocH _ _)
 have at_ : ∀ i o, (w.heap ++ #[.cells (lkC s f t) 88, .cells #[vi z] 3, .cells #[vi 0, .slice none 0 0] 40, .map #[] 0, .cells #[.map (some (w.heap.size + 1 + 1 + 1))] 150, .cells #[.func (.func 77) #[lkV s f t] #[]] 151, .cells #[.func (.func 78) #[] (rpA (rpOf s f t z w.heap.size))] 152])[w.heap.size + i]? = some o -> (wOf s f t z w).heap[w.heap.size + i]? = some o := by
  intro i o h
  rw [<- h]
  rfl
 have get : ∀ (i : Nat) (o : Obj) (l : Array Obj), l[i]? = some o -> (w.heap ++ l)[w.heap.size + i]? = some o := by
  intro i o l h
  rw [Array.getElem?_append_right (by omega), Nat.add_sub_cancel_left]
  exact h
 refine ⟨⟨at_ 0 _ (get 0 _ _ rfl), at_ 1 _ (get 1 _ _ rfl), at_ 4 _ (get 4 _ _ rfl), at_ 5 _ (get 5 _ _ rfl), at_ 6 _ (get 6 _ _ rfl), ⟨at_ 3 _ (get 3 _ _ rfl)⟩, (SmOk.at hok).same (fun k hk => h1.block k hk) h1.size⟩, at_ 2 _ (get 2 _ _ rfl), h1, by simp⟩
structure ChJ (T : RP) (b k m bi c j : Nat) (Ds acc : List Nat) (cur pb q cc : Nat) (lp : List ((Int × Int) × Int)) (w W : World) : Prop where
 me : RsM T lp W
 gd : Good T lp
 ch : ChS b k c j Ds acc cur pb q cc w W
 ln : acc.length = j
 jm : j <= m
 cn : cur < T.n
 pa : acc ++ pathB T.c T.n bigN (m - j) c cur = pathB T.c T.n bigN m k bi
 dl : Ds.length = j
 ck : c = k + j
def ChR (s : Sm) (f : Int) (t : Option Bool) (z k m bi : Nat) (bv : Int) (w : World) (a : Act) (W : World) : Prop := ∃ (c j : Nat) (Ds acc : List Nat) (cur pb q cc : Nat) (lp : List ((Int × Int) × Int)) (zs : Nat -> Value), a = { tmps := List.toArray (List.cons (lkV s f t) (List.cons (vi k) (List.cons (vi z) (List.cons (.pointer (some ⟨w.heap.size, 0, none⟩)) (List.cons (zs 4) (List.cons (.pointer (some ⟨(w.heap.size + 1), 0, none⟩)) (List.cons (.pointer (some ⟨(w.heap.size + 1 + 1), 0, none⟩)) (List.cons (vi bv) (List.cons (.pointer (some ⟨(w.heap.size + 1 + 1 + 1 + 1), 0, none⟩)) (List.cons (.pointer (some ⟨(w.heap.size + 1 + 1 + 1 + 1 + 1), 0, none⟩)) (List.cons (.pointer (some ⟨(w.heap.size + 1 + 1 + 1 + 1 + 1 + 1), 0, none⟩)) (List.cons (vi bi) (List.cons (zs 12) (List.cons (zs 13) (List.cons (.pointer (some ⟨pb, 0, none⟩)) (List.cons (zs 15) (List.cons (zs 16) (List.cons (zs 17) (List.cons (zs 18) (List.cons (zs 19) (List.cons (zs 20) (List.cons (zs 21) (List.cons (zs 22) (List.cons (zs 23) (List.cons (zs 24) (List.cons (zs 25) (List.cons (zs 26) (List.cons (zs 27) (List.cons (zs 28) (List.cons (zs 29) (List.cons (zs 30) (List.cons (zs 31) (List.cons (zs 32) (List.cons (zs 33) (List.cons (zs 34) (List.cons (zs 35) (List.cons (zs 36) (List.cons (zs 37) (List.cons (zs 38) (List.cons (zs 39) (List.cons (zs 40) (List.cons (zs 41) (List.cons (zs 42) (List.cons (zs 43) (List.cons (zs 44) (List.cons (zs 45) (List.cons (zs 46) (List.cons (zs 47) (List.cons (zs 48) (List.cons (zs 49) (List.cons (zs 50) (List.cons (zs 51) (List.cons (zs 52) (List.cons (zs 53) (List.cons (zs 54) (List.cons (zs 55) (List.cons (zs 56) (List.cons (zs 57) (List.cons (zs 58) (List.cons (zs 59) (List.cons (zs 60) (List.cons (zs 61) (List.cons (zs 62) (List.cons (zs 63) (List.cons (zs 64) (List.cons (zs 65) (List.cons (zs 66) (List.cons (zs 67) (List.cons (zs 68) (List.cons (zs 69) (List.cons (zs 70) (List.cons (zs 71) (List.cons (zs 72) (List.cons (zs 73) (List.cons (zs 74) (List.cons (zs 75) (List.cons (zs 76) (List.cons (zs 77) (List.cons (zs 78) (List.cons (zs 79) (List.cons (zs 80) (List.cons (zs 81) (List.cons (zs 82) (List.nil)))))))))))))))))))))))))))))))))))))))))))))))))))))))))))))))))))))))))))))))))))), defers := Ds.map markD } /\ ChJ (rpOf s f t z w.heap.size) w.heap.size k m bi c j Ds acc cur pb q cc lp w W
theorem ChR.elim {s : Sm} {f : Int} {t : Option Bool} {z k m bi : Nat} {bv : Int} {w : World} {a : Act} {W : World} (h : ChR s f t z k m bi bv w a W) {C : Act -> World -> Prop}
  (hc : ∀ (c j : Nat) (Ds acc : List Nat) (cur pb q cc : Nat) (lp : List ((Int × Int) × Int)) (z4 z12 z13 z15 z16 z17 z18 z19 z20 z21 z22 z23 z24 z25 z26 z27 z28 z29 z30 z31 z32 z33 z34 z35 z36 z37 z38 z39 z40 z41 z42 z43 z44 z45 z46 z47 z48 z49 z50 z51 z52 z53 z54 z55 z56 z57 z58 z59 z60 z61 z62 z63 z64 z65 z66 z67 z68 z69 z70 z71 z72 z73 z74 z75 z76 z77 z78 z79 z80 z81 z82 : Value), ChJ (rpOf s f t z w.heap.size) w.heap.size k m bi c j Ds acc cur pb q cc lp w W -> a.defers.length = Ds.length -> C { tmps := List.toArray (List.cons (lkV s f t) (List.cons (vi k) (List.cons (vi z) (List.cons (.pointer (some ⟨w.heap.size, 0, none⟩)) (List.cons (z4) (List.cons (.pointer (some ⟨(w.heap.size + 1), 0, none⟩)) (List.cons (.pointer (some ⟨(w.heap.size + 1 + 1), 0, none⟩)) (List.cons (vi bv) (List.cons (.pointer (some ⟨(w.heap.size + 1 + 1 + 1 + 1), 0, none⟩)) (List.cons (.pointer (some ⟨(w.heap.size + 1 + 1 + 1 + 1 + 1), 0, none⟩)) (List.cons (.pointer (some ⟨(w.heap.size + 1 + 1 + 1 + 1 + 1 + 1), 0, none⟩)) (List.cons (vi bi) (List.cons (z12) (List.cons (z13) (List.cons (.pointer (some ⟨pb, 0, none⟩)) (List.cons (z15) (List.cons (z16) (List.cons (z17) (List.cons (z18) (List.cons (z19) (List.cons (z20) (List.cons (z21) (List.cons (z22) (List.cons (z23) (List.cons (z24) (List.cons (z25) (List.cons (z26) (List.cons (z27) (List.cons (z28) (List.cons (z29) (List.cons (z30) (List.cons (z31) (List.cons (z32) (List.cons (z33) (List.cons (z34) (List.cons (z35) (List.cons (z36) (List.cons (z37) (List.cons (z38) (List.cons (z39) (List.cons (z40) (List.cons (z41) (List.cons (z42) (List.cons (z43) (List.cons (z44) (List.cons (z45) (List.cons (z46) (List.cons (z47) (List.cons (z48) (List.cons (z49) (List.cons (z50) (List.cons (z51) (List.cons (z52) (List.cons (z53) (List.cons (z54) (List.cons (z55) (List.cons (z56) (List.cons (z57) (List.cons (z58) (List.cons (z59) (List.cons (z60) (List.cons (z61) (List.cons (z62) (List.cons (z63) (List.cons (z64) (List.cons (z65) (List.cons (z66) (List.cons (z67) (List.cons (z68) (List.cons (z69) (List.cons (z70) (List.cons (z71) (List.cons (z72) (List.cons (z73) (List.cons (z74) (List.cons (z75) (List.cons (z76) (List.cons (z77) (List.cons (z78) (List.cons (z79) (List.cons (z80) (List.cons (z81) (List.cons (z82) (List.nil)))))))))))))))))))))))))))))))))))))))))))))))))))))))))))))))))))))))))))))))))))), defers := Ds.map markD } W) : C a W := by
 obtain ⟨c, j, Ds, acc, cur, pb, q, cc, lp, zs, rfl, hJ⟩ := h
 exact hc _ _ _ _ _ _ _ _ _ (zs 4) (zs 12) (zs 13) (zs 15) (zs 16) (zs 17) (zs 18) (zs 19) (zs 20) (zs 21) (zs 22) (zs 23) (zs 24) (zs 25) (zs 26) (zs 27) (zs 28) (zs 29) (zs 30) (zs 31) (zs 32) (zs 33) (zs 34) (zs 35) (zs 36) (zs 37) (zs 38) (zs 39) (zs 40) (zs 41) (zs 42) (zs 43) (zs 44) (zs 45) (zs 46) (zs 47) (zs 48) (zs 49) (zs 50) (zs 51) (zs 52) (zs 53) (zs 54) (zs 55) (zs 56) (zs 57) (zs 58) (zs 59) (zs 60) (zs 61) (zs 62) (zs 63) (zs 64) (zs 65) (zs 66) (zs 67) (zs 68) (zs 69) (zs 70) (zs 71) (zs 72) (zs 73) (zs 74) (zs 75) (zs 76) (zs 77) (zs 78) (zs 79) (zs 80) (zs 81) (zs 82) hJ (by simp)
theorem ChR.intro {s : Sm} {f : Int} {t : Option Bool} {z k m bi : Nat} {bv : Int} {w : World} {W : World} (c j : Nat) (Ds acc : List Nat) (cur pb q cc : Nat) (lp : List ((Int × Int) × Int)) (z4 z12 z13 z15 z16 z17 z18 z19 z20 z21 z22 z23 z24 z25 z26 z27 z28 z29 z30 z31 z32 z33 z34 z35 z36 z37 z38 z39 z40 z41 z42 z43 z44 z45 z46 z47 z48 z49 z50 z51 z52 z53 z54 z55 z56 z57 z58 z59 z60 z61 z62 z63 z64 z65 z66 z67 z68 z69 z70 z71 z72 z73 z74 z75 z76 z77 z78 z79 z80 z81 z82 : Value) (hJ : ChJ (rpOf s f t z w.heap.size) w.heap.size k m bi c j Ds acc cur pb q cc lp w W) : ChR s f t z k m bi bv w { tmps := List.toArray (List.cons (lkV s f t) (List.cons (vi k) (List.cons (vi z) (List.cons (.pointer (some ⟨w.heap.size, 0, none⟩)) (List.cons (z4) (List.cons (.pointer (some ⟨(w.heap.size + 1), 0, none⟩)) (List.cons (.pointer (some ⟨(w.heap.size + 1 + 1), 0, none⟩)) (List.cons (vi bv) (List.cons (.pointer (some ⟨(w.heap.size + 1 + 1 + 1 + 1), 0, none⟩)) (List.cons (.pointer (some ⟨(w.heap.size + 1 + 1 + 1 + 1 + 1), 0, none⟩)) (List.cons (.pointer (some ⟨(w.heap.size + 1 + 1 + 1 + 1 + 1 + 1), 0, none⟩)) (List.cons (vi bi) (List.cons (z12) (List.cons (z13) (List.cons (.pointer (some ⟨pb, 0, none⟩)) (List.cons (z15) (List.cons (z16) (List.cons (z17) (List.cons (z18) (List.cons (z19) (List.cons (z20) (List.cons (z21) (List.cons (z22) (List.cons (z23) (List.cons (z24) (List.cons (z25) (List.cons (z26) (List.cons (z27) (List.cons (z28) (List.cons (z29) (List.cons (z30) (List.cons (z31) (List.cons (z32) (List.cons (z33) (List.cons (z34) (List.cons (z35) (List.cons (z36) (List.cons (z37) (List.cons (z38) (List.cons (z39) (List.cons (z40) (List.cons (z41) (List.cons (z42) (List.cons (z43) (List.cons (z44) (List.cons (z45) (List.cons (z46) (List.cons (z47) (List.cons (z48) (List.cons (z49) (List.cons (z50) (List.cons (z51) (List.cons (z52) (List.cons (z53) (List.cons (z54) (List.cons (z55) (List.cons (z56) (List.cons (z57) (List.cons (z58) (List.cons (z59) (List.cons (z60) (List.cons (z61) (List.cons (z62) (List.cons (z63) (List.cons (z64) (List.cons (z65) (List.cons (z66) (List.cons (z67) (List.cons (z68) (List.cons (z69) (List.cons (z70) (List.cons (z71) (List.cons (z72) (List.cons (z73) (List.cons (z74) (List.cons (z75) (List.cons (z76) (List.cons (z77) (List.cons (z78) (List.cons (z79) (List.cons (z80) (List.cons (z81) (List.cons (z82) (List.nil)))))))))))))))))))))))))))))))))))))))))))))))))))))))))))))))))))))))))))))))))))), defers := Ds.map markD } W :=
 ⟨c, j, Ds, acc, cur, pb, q, cc, lp, fun i => slotOf { tmps := List.toArray (List.cons (lkV s f t) (List.cons (vi k) (List.cons (vi z) (List.cons (.pointer (some ⟨w.heap.size, 0, none⟩)) (List.cons (z4) (List.cons (.pointer (some ⟨(w.heap.size + 1), 0, none⟩)) (List.cons (.pointer (some ⟨(w.heap.size + 1 + 1), 0, none⟩)) (List.cons (vi bv) (List.cons (.pointer (some ⟨(w.heap.size + 1 + 1 + 1 + 1), 0, none⟩)) (List.cons (.pointer (some ⟨(w.heap.size + 1 + 1 + 1 + 1 + 1), 0, none⟩)) (List.cons (.pointer (some ⟨(w.heap.size + 1 + 1 + 1 + 1 + 1 + 1), 0, none⟩)) (List.cons (vi bi) (List.cons (z12) (List.cons (z13) (List.cons (.pointer (some ⟨pb, 0, none⟩)) (List.cons (z15) (List.cons (z16) (List.cons (z17) (List.cons (z18) (List.cons (z19) (List.cons (z20) (List.cons (z21) (List.cons (z22) (List.cons (z23) (List.cons (z24) (List.cons (z25) (List.cons (z26) (List.cons (z27) (List.cons (z28) (List.cons (z29) (List.cons (z30) (List.cons (z31) (List.cons (z32) (List.cons (z33) (List.cons (z34) (List.cons (z35) (List.cons (z36) (List.cons (z37) (List.cons (z38) (List.cons (z39) (List.cons (z40) (List.cons (z41) (List.cons (z42) (List.cons (z43) (List.cons (z44) (List.cons (z45) (List.cons (z46) (List.cons (z47) (List.cons (z48) (List.cons (z49) (List.cons (z50) (List.cons (z51) (List.cons (z52) (List.cons (z53) (List.cons (z54) (List.cons (z55) (List.cons (z56) (List.cons (z57) (List.cons (z58) (List.cons (z59) (List.cons (z60) (List.cons (z61) (List.cons (z62) (List.cons (z63) (List.cons (z64) (List.cons (z65) (List.cons (z66) (List.cons (z67) (List.cons (z68) (List.cons (z69) (List.cons (z70) (List.cons (z71) (List.cons (z72) (List.cons (z73) (List.cons (z74) (List.cons (z75) (List.cons (z76) (List.cons (z77) (List.cons (z78) (List.cons (z79) (List.cons (z80) (List.cons (z81) (List.cons (z82) (List.nil)))))))))))))))))))))))))))))))))))))))))))))))))))))))))))))))))))))))))))))))))))), defers := [] } i, rfl, hJ⟩
attribute [local go_sem] Oper.semAt_some
theorem info_int : (Try.prog.info? 3).map (fun i => (i.zero, i.size, i.bytes)) = some (some (.int .i64 0), 1, 8) := by kernel_rfl
theorem own_whole {w : World} {base n c g : Nat} {e : TypeId} {xs : List Value} (h : w.ownsRow base e 1 (.slice (some ⟨g, 0, none⟩) n c) n xs) : ∃ t cs, Whole w g t cs := by
 rcases h.2 with ⟨h0, _⟩ | ⟨g2, cap, cur, hv, hb, hg, _⟩
 ·cases h0
 ·injection hv with e1 _ e3
  injection e1 with e1
  injection e1 with e1
  subst e1
  exact ⟨_, _, hg⟩
set_option maxRecDepth 100000 in
set_option maxHeartbeats 1000000 in
theorem cheap_any (s : Sm) (f : Int) (t : Option Bool) (k m : Nat) (w : World) (hok : SmOk s w) (hs : SdOk s.sd) (f0 : 0 <= f) (f1 : f <= 10001) (hk : k + m < s.cs.length) :
  Calls Try.prog 50 #[lkV s f t, vi k, vi (k + m : Nat)] w fun e w' => ∃ q c, e = .returned (.tuple #[.agg #[vi k, .slice (some ⟨q, 0, none⟩) (m + 1) c], vi (cheapN (cF (hT t s.sd) (dAt s.sd) f) s.sd.n bigN m k).2]) /\ newer w w' /\ w'.ownsRow w.heap.size 3 1 (.slice (some ⟨q, 0, none⟩) (m + 1) c) (m + 1) ((cheapN (cF (hT t s.sd) (dAt s.sd) f) s.sd.n bigN m k).1.map fun x : Nat => vi x) := by
 obtain ⟨z, hz⟩ : ∃ z, z = k + m := ⟨_, rfl⟩
 rw [<- hz] at hk ⊢
 obtain ⟨x, _, hx, _, hxl, _, _⟩ := sm_bed hs (k := 0) (j := 0) (by omega) (by have := hs.beds; omega)
 have HX := Lib.hid (And.intro hx hxl)
 have HZ := Lib.hid hz
 clear hz hx hxl
 have hT0 : RpOk (rpOf s f t z w.heap.size) := ⟨hs, f0, f1, hk, by simp only []; omega, by simp only []; omega, by simp only []; omega, by simp only []; omega, by simp only []; omega, by simp only []; omega⟩
 have HT := Lib.hid hT0
 have HOK := Lib.hid hok
 have HSD := Lib.hid hs
 clear hs f0 f1 hk hT0
 have HS := Lib.hid (start_is s f t z w hok)
 have e0 := Whole.made w 88 (lkC s f t)
 obtain ⟨b, hb⟩ : ∃ b, b = w.heap.size := ⟨_, rfl⟩
 have l0 := e0.at 0 (v := .slice s.a s.cs.length s.c) rfl
 have l1 := e0.at 1 (v := vi s.least) rfl
 have l2 := e0.at 2 (v := vi f) rfl
 have l3 := e0.at 3 (v := .func (.func (trF t)) #[] #[]) rfl
 clear e0 hok
 refine callsIn_wide.1 (callsIn_of_wp_marks (n := 9) Try.func50 rfl trivial ?_ rfl)
 simp only [Try.ntmps50, List.size_toArray, List.length_cons, List.length_nil, Nat.reduceAdd, Nat.reduceSub, Array.replicate_succ, Array.replicate_zero, List.push_toArray, List.append_toArray, List.nil_append, List.cons_append]
 refine wpIn_wide.2 ?_
 go_wp2_with fail
 rw [run_makeMap]
 go_upto_region 7 with fail
 refine genQ (fun X => RsM (rpOf s f t z w.heap.size) [] X /\ Whole X (w.heap.size + 1 + 1) 40 #[vi 0, .slice none 0 0] /\ newer w X /\ X.heap.size = w.heap.size + 7) HS.out ?_
 clear HS l0 l1 l2 l3 hb b
 rintro w1 ⟨hm, hr, hn, hsz⟩
 obtain ⟨n, hn'⟩ : ∃ n, n = s.sd.n := ⟨_, rfl⟩
 have HN := Lib.hid hn'
 have hxl : x.beds.length = n := by rw [hn']; exact HX.out.2
 have hcall := beds_any s f t x w1 hm.at_.ok HX.out.1
 rw [hxl] at hcall
 have HB := Lib.hid hcall
 have x0 := hm.xl.at 0 (v := .slice s.a s.cs.length s.c) rfl
 have x1 := hm.xl.at 1 (v := vi s.least) rfl
 have x2 := hm.xl.at 2 (v := vi f) rfl
 have x3 := hm.xl.at 3 (v := .func (.func (trF t)) #[] #[]) rfl
 have hn5 : n <= 5 := by rw [hn']; exact HSD.out.beds.2
 have H1 := Lib.hid (And.intro hm (And.intro hr (And.intro hn hsz)))
 clear hm hr hn hsz hcall hxl hn'
 go_wp2_with fail
 refine (HB.out).mono ?_
 rintro e w2 ⟨rfl, hb⟩
 have H2 : Hid (RsM (rpOf s f t z w.heap.size) [] w2 /\ Whole w2 (w.heap.size + 1 + 1) 40 #[vi 0, .slice none 0 0] /\ newer w w2) := Lib.hid ⟨H1.out.1.next hb, H1.out.2.1.below hb H1.out.2.1.lt, newer_trans H1.out.2.2.1 hb⟩
 clear H1 HB hb x0 x1 x2 x3
 obtain ⟨g, hg⟩ : ∃ g : Nat -> Int, g = restN (cF (hT t s.sd) (dAt s.sd) f) n bigN m k := ⟨_, rfl⟩
 have HR : Hid (∀ (j : Nat) lp W, j < n -> RsM (rpOf s f t z w.heap.size) lp W -> Good (rpOf s f t z w.heap.size) lp -> Calls Try.prog 78 (#[.agg #[vi k, vi j]] ++ rpA (rpOf s f t z w.heap.size)) W fun e W' => e = .returned (vi (g j)) /\ ∃ lp', RsM (rpOf s f t z w.heap.size) lp' W' /\ Good (rpOf s f t z w.heap.size) lp' /\ W.grownBy W' (some (w.heap.size + 1 + 1 + 1))) := Lib.hid (by
  intro j lp W hj h1 h2
  rw [hg, HN.out]
  exact rest_any (rpOf s f t z w.heap.size) HT.out m k j lp W HZ.out.symm (by rw [HN.out] at hj; exact hj) h1 h2)
 have HGN := Lib.hid hg
 clear hg
 go_wp2_with fail
 go_loopw [7, 11, 23] (fun s7 s11 s23 wr => ∃ i : Nat, i <= n /\ s23 = vi i /\ s7 = vi (firstB g bigN i).1 /\ s11 = vi (firstB g bigN i).2 /\ (∃ lp, RsM (rpOf s f t z w.heap.size) lp wr /\ Good (rpOf s f t z w.heap.size) lp) /\ Whole wr (w.heap.size + 1 + 1) 40 #[vi 0, .slice none 0 0] /\ newer w wr) (fun _ _ s23 _ => n - (intOf s23).toNat)
 case atStart => exact ⟨0, Nat.zero_le _, rfl, rfl, rfl, ⟨[], H2.out.1, fun p hp => by simp at hp⟩, H2.out.2.1, H2.out.2.2⟩
 case round =>
  obtain ⟨i, hi, rfl, rfl, rfl, ⟨lp, q1, q2⟩, q3, q4⟩ := hrel
  have f0 := q1.fl.at 0 (v := .func (.func 78) #[] (rpA (rpOf s f t z w.heap.size))) rfl
  have H3 := Lib.hid (And.intro q1 (And.intro q2 (And.intro q3 q4)))
  clear q1 q2 q3 q4
  by_cases hlt : i < n
  ·go_wp2_with fail
   refine (HR.out i lp wr hlt H3.out.1 H3.out.2.1).mono ?_
   rintro e w4 ⟨rfl, lp4, g1, g2, g3⟩
   have H4 : Hid (RsM (rpOf s f t z w.heap.size) lp4 w4 /\ Good (rpOf s f t z w.heap.size) lp4 /\ Whole w4 (w.heap.size + 1 + 1) 40 #[vi 0, .slice none 0 0] /\ newer w w4) := Lib.hid ⟨g1, g2, H3.out.2.2.1.grown g3 (fun e => by injection e; omega), Below.trans H3.out.2.2.2 (below_of_grown g3 (by omega) H3.out.2.2.2.size)⟩
   clear H3 g1 g2 g3 f0
   by_cases hgt : g i < (firstB g bigN i).1
   ·have e : firstB g bigN (i + 1) = (g i, i) := by simp only [firstB, if_pos hgt]
    go_wp2_with fail
    go_round
    case measure =>
     simp only [intOf]
     omega
    exact ⟨i + 1, by omega, rfl, by rw [e], by rw [e], ⟨lp4, H4.out.1, H4.out.2.1⟩, H4.out.2.2.1, H4.out.2.2.2⟩
   ·have e : firstB g bigN (i + 1) = firstB g bigN i := by simp only [firstB, if_neg hgt]
    go_wp2_with fail
    go_round
    case measure =>
     simp only [intOf]
     omega
    exact ⟨i + 1, by omega, rfl, by rw [e], by rw [e], ⟨lp4, H4.out.1, H4.out.2.1⟩, H4.out.2.2.1, H4.out.2.2.2⟩
  ·obtain rfl : i = n := by omega
   obtain ⟨bi, hbi⟩ : ∃ bi, bi = (firstB g bigN i).2 := ⟨_, rfl⟩
   obtain ⟨bv, hbv⟩ : ∃ bv, bv = (firstB g bigN i).1 := ⟨_, rfl⟩
   rw [<- hbi, <- hbv]
   have HBI := Lib.hid (And.intro hbi hbv)
   clear hbi hbv
   have h5 := H3.out.2.2.1.alloc (.cells #[vi bi] 3)
   have r0 := h5.at 0 (v := vi 0) rfl
   have r1 := h5.at 1 (v := .slice none 0 0) rfl
   have rf0 := h5.free 0
   have rf1 := h5.free 1
   have h6 := h5.set 0 (vi k)
   have u1 := h6.at 1 (v := .slice none 0 0) rfl
   have uf1 := h6.free 1
   clear h5 h6
   clear f0
   go_upto_region 15 with fail
   have HE : Hid (RsM (rpOf s f t z w.heap.size) lp (((wr.alloc (.cells #[vi bi] 3)).setCell ⟨w.heap.size + 1 + 1, 0, none⟩ (vi k)).setCell ⟨w.heap.size + 1 + 1, 1, none⟩ (.slice (some ⟨wr.heap.size, 0, none⟩) 1 1)) /\ Whole (((wr.alloc (.cells #[vi bi] 3)).setCell ⟨w.heap.size + 1 + 1, 0, none⟩ (vi k)).setCell ⟨w.heap.size + 1 + 1, 1, none⟩ (.slice (some ⟨wr.heap.size, 0, none⟩) 1 1)) (w.heap.size + 1 + 1) 40 #[vi k, .slice (some ⟨wr.heap.size, 0, none⟩) 1 1] /\ Whole (((wr.alloc (.cells #[vi bi] 3)).setCell ⟨w.heap.size + 1 + 1, 0, none⟩ (vi k)).setCell ⟨w.heap.size + 1 + 1, 1, none⟩ (.slice (some ⟨wr.heap.size, 0, none⟩) 1 1)) wr.heap.size 3 #[vi bi] /\ newer w (((wr.alloc (.cells #[vi bi] 3)).setCell ⟨w.heap.size + 1 + 1, 0, none⟩ (vi k)).setCell ⟨w.heap.size + 1 + 1, 1, none⟩ (.slice (some ⟨wr.heap.size, 0, none⟩) 1 1))) := Lib.hid (by
    have a0 := newer_allocH wr (.cells #[vi bi] 3)
    have a1 := H3.out.1.next a0
    have a2 : (wr.alloc (.cells #[vi bi] 3)).grownBy (((wr.alloc (.cells #[vi bi] 3)).setCell ⟨w.heap.size + 1 + 1, 0, none⟩ (vi k)).setCell ⟨w.heap.size + 1 + 1, 1, none⟩ (.slice (some ⟨wr.heap.size, 0, none⟩) 1 1)) (some (w.heap.size + 1 + 1)) := grown_set (p := ⟨w.heap.size + 1 + 1, 1, none⟩) (grown_set (p := ⟨w.heap.size + 1 + 1, 0, none⟩) (grown_refl _ _) (.inl rfl) _) (.inl rfl) _
    have a3 := H3.out.2.2.1.lt
    have a4 := H3.out.2.2.2
    refine ⟨a1.far a2 (by simp only []; omega) (by simp only []; omega) (by simp only []; omega) (by simp only []; omega) (by simp only []; omega) (by simp only []; omega) (by simp only []; omega), ((H3.out.2.2.1.alloc (.cells #[vi bi] 3)).set 0 (vi k)).set 1 (.slice (some ⟨wr.heap.size, 0, none⟩) 1 1), (Whole.made wr 3 #[vi bi]).grown a2 (fun e => by injection e; omega), Below.trans (newer_trans a4 a0) (below_of_grown a2 (by omega) (Nat.le_trans a4.size a0.size))⟩)
   have HGD := Lib.hid H3.out.2.1
   have HWR := Lib.hid (show w.heap.size + 7 <= wr.heap.size from H3.out.1.fl.lt)
   have HQ := Lib.hid (show w.heap.size + 1 + 1 < wr.heap.size from H3.out.2.2.1.lt)
   clear H3 r0 r1 rf0 rf1 u1 uf1
   refine genQ (fun X => RsM (rpOf s f t z w.heap.size) lp X /\ Whole X (w.heap.size + 1 + 1) 40 #[vi k, .slice (some ⟨wr.heap.size, 0, none⟩) 1 1] /\ Whole X wr.heap.size 3 #[vi bi] /\ newer w X) HE.out ?_
   clear HE
   rintro w5 ⟨hm, hr, hq, hn⟩
   have HW5 := Lib.hid (And.intro hm (And.intro hr (And.intro hq hn)))
   clear hm hr hq hn
   have hbn : bi < i := by
    have h1 := (first_is (f := g) (big := bigN) i).2.2
    rw [HBI.out.1]
    rcases h1 with h1 | h1
    ·rw [h1]
     show 0 < i
     have := HSD.out.beds
     have := HN.out
     omega
    ·exact h1.1
   obtain ⟨q0, hq0⟩ : ∃ q0, q0 = wr.heap.size := ⟨_, rfl⟩
   go_upto_region 16 with fail
   refine wp_loop (ChR s f t z k m bi bv w) (fun a _ => m - a.defers.length) ?_ ?_
   ·refine ChR.intro k 0 [] [] bi w5.heap.size wr.heap.size 1 lp _ _ _ _ _ _ _ _ _ _ _ _ _ _ _ _ _ _ _ _ _ _ _ _ _ _ _ _ _ _ _ _ _ _ _ _ _ _ _ _ _ _ _ _ _ _ _ _ _ _ _ _ _ _ _ _ _ _ _ _ _ _ _ _ _ _ _ _ _ _ _ ?_
    have h5 := HW5.out
    have e1 := newer_allocH w5 (.cells #[vi k, vi bi] 154)
    have e2 := HQ.out
    have hwr := HWR.out
    refine ⟨h5.1.next e1, HGD.out, ⟨h5.2.1.below e1 h5.2.1.lt, ⟨by simp, .inr ⟨wr.heap.size, 1, #[vi bi], rfl, hwr, h5.2.2.1.below e1 h5.2.2.1.lt, Nat.le_refl _, by unfold maxLen; omega, by simp, by simp⟩⟩, Whole.made w5 154 #[vi k, vi bi], newer_trans h5.2.2.2 e1, ⟨List.nodup_nil, by simp⟩, ?_, by simp, rfl⟩, rfl, Nat.zero_le _, ?_, by simp, rfl, rfl⟩
    ·have := h5.2.2.1.lt
     omega
    ·show bi < s.sd.n
     rw [<- HN.out]
     exact hbn
   ·intro a W hJ
    refine ChR.elim hJ ?_
    clear hJ
    intro c j Ds acc cur pb q cc lp z4 z12 z13 z15 z16 z17 z18 z19 z20 z21 z22 z23 z24 z25 z26 z27 z28 z29 z30 z31 z32 z33 z34 z35 z36 z37 z38 z39 z40 z41 z42 z43 z44 z45 z46 z47 z48 z49 z50 z51 z52 z53 z54 z55 z56 z57 z58 z59 z60 z61 z62 z63 z64 z65 z66 z67 z68 z69 z70 z71 z72 z73 z74 z75 z76 z77 z78 z79 z80 z81 z82 hJ hal
    have HAL := Lib.hid hal
    clear hal
    have hjm := hJ.jm
    have hcn := hJ.cn
    have HJ := Lib.hid hJ
    have s0 := hJ.ch.st.at 0 (v := vi c) rfl
    have s1 := hJ.ch.st.at 1 (v := vi cur) rfl
    have t0 := hJ.me.tl.at 0 (v := vi z) rfl
    clear hJ
    by_cases hlt : j < m
    ·have hcz : (c : Int) < z := by have := HZ.out; have := HJ.out.ck; omega
     have hcb : c <= 12 := by have h1 := HSD.out.cols; have h2 : z < s.cs.length := HT.out.zl; have h3 := sd_len s; omega
     have HK := Lib.hid (And.intro hlt (And.intro hcn hbn))
     have l0 := HJ.out.me.xl.at 0 (v := .slice s.a s.cs.length s.c) rfl
     have l1 := HJ.out.me.xl.at 1 (v := vi s.least) rfl
     have l2 := HJ.out.me.xl.at 2 (v := vi f) rfl
     have l3 := HJ.out.me.xl.at 3 (v := .func (.func (trF t)) #[] #[]) rfl
     go_upto_region 18 with fail
     obtain ⟨ce, hce⟩ : ∃ ce, ce = c + 1 := ⟨_, rfl⟩
     rw [show (c : Int) + 1 = (ce : Nat) by omega]
     have HCE := Lib.hid hce
     have HL := Lib.hid HJ.out.ch.lts
     have hn1 : newer W (W.alloc (.cells #[vi ce, vi cur] 154)) := newer_allocH _ _
     have HX := Lib.hid (show RsM (rpOf s f t z w.heap.size) lp (W.alloc (.cells #[vi ce, vi cur] 154)) /\ ChS w.heap.size k c j Ds acc cur pb q cc w (W.alloc (.cells #[vi ce, vi cur] 154)) /\ Whole (W.alloc (.cells #[vi ce, vi cur] 154)) W.heap.size 154 #[vi ce, vi cur] from ⟨HJ.out.me.next hn1, HJ.out.ch.next hn1, Whole.made _ _ _⟩)
     have HI := Lib.hid (And.intro HJ.out.gd (And.intro HJ.out.ln (And.intro HJ.out.pa (And.intro HJ.out.dl HJ.out.ck))))
     clear hn1 s0 s1 t0 l0 l1 l2 l3 hce HJ
     refine genQ (fun X => RsM (rpOf s f t z w.heap.size) lp X /\ ChS w.heap.size k c j Ds acc cur pb q cc w X /\ Whole X W.heap.size 154 #[vi ce, vi cur]) HX.out ?_
     clear HX
     obtain ⟨sb, hsb⟩ : ∃ sb, sb = W.heap.size := ⟨_, rfl⟩
     rw [<- hsb] at HL ⊢
     clear hsb W
     rintro w6 ⟨hm6, hc6, hs6⟩
     have s1 := hc6.st.at 1 (v := vi cur) rfl
     have l0 := hm6.xl.at 0 (v := .slice s.a s.cs.length s.c) rfl
     have l1 := hm6.xl.at 1 (v := vi s.least) rfl
     have l2 := hm6.xl.at 2 (v := vi f) rfl
     have l3 := hm6.xl.at 3 (v := .func (.func (trF t)) #[] #[]) rfl
     have H6 := Lib.hid (And.intro hm6 (And.intro hc6 hs6))
     clear hm6 hc6 hs6
     go_wp2_with fail
     refine (next_any s f t cur _).mono ?_
     rintro e w7 ⟨rfl, hw7⟩
     have H7 : Hid (RsM (rpOf s f t z w.heap.size) lp w7 /\ ChS w.heap.size k c j Ds acc cur pb q cc w w7 /\ Whole w7 sb 154 #[vi ce, vi cur] /\ Whole w7 (w6.heap.size + 1) 3 #[vi cur] /\ Whole w7 w6.heap.size 88 (lkC s f t) /\ sb < w6.heap.size) := Lib.hid (by
      have e1 : newer w6 (w6.alloc (.cells (lkC s f t) 88)) := newer_allocH _ _
      have e2 : newer (w6.alloc (.cells (lkC s f t) 88)) w7 := hw7 ▸ newer_allocH _ _
      have e3 := newer_trans e1 e2
      obtain ⟨a1, a2, a3⟩ := H6.out
      refine ⟨a1.next e3, a2.next e3, a3.below e3 a3.lt, ?_, ?_, a3.lt⟩
      ·rw [<- hw7]
       have e5 := Whole.made (w6.alloc (.cells (lkC s f t) 88)) 3 #[vi cur]
       rw [World.size_alloc] at e5
       exact e5
      ·have e4 := Whole.made w6 88 (lkC s f t)
       exact e4.below e2 e4.lt)
     obtain ⟨lb, hlb⟩ : ∃ lb, lb = w6.heap.size := ⟨_, rfl⟩
     rw [<- hlb] at H7 ⊢
     clear hlb hw7 H6 s1 l0 l1 l2 l3
     go_wp2_with fail
     obtain ⟨bb, hbb⟩ : ∃ bb, bb = lb + 1 := ⟨_, rfl⟩
     have HBB := Lib.hid hbb
     have hxn : x.beds.length <= 1000 := by have h1 := HSD.out.beds; have h2 := HX.out.2; omega
     obtain ⟨N, hN⟩ : ∃ N, N = sb := ⟨_, rfl⟩
     refine (wpIn_wide (n := 9)).1 (range_law (gf := 95) (lb := #[.pointer (some ⟨lb + 1, 0, none⟩), .pointer (some ⟨lb, 0, none⟩)]) rfl (enters_of Try.func95 (by kernel_rfl) rfl) ?_)
     intro r0 r1 r2 r3 r4 r5 r6
     rw [<- hbb]
     have hcn2 : cur < x.beds.length := by rw [HX.out.2]; exact hcn
     refine (callsIn_wide.1 (next_in 8 (w7.heap.size + 1) bb lb s f t x cur HX.out.1 hcn2 hxn (fun i2 W => BsJ s f t z w.heap.size k c ce j Ds acc cur pb q cc sb lb bb w7.heap.size N (bestK (rpOf s f t z w.heap.size).c (rpOf s f t z w.heap.size).n (z - ce) c cur i2) r0 w W) ?hJ ?hN ?hY _ ?h0)).mono ?_
     case hJ =>
      intro i2 W hj
      obtain ⟨_, g1, _⟩ := hj.me
      exact ⟨hj.bx, hj.lx, g1.at_.ok⟩
     case hN => exact fun i2 W W' hj hb => hj.next hb
     case h0 =>
      have e1 := newer_trans (newer_allocH w7 (.deferred (some []))) (newer_allocH (w7.alloc (.deferred (some []))) (.loop r0))
      obtain ⟨a1, a2, a3, a4, a5, a6⟩ := H7.out
      have b4 : bb < w7.heap.size := by rw [hbb]; exact a4.lt
      refine ⟨⟨lp, a1.next e1, HI.out.1⟩, a2.next e1, a3.below e1 a3.lt, (hbb ▸ a4).below e1 b4, a5.below e1 a5.lt, ?_, ?_, by rw [hN]; exact HL.out, by omega⟩
      ·simp only [heap_if, World.size_alloc]
       repeat rw [if_neg (by omega)]
       rfl
      ·simp only [heap_if, World.size_alloc]
       repeat rw [if_neg (by omega)]
       rfl
     case hY =>
      intro i2 W hk hj
      rw [show ((loN cur : Nat) : Int) + (i2 : Int) = ((loN cur + i2 : Nat) : Int) from rfl]
      have hkn : loN cur + i2 < (rpOf s f t z w.heap.size).n := by
       show loN cur + i2 < s.sd.n
       rw [<- HX.out.2]
       unfold cntN at hk
       unfold loN
       omega
      rw [HX.out.2] at hk
      rw [bestK_succ (show i2 < cntN (rpOf s f t z w.heap.size).n cur from hk)]
      obtain ⟨bk, hbk0⟩ : ∃ bk, bk = bestK (rpOf s f t z w.heap.size).c (rpOf s f t z w.heap.size).n (z - ce) c cur i2 := ⟨_, rfl⟩
      have hbk : bk < (rpOf s f t z w.heap.size).n := by rw [hbk0]; exact bestK_lt hcn
      rw [<- hbk0] at hj ⊢
      clear hbk0
      have HRC : Hid (∀ (j : Nat) lp W, j < (rpOf s f t z w.heap.size).n -> RsM (rpOf s f t z w.heap.size) lp W -> Good (rpOf s f t z w.heap.size) lp -> Calls Try.prog 78 (#[.agg #[vi ce, vi j]] ++ rpA (rpOf s f t z w.heap.size)) W fun e W' => e = .returned (vi (restN (rpOf s f t z w.heap.size).c (rpOf s f t z w.heap.size).n bigN (z - ce) ce j)) /\ ∃ lp', RsM (rpOf s f t z w.heap.size) lp' W' /\ Good (rpOf s f t z w.heap.size) lp' /\ W.grownBy W' (some (w.heap.size + 1 + 1 + 1))) := Lib.hid (fun j lp W hj h1 h2 => rest_any (rpOf s f t z w.heap.size) HT.out (z - ce) ce j lp W (by have := HCE.out; show ce + (z - ce) = z; omega) hj h1 h2)
      rw [<- HCE.out]
      obtain ⟨rv, hrv⟩ : ∃ rv, rv = restN (rpOf s f t z w.heap.size).c (rpOf s f t z w.heap.size).n bigN (z - ce) ce (loN cur + i2) := ⟨_, rfl⟩
      have RVH := Lib.hid hrv
      obtain ⟨rb, hrb⟩ : ∃ rb, rb = restN (rpOf s f t z w.heap.size).c (rpOf s f t z w.heap.size).n bigN (z - ce) ce bk := ⟨_, rfl⟩
      have RBH := Lib.hid hrb
      rw [<- hrv, <- hrb]
      clear hrv hrb
      obtain ⟨bn, hbn2⟩ : ∃ bn, bn = if rv < rb then loN cur + i2 else bk := ⟨_, rfl⟩
      have HBN := Lib.hid hbn2
      rw [<- hbn2]
      clear hbn2
      clear hbb hN
      refine yield_round (r := r0) hj.lo r1 r2 (by rw [r4]; rfl) ?_
      rw [r3, r4, r5, r6]
      simp only [List.zip_toArray, List.zip_cons_cons, List.zip_nil_right, List.foldl_toArray, List.foldl_cons, List.foldl_nil, List.setIfInBounds_toArray, List.set_cons_zero, List.set_cons_succ]
      gi_wp2_with fail
      refine ⟨hj.lo, ?_⟩
      have hj5 := hj.put (busyOf r0)
      obtain ⟨w8, hw8⟩ : ∃ w8, w8 = W.putObj (w7.heap.size + 1) (.loop (busyOf r0)) := ⟨_, rfl⟩
      rw [<- hw8] at hj5 ⊢
      clear hw8 hj W
      obtain ⟨D, hD⟩ : ∃ D, D = w7.heap.size := ⟨_, rfl⟩
      rw [<- hD] at hj5 ⊢
      have HJ := Lib.hid hj5
      have c62 : IntKind.i64.wrap ((c : Int) + 1) = (ce : Int) := by have h := HCE.out; rw [show (c : Int) + 1 = ce by omega]; exact IntWalk.i64_in _ (by omega)
      clear hj5 r1 r2 r3 r4 r5 r6 hD H7
      gi_wp2_with fail
      refine round_words (by kernel_rfl) (by kernel_rfl) (fun _ _ h => h) (region_told 10 (by kernel_rfl) (by kernel_rfl) (BsJ s f t z w.heap.size k c ce j Ds acc cur pb q cc sb lb bb D N bk (busyOf r0) w) (fun A B => A.grownBy B (some (w.heap.size + 1 + 1 + 1))) (pickD [vIs (.func (.func 78) #[] (rpA (rpOf s f t z w.heap.size))), vIs (.pointer (some ⟨pb, 0, none⟩)), vIs (vi c), vIs (vi ce), vIs (vi (loN cur + i2 : Nat)), vIs (.agg #[vi ce, vi (loN cur + i2 : Nat)]), vIs (vi rv), vIs (.func (.func 78) #[] (rpA (rpOf s f t z w.heap.size))), vIs (.agg #[vi ce, vi bk]), vIs (vi rb)]) (fun h k => grown_trans h k) (pickD_stable _ ⟨vIsG, vIsG, vIsG, vIsG, vIsG, vIsG, vIsG, vIsG, vIsG, vIsG, trivial⟩) (HJ.out.next (newer_drew_ _)) (grown_refl _ _) ?_ ?_)
      ·refine ⟨?_, ?_, ?_, ?_, ?_, ?_, ?_, ?_, ?_, ?_, trivial⟩
       ·intro a W hG hR hO hp; have h10 := hO.slot 10 (by kernel_rfl); obtain ⟨lp, hM, hgd⟩ := hG.me; have c0 := hM.fl.at 0 (v := .func (.func 78) #[] (rpA (rpOf s f t z w.heap.size))) rfl; refine wp_yields (v := .func (.func 78) #[] (rpA (rpOf s f t z w.heap.size))) ?_ ⟨_, rfl, rfl, grown_refl _ _, hG⟩; simp [slotOf] at h10; simp [execOp, go_sem, h10, c0]
       ·intro a W hG hR hO hp; have h14 := hO.slot 14 (by kernel_rfl); refine wp_yields (v := .pointer (some ⟨pb, 0, none⟩)) ?_ ⟨_, rfl, rfl, grown_refl _ _, hG⟩; simp [slotOf] at h14; simp [execOp, go_sem, h14]
       ·intro a W hG hR hO hp; have h60 : slotOf a 60 = .pointer (some ⟨pb, 0, none⟩) := hp.1; have c0 := hG.ch.st.at 0 (v := vi c) rfl; refine wp_yields (v := vi c) ?_ ⟨_, rfl, rfl, grown_refl _ _, hG⟩; simp [slotOf] at h60; simp [execOp, go_sem, h60, c0]
       ·intro a W hG hR hO hp; have h61 : slotOf a 61 = vi c := hp.1; refine wp_yields (v := vi ce) ?_ ⟨_, rfl, rfl, grown_refl _ _, hG⟩; simp [slotOf] at h61; simp [execOp, go_sem, h61, c62]
       ·intro a W hG hR hO hp; have h16 := hO.slot 16 (by kernel_rfl); refine wp_yields (v := vi (loN cur + i2 : Nat)) ?_ ⟨_, rfl, rfl, grown_refl _ _, hG⟩; simp [slotOf] at h16; simp [execOp, go_sem, h16]
       ·intro a W hG hR hO hp; have h62 : slotOf a 62 = vi ce := hp.1; have h63 : slotOf a 63 = vi (loN cur + i2 : Nat) := hp.2.1; refine wp_yields (v := .agg #[vi ce, vi (loN cur + i2 : Nat)]) ?_ ⟨_, rfl, rfl, grown_refl _ _, hG⟩; simp [slotOf] at h62 h63; simp [execOp, go_sem, h62, h63]
       ·intro a W hG hR hO hp
        have h59 : slotOf a 59 = .func (.func 78) #[] (rpA (rpOf s f t z w.heap.size)) := hp.1
        have h64 : slotOf a 64 = .agg #[vi ce, vi (loN cur + i2 : Nat)] := hp.2.1
        obtain ⟨lp, hM, hgd⟩ := hG.me
        have hcc := HRC.out (loN cur + i2) lp W hkn hM hgd
        rw [<- RVH.out] at hcc
        obtain ⟨ar, har⟩ : ∃ ar, ar = #[.agg #[vi ce, vi ((loN cur + i2) : Nat)]] ++ rpA (rpOf s f t z w.heap.size) := ⟨_, rfl⟩
        rw [<- har] at hcc
        refine wp_enters (f := 78) (args := ar) ?_ (hcc.mono ?_)
        ·simp [slotOf] at h59 h64
         rw [har]
         simp [execOp, go_sem, h59, h64]
        ·rintro e w' ⟨rfl, lp2, g1, g2, g3⟩
         exact ⟨_, rfl, _, rfl, rfl, g3, hG.back g3 ⟨lp2, g1, g2⟩⟩
       ·intro a W hG hR hO hp; have h10 := hO.slot 10 (by kernel_rfl); obtain ⟨lp, hM, hgd⟩ := hG.me; have c0 := hM.fl.at 0 (v := .func (.func 78) #[] (rpA (rpOf s f t z w.heap.size))) rfl; refine wp_yields (v := .func (.func 78) #[] (rpA (rpOf s f t z w.heap.size))) ?_ ⟨_, rfl, rfl, grown_refl _ _, hG⟩; simp [slotOf] at h10; simp [execOp, go_sem, h10, c0]
       ·intro a W hG hR hO hp; have h15 := hO.slot 15 (by kernel_rfl); have c0 := hG.sp.at 0 (v := vi ce) rfl; have c1 := hG.sp.at 1 (v := vi bk) rfl; refine wp_yields (v := .agg #[vi ce, vi bk]) ?_ ⟨_, rfl, rfl, grown_refl _ _, hG⟩; simp [slotOf] at h15; simp [execOp, go_sem, h15, c0, c1]
       ·intro a W hG hR hO hp
        have h66 : slotOf a 66 = .func (.func 78) #[] (rpA (rpOf s f t z w.heap.size)) := hp.1
        have h67 : slotOf a 67 = .agg #[vi ce, vi bk] := hp.2.1
        obtain ⟨lp, hM, hgd⟩ := hG.me
        have hcc := HRC.out bk lp W hbk hM hgd
        rw [<- RBH.out] at hcc
        obtain ⟨ar, har⟩ : ∃ ar, ar = #[.agg #[vi ce, vi (bk : Nat)]] ++ rpA (rpOf s f t z w.heap.size) := ⟨_, rfl⟩
        rw [<- har] at hcc
        refine wp_enters (f := 78) (args := ar) ?_ (hcc.mono ?_)
        ·simp [slotOf] at h66 h67
         rw [har]
         simp [execOp, go_sem, h66, h67]
        ·rintro e w' ⟨rfl, lp2, g1, g2, g3⟩
         exact ⟨_, rfl, _, rfl, rfl, g3, hG.back g3 ⟨lp2, g1, g2⟩⟩
      ·intro W hG hR
       rintro _ rfl _ rfl _ rfl _ rfl _ rfl _ rfl _ rfl _ rfl _ rfl _ rfl
       change wpList _ _ _ _ _ _
       simp only [Act.put, List.setIfInBounds_toArray, List.set_cons_zero, List.set_cons_succ, List.drop_succ_cons, List.drop_zero]
       have HJ2 := Lib.hid hG
       clear hG hR HJ c62
       obtain ⟨w9, hw9⟩ : ∃ w9, w9 = W := ⟨_, rfl⟩
       rw [<- hw9] at HJ2 ⊢
       clear hw9 W
       by_cases hgt : rv < rb
       ·have e1 := HJ2.out.sp.at 1 (v := vi bk) rfl
        have e2 := HJ2.out.sp.free 1
        have hsc := setCell_same e1
        have HX8 := Lib.hid (And.intro (HJ2.out.set (loN cur + i2)).lo ((HJ2.out.set (loN cur + i2)).put r0))
        have HE := Lib.hid (show bn = loN cur + i2 by rw [HBN.out, if_pos hgt])
        go_wp2_with fail
        refine onlyN_intro ?_
        gi_wp2_with fail
        exact ⟨HX8.out.1, rfl, HE.out ▸ HX8.out.2⟩
       ·have HX8 := Lib.hid (And.intro HJ2.out.lo (HJ2.out.put r0))
        have HE := Lib.hid (show bn = bk by rw [HBN.out, if_neg hgt])
        go_wp2_with fail
        refine onlyN_intro ?_
        gi_wp2_with fail
        exact ⟨HX8.out.1, rfl, HE.out ▸ HX8.out.2⟩
     ·rintro e W ⟨⟨v, rfl⟩, hj⟩
      refine ⟨⟨_, rfl⟩, .inl ⟨hj.lo, ?_⟩⟩
      rw [HX.out.2, show s.sd.n = (rpOf s f t z w.heap.size).n from rfl, bestK_all] at hj
      obtain ⟨nx, hnx⟩ : ∃ nx, nx = stepB (rpOf s f t z w.heap.size).c (rpOf s f t z w.heap.size).n bigN (z - ce) c cur := ⟨_, rfl⟩
      rw [<- hnx] at hj
      have HNX := Lib.hid hnx
      have hnn : nx < (rpOf s f t z w.heap.size).n := by rw [hnx]; exact (step_mem hcn).1
      obtain ⟨D, hD⟩ : ∃ D, D = w7.heap.size := ⟨_, rfl⟩
      rw [<- hD] at hj ⊢
      have hj5 := hj.put (overOf r0)
      obtain ⟨we, hwe⟩ : ∃ we, we = W.putObj (D + 1) (.loop (overOf r0)) := ⟨_, rfl⟩
      rw [<- hwe] at hj5 ⊢
      obtain ⟨⟨lp3, q1, q2⟩, q3, q4, _, _, q5, _, q6, q7, q8, q9, q10⟩ := hj5
      have hne : D ∉ Ds := fun hm => by have := q6.d _ hm; omega
      have HGD3 := Lib.hid q2
      have HA : Hid (ApJ s f t z w.heap.size k c ce j (D :: Ds) acc cur pb q cc sb nx we.heap.size lp3 w 0 we) := Lib.hid (by
       have a1 := q6.p
       have a2 := q6.q
       have a3 := q6.n
       have a4 := q3.pbb
       have a5 := q3.qge
       have a6 := q4.lt
       have a7 : pb ∉ Ds := q3.ms.far q3.st
       have a8 : q ∉ Ds := fun hm => by
        have e1 := own_whole q3.row
        obtain ⟨tt, cs, e1⟩ := e1
        exact q3.ms.far e1 hm
       refine ⟨q1, q3.st, q4, q3.nw, ⟨List.nodup_cons.2 ⟨hne, q3.ms.nd⟩, fun E hE => ?_⟩, Nat.le_refl _, fun _ => q3.hr, fun _ => q3.row, fun e => by omega, a4, a5, by omega, fun E hE => ?_, ?_, by omega, by omega, ?_, ?_, q3.wb, by omega, by omega⟩
       ·rcases List.mem_cons.1 hE with rfl | hE
        ·exact q5
        ·exact q3.ms.at_ E hE
       ·rcases List.mem_cons.1 hE with rfl | hE
        ·omega
        ·exact q3.ge E hE
       ·intro e
        exact own_ne q3.row q3.st (by decide) (by rw [<- e]; rfl)
       ·rw [List.mem_cons, not_or]
        exact ⟨by omega, a8⟩
       ·rw [List.mem_cons, not_or]
        exact ⟨by omega, a7⟩)
      have HQL := Lib.hid (show q < we.heap.size /\ w.heap.size + 7 <= we.heap.size from ⟨HA.out.lo.2.2.2.2.2.2.2.2.2.2.1, HA.out.lo.2.2.2.2.2.2.2.2.2.2.2⟩)
      have HJ12 : Hid (j <= 12) := Lib.hid (by have := HI.out.2.2.2.2; omega)
      have HNN := Lib.hid hnn
      clear hj r1 r2 r3 r4 r5 r6 q1 q2 q3 q4 q5 q6 q7 q8 q9 q10 hwe hne hnx hD hnn H7 hbb hN HL hcn2 hxn
      go_upto_region 22 with fail
      refine wp_words (by kernel_rfl) (region_steps 9 5 8 (by kernel_rfl) (by kernel_rfl) (by kernel_rfl) (by decide) (by decide) (by decide) (ApJ s f t z w.heap.size k c ce j (D :: Ds) acc cur pb q cc sb nx we.heap.size lp3 w) (fun W W' => W.grownBy W' (some q)) (fun W W' => W.grownBy W' (some (w.heap.size + 1 + 1))) (pickD [vIs (.pointer (some ⟨w.heap.size + 1 + 1, 1, none⟩)), vIs (.slice (some ⟨q, 0, none⟩) (j + 1) cc), vIs (.pointer (some ⟨sb, 1, none⟩)), vIs (vi nx), vCell we.heap.size nx, vOwnJ w.heap.size (j + 1 + 1) (acc ++ [cur] ++ [nx]), vIs (.agg #[vi ce, vi nx]), vIs (.pointer (some ⟨w.heap.size + 1 + 1, 1, none⟩)), fun _ _ => True]) ?_ (fun sg W W' h hb => h.next hb) ?_ ?_ (HA.out.next (newer_drew_ _)) ⟨?_, ?_, ?_, ?_, ?_, ?_, ?_, ?_, ?_, trivial⟩ ?_)
      ·intro i v W W' hD hR
       match i, hD with
       | 0, h => exact h
       | 1, h => exact h
       | 2, h => exact h
       | 3, h => exact h
       | 4, h => exact (by obtain ⟨g, h1, h2, h3⟩ := h; exact ⟨g, h1, h2, h3.below hR h3.lt⟩)
       | 5, h => obtain ⟨g, c', h1, h2⟩ := h; exact ⟨g, c', h1, own_below h2 hR⟩
       | 6, h => exact h
       | 7, h => exact h
       | 8, _ => trivial
       | (_ + 9), _ => trivial
      ·intro i v W W' hi hD hR
       match i, hD with
       | 0, h => exact h
       | 1, h => exact h
       | 2, h => exact h
       | 3, h => exact h
       | 4, h => exact vCell_far HQL.out.1 h hR
       | 5, h => exact absurd rfl hi
       | 6, h => exact h
       | 7, h => exact h
       | 8, _ => trivial
       | (_ + 9), _ => trivial
      ·intro i v W W' hD hR
       match i, hD with
       | 0, h => exact h
       | 1, h => exact h
       | 2, h => exact h
       | 3, h => exact h
       | 4, h => exact vCell_far (by have := HQL.out; omega) h hR
       | 5, h => exact vOwnJ_far (by omega) h hR
       | 6, h => exact h
       | 7, h => exact h
       | 8, _ => trivial
       | (_ + 9), _ => trivial
      ·intro s9 a W hs hG hO hp
       have h6 := hO.slot 6 (by kernel_rfl)
       refine wp_yields (v := .pointer (some ⟨w.heap.size + 1 + 1, 1, none⟩)) ?_ ⟨_, rfl, rfl, Below.refl _ _⟩
       simp [slotOf] at h6
       simp [execOp, go_sem, h6]
      ·intro a W hG hO hp; have h72 := (show slotOf a 72 = .pointer (some ⟨w.heap.size + 1 + 1, 1, none⟩) from hp.1); have c0 := (hG.hr (by omega)).at 1 (v := .slice (some ⟨q, 0, none⟩) (j + 1) cc) rfl; refine wp_yields (v := .slice (some ⟨q, 0, none⟩) (j + 1) cc) ?_ ⟨_, rfl, rfl, Below.refl _ _⟩; simp [slotOf] at h72; simp [execOp, go_sem, h72, c0]
      ·intro s9 a W hs hG hO hp
       have h15 := hO.slot 15 (by kernel_rfl)
       refine wp_yields (v := .pointer (some ⟨sb, 1, none⟩)) ?_ ⟨_, rfl, rfl, Below.refl _ _⟩
       simp [slotOf] at h15
       simp [execOp, go_sem, h15]
      ·intro s9 a W hs hG hO hp
       have h74 := (show slotOf a 74 = .pointer (some ⟨sb, 1, none⟩) from hp.1)
       have c0 := hG.sp.at 1 (v := vi nx) rfl
       refine wp_yields (v := vi nx) ?_ ⟨_, rfl, rfl, Below.refl _ _⟩
       simp [slotOf] at h74
       simp [execOp, go_sem, h74, c0]
      ·intro a W hG hO hp; have h75 : slotOf a 75 = vi nx := hp.1; refine wp_makes (v := .slice (some ⟨W.heap.size, 0, none⟩) 1 1) (W' := W.alloc (.cells #[vi nx] 3)) ?_ ⟨_, rfl, ⟨_, rfl, hG.sz, Whole.made _ _ _⟩, newer_allocH _ _⟩; simp [slotOf] at h75; simp [execOp, go_sem, h75]
      ·intro a W hG hO hp
       have h73 : slotOf a 73 = .slice (some ⟨q, 0, none⟩) (j + 1) cc := hp.1
       obtain ⟨g1, h76, hg1, hg2⟩ := hp.2.1
       obtain ⟨i0, hi, hz0, hz1, hz2⟩ := info_parts info_int
       refine wp_append_one (.tmp 73) (.tmp 76) 26 rfl (w.heap.size + 7) 3 i0 (.int .i64 0) 8 Try.underlying26 hi hz0 hz1 hz2 rfl _ (j + 1) cc _ ((eval_slot a 73).trans h73) (hG.ow rfl) _ 1 (vi nx) ((eval_slot a 76).trans h76) (hg2.at 0 rfl) rfl ?_ ?_ ?_ ?_
       ·have h1 := HJ12.out
        unfold maxLen
        omega
       ·have h1 := HJ12.out
        omega
       ·have h1 := hG.sz
        have h2 := HQL.out
        omega
       ·intro g c' W' hown hwhere
        have hgr : W.grownBy W' (some q) := by
         rcases hwhere with ⟨h1, _, h3⟩ | ⟨_, h3⟩
         ·injection h1 with h1
          injection h1 with h1
          rw [h1]
          exact h3
         ·exact h3.but _
        refine ⟨_, rfl, ⟨g, c', rfl, by simpa using hown⟩, hgr, hG.app hgr⟩
      ·intro s9 a W hG hO hp
       have h15 := hO.slot 15 (by kernel_rfl)
       have c0 := hG.sp.at 0 (v := vi ce) rfl
       have c1 := hG.sp.at 1 (v := vi nx) rfl
       refine wp_yields (v := .agg #[vi ce, vi nx]) ?_ ⟨_, rfl, rfl, Below.refl _ _⟩
       simp [slotOf] at h15
       simp [execOp, go_sem, h15, c0, c1]
      ·intro s9 a W hs hG hO hp
       have h6 := hO.slot 6 (by kernel_rfl)
       refine wp_yields (v := .pointer (some ⟨w.heap.size + 1 + 1, 1, none⟩)) ?_ ⟨_, rfl, rfl, Below.refl _ _⟩
       simp [slotOf] at h6
       simp [execOp, go_sem, h6]
      ·intro a W hG hO hp; have h79 : slotOf a 79 = .pointer (some ⟨w.heap.size + 1 + 1, 1, none⟩) := hp.1; obtain ⟨g, c', h77, hown⟩ := hp.2.1; have hr := hG.hr (by omega); have b1 := hr.at 1 (v := .slice (some ⟨q, 0, none⟩) (j + 1) cc) rfl; have f1 := hr.free 1; have hpt := hG.put hown; simp [slotOf] at h79 h77; refine wp_stores (W' := W.setCell ⟨w.heap.size + 1 + 1, 1, none⟩ (.slice (some ⟨g, 0, none⟩) (j + 1 + 1) c')) (by simp [execOp, go_sem, h79, h77, b1, f1]) ⟨undef, rfl, trivial, grown_set (p := ⟨w.heap.size + 1 + 1, 1, none⟩) (grown_refl W _) (.inl rfl) _, hpt⟩
      ·intro W hG
       rintro _ rfl _ rfl _ rfl _ rfl _ ⟨g1, rfl, -⟩ _ ⟨g2, c2, rfl, -⟩ _ rfl _ rfl
       change wpList _ _ _ _ _ _
       simp only [Act.put, List.setIfInBounds_toArray, List.set_cons_zero, List.set_cons_succ, List.drop_succ_cons, List.drop_zero]
       have p0 := hG.st.at 0 (v := vi c) rfl
       have p1 := hG.st.at 1 (v := vi cur) rfl
       have pf0 := hG.st.free 0
       have pf1 := hG.st.free 1
       have HE := Lib.hid hG.done
       clear hG
       go_upto_region 23 with fail
       obtain ⟨g3, c3, he⟩ := HE.out
       refine genQ (fun X => RsM (rpOf s f t z w.heap.size) lp3 X /\ Whole X (w.heap.size + 1 + 1) 40 #[vi k, .slice (some ⟨g3, 0, none⟩) (j + 1 + 1) c3] /\ X.ownsRow (w.heap.size + 7) 3 1 (.slice (some ⟨g3, 0, none⟩) (j + 1 + 1) c3) (j + 1 + 1) ((acc ++ [cur] ++ [nx]).map fun x : Nat => vi x) /\ Whole X pb 154 #[vi ce, vi nx] /\ newer w X /\ MarksOk (D :: Ds) X /\ w.heap.size + 7 <= X.heap.size /\ (∀ E ∈ D :: Ds, w.heap.size + 7 <= E) /\ w.heap.size = w.heap.size) he ?_
       clear he HE p0 p1 pf0 pf1 W
       rintro w10 ⟨k1, k2, k3, k4, k5, k6, k7, k8, k9⟩
       have p0 := k4.at 0 (v := vi ce) rfl
       have p1 := k4.at 1 (v := vi nx) rfl
       have HK2 := Lib.hid (And.intro k1 (And.intro k2 (And.intro k3 (And.intro k5 (And.intro k6 (And.intro k7 k8))))))
       clear k1 k2 k3 k4 k5 k6 k7 k8 k9
       go_wp2_with fail
       refine ⟨ChR.intro ce (j + 1) (D :: Ds) (acc ++ [cur]) nx w10.heap.size g3 c3 lp3 _ _ _ _ _ _ _ _ _ _ _ _ _ _ _ _ _ _ _ _ _ _ _ _ _ _ _ _ _ _ _ _ _ _ _ _ _ _ _ _ _ _ _ _ _ _ _ _ _ _ _ _ _ _ _ _ _ _ _ _ _ _ _ _ _ _ _ _ _ _ _ ?_, ?_⟩
       ·obtain ⟨k1, k2, k3, k5, k6, k7, k8⟩ := HK2.out
        obtain ⟨i1, i2, i3, i4, i5⟩ := HI.out
        have e1 := newer_allocH w10 (.cells #[vi ce, vi nx] 154)
        have hzc : z - ce = m - (j + 1) := by have := HZ.out; have := HCE.out; omega
        refine ⟨k1.next e1, HGD3.out, ⟨k2.below e1 k2.lt, own_below k3 e1, Whole.made _ _ _, newer_trans k5 e1, k6.next e1, k7, k8, rfl⟩, by rw [List.length_append, i2]; rfl, hlt, HNN.out, ?_, by rw [List.length_cons, i4], by have := HCE.out; omega⟩
        rw [<- i3, show m - j = (m - (j + 1)) + 1 by omega]
        simp only [pathB]
        rw [List.append_assoc, <- hzc, <- HNX.out, HCE.out]
        rfl
       ·have h1 := HI.out.2.2.2.1
        have h2 := HAL.out
        simp
        omega
    ·obtain rfl : j = m := by omega
     have hcz : ¬ ((c : Int) < z) := by have := HZ.out; have := HJ.out.ck; omega
     have r0 := HJ.out.ch.hr.at 0 (v := vi k) rfl
     have r1 := HJ.out.ch.hr.at 1 (v := .slice (some ⟨q, 0, none⟩) (j + 1) cc) rfl
     have rf0 := HJ.out.ch.hr.free 0
     have rf1 := HJ.out.ch.hr.free 1
     have hs0 := setCell_same r0
     have hs1 := setCell_same r1
     have HBV := Lib.hid (show bv = (cheapN (cF (hT t s.sd) (dAt s.sd) f) s.sd.n bigN j k).2 by rw [HBI.out.2, HGN.out, <- HN.out]; rfl)
     have HPA : Hid (acc ++ [cur] = (cheapN (cF (hT t s.sd) (dAt s.sd) f) s.sd.n bigN j k).1) := Lib.hid (by
      have h1 := HJ.out.pa
      rw [Nat.sub_self] at h1
      simp only [pathB] at h1
      rw [h1, HBI.out.1, HGN.out]
      show pathB (cF (hT t s.sd) (dAt s.sd) f) s.sd.n bigN j k _ = pathB (cF (hT t s.sd) (dAt s.sd) f) s.sd.n bigN j k (firstB (restN (cF (hT t s.sd) (dAt s.sd) f) s.sd.n bigN j k) bigN s.sd.n).2
      rw [<- HN.out])
     go_wp2_with fail
     refine leaves_marks Ds _ HJ.out.ch.ms ?_
     intro W' h1 h2 h3 h4 h5
     have hr' := HJ.out.ch.hr.same (h5 _ (HJ.out.ch.ms.far HJ.out.ch.hr))
     have r0 := hr'.at 0 (v := vi k) rfl
     have r1 := hr'.at 1 (v := .slice (some ⟨q, 0, none⟩) (j + 1) cc) rfl
     have hq : q ∉ Ds := by
      obtain ⟨tt, cs, e1⟩ := own_whole HJ.out.ch.row
      exact HJ.out.ch.ms.far e1
     refine ⟨.tuple #[.agg #[vi k, .slice (some ⟨q, 0, none⟩) (j + 1) cc], vi bv], by simp [results, Try.results50, go_sem, r0, r1], q, cc, by rw [HBV.out], ?_, ?_⟩
     ·have h6 := HJ.out.ch.nw
      refine ⟨h1.trans h6.os, h2.trans h6.tape, h3.trans h6.output, by rw [h4]; exact h6.size, fun x hx => ?_⟩
      exact (h5 x (fun hm => by have := HJ.out.ch.ge x hm; omega)).trans (h6.block x hx)
     ·rw [<- HPA.out]
      exact own_same (own_more HJ.out.ch.row (by omega)) (fun x hx => by
       have e2 : q = x := by simpa [Value.ownBlock] using hx
       rw [<- e2]
       exact h5 q hq)
 all_goals
  trace_state
  sorry
end

section
open Go.RowKit Go.Shelf Go.Deep
theorem cheap_to (s : Sm) (f : Int) (t : Option Bool) (k tz : Nat) (w : World) (hok : SmOk s w) (hs : SdOk s.sd) (f0 : 0 <= f) (f1 : f <= 10001) (hk : k <= tz) (ht : tz < s.cs.length) :
  Calls Try.prog 50 #[lkV s f t, vi k, vi tz] w fun e w' => ∃ q c, e = .returned (.tuple #[.agg #[vi k, .slice (some ⟨q, 0, none⟩) (tz - k + 1) c], vi (cheapN (cF (hT t s.sd) (dAt s.sd) f) s.sd.n bigN (tz - k) k).2]) /\ newer w w' /\ w'.ownsRow w.heap.size 3 1 (.slice (some ⟨q, 0, none⟩) (tz - k + 1) c) (tz - k + 1) ((cheapN (cF (hT t s.sd) (dAt s.sd) f) s.sd.n bigN (tz - k) k).1.map fun x : Nat => vi x) := by
 have h := cheap_any s f t k (tz - k) w hok hs f0 f1 (by omega)
 rw [show k + (tz - k) = tz by omega] at h
 exact h
def lowOut (R : Option (Nat × List Nat)) (w : World) (e : Ending) (w' : World) : Prop := match R with
 | none => e = .returned (.tuple #[.agg #[vi 0, .slice none 0 0], .bool false])
 | some (k, l) => ∃ A c, e = .returned (.tuple #[.agg #[vi k, .slice A l.length c], .bool true]) /\ w'.ownsRow w.heap.size 3 1 (.slice A l.length c) l.length (l.map fun x : Nat => vi x)
def lowT (s : Sd) (f : Int) (t : Option Bool) : Option (Nat × List Nat) := lowF (hT t s) (dAt s) s.n s.cols.length s.K f
set_option maxRecDepth 100000 in
set_option maxHeartbeats 1000000 in
theorem lower_any (s : Sm) (f : Int) (t : Option Bool) (w : World) (hok : SmOk s w) (hs : SdOk s.sd) (f0 : 0 <= f) (f1 : f <= 10001) :
  Calls Try.prog 24 #[lkV s f t] w fun e w' => lowOut (lowT s.sd f t) w e w' /\ newer w w' := by
 obtain ⟨R, hR⟩ : ∃ R, R = lowT s.sd f t := ⟨_, rfl⟩
 rw [<- hR]
 obtain ⟨c, hc⟩ : ∃ c, c = cF (hT t s.sd) (dAt s.sd) f := ⟨_, rfl⟩
 obtain ⟨n, hn⟩ : ∃ n, n = s.sd.n := ⟨_, rfl⟩
 obtain ⟨K, hK⟩ : ∃ K, K = s.sd.K := ⟨_, rfl⟩
 have HCH : Hid (∀ k tz W, SmOk s W -> k <= tz -> tz < s.cs.length -> Calls Try.prog 50 #[lkV s f t, vi k, vi tz] W fun e w' => ∃ q cc, e = .returned (.tuple #[.agg #[vi k, .slice (some ⟨q, 0, none⟩) (tz - k + 1) cc], vi (cheapN c n bigN (tz - k) k).2]) /\ newer W w' /\ w'.ownsRow W.heap.size 3 1 (.slice (some ⟨q, 0, none⟩) (tz - k + 1) cc) (tz - k + 1) ((cheapN c n bigN (tz - k) k).1.map fun x : Nat => vi x)) := Lib.hid (by
  intro k tz W h1 h2 h3
  rw [hc, hn]
  exact cheap_to s f t k tz W h1 hs f0 f1 h2 h3)
 have hl0 : lowS c n bigN s.cs.length K 0 s.cs.length = R := by
  rw [hR, hc, hn, hK]
  unfold lowT lowF
  rw [sd_len]
 have hkl : (K : Int) = s.least /\ 1 <= K /\ K <= 4 := by
  have h1 := hs.least
  have h2 : s.sd.least = s.least := rfl
  rw [hK]
  unfold Sd.K
  omega
 have hcl : s.cs.length <= 12 := by have h1 := hs.cols; rw [sd_len] at h1; omega
 have hnw : newer w ((w.alloc (.cells (lkC s f t) 88)).alloc (.cells #[vi 0, .slice none 0 0] 40)) := newer_trans (newer_allocH _ _) (newer_allocH _ _)
 have hxb := (Whole.made w 88 (lkC s f t)).alloc (.cells #[vi 0, .slice none 0 0] 40)
 have hrb := Whole.made (w.alloc (.cells (lkC s f t) 88)) 40 #[vi 0, .slice none 0 0]
 rw [World.size_alloc] at hrb
 have H0 := Lib.hid (And.intro hnw (And.intro hxb hrb))
 have x0 := hxb.at 0 (v := .slice s.a s.cs.length s.c) rfl
 have HOK := Lib.hid hok
 have HL0 := Lib.hid hl0
 clear hR hc hn hK hs f0 f1 hok hl0 hnw hxb hrb
 go_enter Try.func24, Try.ntmps24
 go_wp2_with fail
 refine wp_scope_straight ?_
 go_wp2_with fail
 refine wp_label ?_
 go_wp2_with fail
 go_loopw [3, 12] (fun s3 s12 wr => ∃ i : Nat, s3 = .bool false /\ i <= s.cs.length /\ s12 = vi i /\ newer w wr /\ Whole wr w.heap.size 88 (lkC s f t) /\ Whole wr (w.heap.size + 1) 40 #[vi 0, .slice none 0 0] /\ lowS c n bigN s.cs.length K i (s.cs.length - i) = R) (fun _ s12 _ => s.cs.length - (intOf s12).toNat)
 case atStart => exact ⟨0, rfl, Nat.zero_le _, rfl, H0.out.1, H0.out.2.1, H0.out.2.2, HL0.out⟩
 case round =>
  obtain ⟨i, rfl, hi, rfl, q1, q2, q3, q4⟩ := hrel
  have x0 := q2.at 0 (v := .slice s.a s.cs.length s.c) rfl
  have x1 := q2.at 1 (v := vi s.least) rfl
  have H1 := Lib.hid (And.intro q1 (And.intro q2 q3))
  have HR := Lib.hid q4
  by_cases hlt : i < s.cs.length
  ·have HIN : Hid (R = match lowIn c n bigN i (K - 1) (s.cs.length - (i + (K - 1))) with | some l => some (i, l) | none => lowS c n bigN s.cs.length K (i + 1) (s.cs.length - (i + 1))) := Lib.hid (by
    rw [<- q4, show s.cs.length - i = (s.cs.length - (i + 1)) + 1 by omega]
    rfl)
   clear q1 q2 q3 q4
   obtain ⟨wo, rfl⟩ : ∃ wo : World, wo = wr := ⟨_, rfl⟩
   go_wp2_with fail
   go_loopw [3, 5] (fun s3 s5 wr => ∃ tz : Nat, s3 = .bool false /\ s5 = vi tz /\ i + (K - 1) <= tz /\ tz <= 20 /\ newer w wr /\ Whole wr w.heap.size 88 (lkC s f t) /\ Whole wr (w.heap.size + 1) 40 #[vi 0, .slice none 0 0] /\ lowIn c n bigN i (K - 1) (s.cs.length - (i + (K - 1))) = lowIn c n bigN i (tz - i) (s.cs.length - tz)) (fun _ s5 _ => 30 - (intOf s5).toNat)
   case atStart => exact ⟨i + (K - 1), rfl, by rw [show (i : Int) + s.least - 1 = ((i + (K - 1) : Nat) : Int) by omega], Nat.le_refl _, by omega, H1.out.1, H1.out.2.1, H1.out.2.2, by rw [show i + (K - 1) - i = K - 1 by omega]⟩
   case round =>
    obtain ⟨tz, rfl, rfl, ht1, ht2, q1, q2, q3, q4⟩ := hrel
    have x0 := q2.at 0 (v := .slice s.a s.cs.length s.c) rfl
    have x1 := q2.at 1 (v := vi s.least) rfl
    have x2 := q2.at 2 (v := vi f) rfl
    have x3 := q2.at 3 (v := .func (.func (trF t)) #[] #[]) rfl
    have H2 := Lib.hid (And.intro q1 (And.intro q2 q3))
    clear H1
    by_cases hlt2 : tz < s.cs.length
    ·have HQ : Hid (lowIn c n bigN i (K - 1) (s.cs.length - (i + (K - 1))) = if (cheapN c n bigN (tz - i) i).2 < 0 then some (cheapN c n bigN (tz - i) i).1 else lowIn c n bigN i (tz - i + 1) (s.cs.length - (tz + 1))) := Lib.hid (by
      rw [q4, show s.cs.length - tz = (s.cs.length - (tz + 1)) + 1 by omega]
      rfl)
     have hpl : (cheapN c n bigN (tz - i) i).1.length = tz - i + 1 := path_len _ _ _
     have HC := Lib.hid (HCH.out i tz wr (HOK.out.next q1) (by omega) hlt2)
     obtain ⟨p, hp⟩ : ∃ p, p = cheapN c n bigN (tz - i) i := ⟨_, rfl⟩
     rw [<- hp] at HQ HC hpl
     have HPL := Lib.hid hpl
     clear hp hpl q1 q2 q3 q4
     obtain ⟨lv, cv⟩ := p
     go_wp2_with fail
     refine (HC.out).mono ?_
     rintro e w3 ⟨q, cc, rfl, hb3, hown⟩
     have H3 := Lib.hid (And.intro (newer_trans H2.out.1 hb3) (And.intro (H2.out.2.1.below hb3 H2.out.2.1.lt) (H2.out.2.2.below hb3 H2.out.2.2.lt)))
     have HB := Lib.hid (And.intro hown H2.out.1.size)
     clear H2 HC hb3 hown x0 x1 x2 x3
     by_cases hneg : cv < 0
     ·have hn3 := newer_allocH w3 (.cells #[vi i, .slice (some ⟨q, 0, none⟩) (tz - i + 1) cc] 40)
      have hr := H3.out.2.2.below hn3 H3.out.2.2.lt
      have r0 := hr.at 0 (v := vi 0) rfl
      have r1 := hr.at 1 (v := .slice none 0 0) rfl
      have f0 := hr.free 0
      have f1 := hr.free 1
      have hset := (hr.set 0 (vi i)).set 1 (.slice (some ⟨q, 0, none⟩) (tz - i + 1) cc)
      have s0 := hset.at 0 (v := vi i) rfl
      have s1 := hset.at 1 (v := .slice (some ⟨q, 0, none⟩) (tz - i + 1) cc) rfl
      have hs0 := setCell_same s0
      have hs1 := setCell_same s1
      have HF : Hid (lowOut R w (.returned (.tuple #[.agg #[vi i, .slice (some ⟨q, 0, none⟩) (tz - i + 1) cc], .bool true])) (((w3.alloc (.cells #[vi i, .slice (some ⟨q, 0, none⟩) (tz - i + 1) cc] 40)).setCell ⟨w.heap.size + 1, 0, none⟩ (vi i)).setCell ⟨w.heap.size + 1, 1, none⟩ (.slice (some ⟨q, 0, none⟩) (tz - i + 1) cc)) /\ newer w (((w3.alloc (.cells #[vi i, .slice (some ⟨q, 0, none⟩) (tz - i + 1) cc] 40)).setCell ⟨w.heap.size + 1, 0, none⟩ (vi i)).setCell ⟨w.heap.size + 1, 1, none⟩ (.slice (some ⟨q, 0, none⟩) (tz - i + 1) cc))) := Lib.hid (by
       have e1 := HQ.out
       rw [if_pos hneg] at e1
       have e2 := HIN.out
       rw [e1] at e2
       have e3 : R = some (i, lv) := e2
       have o1 := own_below HB.out.1 hn3
       refine ⟨?_, ((newer_trans H3.out.1 hn3).setCell (p := ⟨w.heap.size + 1, 0, none⟩) (Nat.le_succ _) _).setCell (p := ⟨w.heap.size + 1, 1, none⟩) (Nat.le_succ _) _⟩
       rw [e3]
       refine ⟨some ⟨q, 0, none⟩, cc, by rw [HPL.out], ?_⟩
       rw [HPL.out]
       exact own_set (own_set (own_more o1 HB.out.2) (own_ne o1 hr (by decide)) _) (own_ne o1 hr (by decide)) _)
      clear hset hn3 hr
      go_wp2_with fail
      dsimp only [Exit.noGoto]
      refine bodyPost_ret (v := .tuple #[.agg #[vi i, .slice (some ⟨q, 0, none⟩) (tz - i + 1) cc], .bool true]) ?_ rfl HF.out
      simp [results, Try.results24, go_sem, s0, s1]
     ·have hn3 := newer_allocH w3 (.cells #[vi i, .slice (some ⟨q, 0, none⟩) (tz - i + 1) cc] 40)
      have HF : Hid (newer w (w3.alloc (.cells #[vi i, .slice (some ⟨q, 0, none⟩) (tz - i + 1) cc] 40)) /\ Whole (w3.alloc (.cells #[vi i, .slice (some ⟨q, 0, none⟩) (tz - i + 1) cc] 40)) w.heap.size 88 (lkC s f t) /\ Whole (w3.alloc (.cells #[vi i, .slice (some ⟨q, 0, none⟩) (tz - i + 1) cc] 40)) (w.heap.size + 1) 40 #[vi 0, .slice none 0 0]) := Lib.hid ⟨newer_trans H3.out.1 hn3, H3.out.2.1.below hn3 H3.out.2.1.lt, H3.out.2.2.below hn3 H3.out.2.2.lt⟩
      have HL : Hid (lowIn c n bigN i (K - 1) (s.cs.length - (i + (K - 1))) = lowIn c n bigN i (tz + 1 - i) (s.cs.length - (tz + 1))) := Lib.hid (by
       have e1 := HQ.out
       rw [if_neg hneg] at e1
       rw [e1, show tz + 1 - i = tz - i + 1 by omega])
      clear hn3
      go_wp2_with fail
      refine ⟨⟨tz + 1, rfl, rfl, by omega, by omega, HF.out.1, HF.out.2.1, HF.out.2.2, HL.out⟩, ?_⟩
      simp [intOf]
      omega
    ·have HL : Hid (R = lowS c n bigN s.cs.length K (i + 1) (s.cs.length - (i + 1))) := Lib.hid (by
      have e1 := HIN.out
      rw [q4, show s.cs.length - tz = 0 by omega] at e1
      exact e1)
     clear q1 q2 q3 q4
     go_wp2_with fail
     refine ⟨⟨i + 1, rfl, by omega, rfl, H2.out.1, H2.out.2.1, H2.out.2.2, HL.out.symm⟩, ?_⟩
     simp [intOf]
     omega
  ·have e3 : R = none := by
    rw [<- q4, show s.cs.length - i = 0 by omega]
    rfl
   have r0 := q3.at 0 (v := vi 0) rfl
   have r1 := q3.at 1 (v := .slice none 0 0) rfl
   have f0 := q3.free 0
   have f1 := q3.free 1
   have hs0 := setCell_same r0
   have hs1 := setCell_same r1
   have HF : Hid (lowOut R w (.returned (.tuple #[.agg #[vi 0, .slice none 0 0], .bool false])) wr /\ newer w wr) := Lib.hid (by
    rw [e3]
    exact ⟨rfl, q1⟩)
   clear q1 q2 q3 q4 e3 H1 HR
   go_wp2_with fail
   dsimp only [Exit.noGoto]
   refine bodyPost_ret (v := .tuple #[.agg #[vi 0, .slice none 0 0], .bool false]) ?_ rfl HF.out
   simp [results, Try.results24, go_sem, r0, r1]
end

section
open Go.RowKit Go.Shelf Go.Deep
def worstS (s : Sd) : Option ((Nat × List Nat) × Int) := worstR (hT (some false) s) (dAt s) s.n s.cols.length s.K
def worstOut (s : Sd) (w : World) (e : Ending) (w' : World) : Prop := match slopeB s, worstS s with
 | false, _ => e = .returned (.tuple #[.agg #[vi 0, .slice none 0 0], vi 0, vi 1])
 | true, none => e = .returned (.tuple #[.agg #[vi 0, .slice none 0 0], vi 0, vi 7])
 | true, some ((k, l), v) => ∃ A c, e = .returned (.tuple #[.agg #[vi k, .slice A l.length c], vi v, vi 0]) /\ w'.ownsRow w.heap.size 3 1 (.slice A l.length c) l.length (l.map fun x : Nat => vi x)
theorem lowT_mono {s : Sd} (h : SdOk s) {f g : Nat} (hg : f <= g) (g1 : g <= 10001) (hl : (lowT s f (some false)).isSome = true) : (lowT s g (some false)).isSome = true :=
 lowF_mono (hd_ok h false) (by omega) (by omega) (by omega) hl
set_option maxRecDepth 100000 in
set_option maxHeartbeats 1000000 in
theorem worst_any (s : Sm) (w : World) (hok : SmOk s w) (few : SmFew s) : Calls Try.prog 9 #[smV s] w fun e w' => worstOut s.sd w e w' /\ newer w w' := by
 have hnw : newer w ((w.alloc (.cells (smC s) 46)).alloc (.cells #[vi 0, .slice none 0 0] 40)) := newer_trans (newer_allocH _ _) (newer_allocH _ _)
 have hxb := (Whole.made w 46 (smC s)).alloc (.cells #[vi 0, .slice none 0 0] 40)
 have hrb := Whole.made (w.alloc (.cells (smC s) 46)) 40 #[vi 0, .slice none 0 0]
 rw [World.size_alloc] at hrb
 have HV := Lib.hid (valid_any s _ (hok.next hnw) few)
 have x0 := hxb.at 0 (v := .slice s.a s.cs.length s.c) rfl
 have x1 := hxb.at 1 (v := vi s.least) rfl
 have H0 := Lib.hid (And.intro hnw (And.intro hxb hrb))
 have HOK := Lib.hid hok
 clear hok hnw hxb hrb few
 cases hv : slopeB s.sd with
 | false =>
  rw [hv] at HV
  have HW := Lib.hid (show ∀ (w' : World), worstOut s.sd w (.returned (.tuple #[.agg #[vi 0, .slice none 0 0], vi 0, vi 1])) w' from fun w' => by unfold worstOut; rw [hv])
  clear hv
  go_enter Try.func9, Try.ntmps9
  go_wp2_with fail
  refine (HV.out).mono ?_
  rintro e w1 ⟨rfl, hb⟩
  have hr := H0.out.2.2.below hb H0.out.2.2.lt
  have r0 := hr.at 0 (v := vi 0) rfl
  have r1 := hr.at 1 (v := .slice none 0 0) rfl
  have f0 := hr.free 0
  have f1 := hr.free 1
  have hs0 := setCell_same r0
  have hs1 := setCell_same r1
  have HN := Lib.hid (newer_trans H0.out.1 hb)
  clear hr hb
  go_wp2_with fail
  exact bodyPost_ret (v := .tuple #[.agg #[vi 0, .slice none 0 0], vi 0, vi 1]) (by simp [results, Try.results9, go_sem, r0, r1]) rfl ⟨HW.out _, HN.out⟩
 | true =>
  rw [hv] at HV
  have hs := sdOk_iff.1 hv
  have HSD := Lib.hid hs
  obtain ⟨P, hP⟩ : ∃ P : Nat -> Option (Nat × List Nat), P = fun f : Nat => lowT s.sd f (some false) := ⟨_, rfl⟩
  have HLOW : Hid (∀ (f : Nat) W, newer w W -> f <= 10001 -> Calls Try.prog 24 #[lkV s f (some false)] W fun e w' => lowOut (P f) W e w' /\ newer W w') := Lib.hid (by
   intro f W h1 h2
   rw [hP]
   exact lower_any s f (some false) W (HOK.out.next h1) hs (by omega) (by omega))
  have HMO : Hid (∀ f g : Nat, f <= g -> g <= 10001 -> (P f).isSome = true -> (P g).isSome = true) := Lib.hid (by
   rw [hP]
   exact fun f g h1 h2 h3 => lowT_mono hs h1 h2 h3)
  have HPE := Lib.hid hP
  have HZL : Hid (∀ W, newer w W -> Calls Try.prog 24 #[lkV s 1 none] W fun e w' => lowOut (lowT s.sd 1 none) W e w' /\ newer W w') := Lib.hid (fun W h1 => lower_any s 1 none W (HOK.out.next h1) hs (by omega) (by omega))
  have HTV := Lib.hid hv
  clear hv hP hs
  go_enter Try.func9, Try.ntmps9
  go_wp2_with fail
  refine (HV.out).mono ?_
  rintro e w1 ⟨rfl, hb⟩
  have H1 := Lib.hid (And.intro (newer_trans H0.out.1 hb) (And.intro (H0.out.2.1.below hb H0.out.2.1.lt) (H0.out.2.2.below hb H0.out.2.2.lt)))
  clear H0 hb HV x0 x1
  go_wp2_with fail
  go_loopw [5, 6] (fun s5 s6 wr => ∃ lo hi : Nat, s5 = vi lo /\ s6 = vi hi /\ 1 <= lo /\ lo <= hi /\ hi <= 10001 /\ newer w wr /\ Whole wr w.heap.size 46 (smC s) /\ Whole wr (w.heap.size + 1) 40 #[vi 0, .slice none 0 0] /\ (∀ m, 1 <= m -> m < lo -> (P m).isSome = false) /\ (hi < 10001 -> (P hi).isSome = true)) (fun s5 s6 _ => (intOf s6).toNat - (intOf s5).toNat)
  case atStart => exact ⟨1, 10001, rfl, rfl, Nat.le_refl _, by omega, Nat.le_refl _, H1.out.1, H1.out.2.1, H1.out.2.2, fun m h1 h2 => by omega, fun h => by omega⟩
  case round =>
   obtain ⟨lo, hi, rfl, rfl, b1, b2, b3, q1, q2, q3, q4, q5⟩ := hrel
   have x0 := q2.at 0 (v := .slice s.a s.cs.length s.c) rfl
   have x1 := q2.at 1 (v := vi s.least) rfl
   have H2 := Lib.hid (And.intro q1 (And.intro q2 q3))
   have HQ := Lib.hid (And.intro q4 q5)
   clear q1 q2 q3 q4 q5 H1
   by_cases hlt : lo < hi
   ·obtain ⟨n, hn⟩ : ∃ n, n = (lo + hi) / 2 := ⟨_, rfl⟩
    have hnb : lo <= n /\ n < hi := by omega
    have hni : ((lo : Int) + hi) / 2 = n := by omega
    clear hn
    go_wp2_with fail
    refine (below_any s n _).mono ?_
    rintro e w3 ⟨rfl, hb3⟩
    have H3 := Lib.hid (And.intro (newer_trans H2.out.1 hb3) (And.intro (H2.out.2.1.below hb3 H2.out.2.1.lt) (H2.out.2.2.below hb3 H2.out.2.2.lt)))
    clear H2 hb3 x0 x1
    go_wp2_with fail
    refine (HLOW.out n w3 H3.out.1 (by omega)).mono ?_
    rintro e w4 ⟨hout, hb4⟩
    have H4 := Lib.hid (And.intro (newer_trans H3.out.1 hb4) (And.intro (H3.out.2.1.below hb4 H3.out.2.1.lt) (H3.out.2.2.below hb4 H3.out.2.2.lt)))
    clear H3 hb4
    cases hpn : P n with
    | none =>
     rw [hpn] at hout
     have hout2 : e = .returned (.tuple #[.agg #[vi 0, .slice none 0 0], .bool false]) := hout
     subst hout2
     have HPN := Lib.hid hpn
     clear hpn hout
     have e1 := newer_allocH w4 (.cells #[vi 0, .slice none 0 0] 40)
     have H5 := Lib.hid (And.intro (newer_trans H4.out.1 e1) (And.intro (H4.out.2.1.below e1 H4.out.2.1.lt) (H4.out.2.2.below e1 H4.out.2.2.lt)))
     clear e1
     go_wp2_with fail
     refine ⟨⟨n + 1, hi, rfl, rfl, by omega, by omega, b3, H5.out.1, H5.out.2.1, H5.out.2.2, fun m h1 h2 => ?_, HQ.out.2⟩, ?_⟩
     ·cases hm : (P m).isSome with
      | false => rfl
      | true =>
       have h3 := HMO.out m n (by omega) (by omega) hm
       rw [HPN.out] at h3
       cases h3
     ·simp [intOf]
      omega
    | some u =>
     obtain ⟨k, l⟩ := u
     rw [hpn] at hout
     have hout2 : ∃ A c, e = .returned (.tuple #[.agg #[vi k, .slice A l.length c], .bool true]) /\ w4.ownsRow w3.heap.size 3 1 (.slice A l.length c) l.length (l.map fun x : Nat => vi x) := hout
     obtain ⟨A, c, rfl, _⟩ := hout2
     have HPN := Lib.hid hpn
     clear hpn hout
     have e1 := newer_allocH w4 (.cells #[vi k, .slice A l.length c] 40)
     have H5 := Lib.hid (And.intro (newer_trans H4.out.1 e1) (And.intro (H4.out.2.1.below e1 H4.out.2.1.lt) (H4.out.2.2.below e1 H4.out.2.2.lt)))
     clear e1
     go_wp2_with fail
     refine ⟨⟨lo, n, rfl, rfl, b1, hnb.1, by omega, H5.out.1, H5.out.2.1, H5.out.2.2, HQ.out.1, fun _ => by rw [HPN.out]; rfl⟩, ?_⟩
     simp [intOf]
     omega
   ·obtain rfl : hi = lo := by omega
    have hL : worstL (hT (some false) s.sd) (dAt s.sd) s.sd.n s.sd.cols.length s.sd.K = hi := (firstN_unique b1 (by omega) (fun m h1 h2 => by have h3 := HQ.out.1 m h1 h2; rw [HPE.out] at h3; exact h3) (fun h => by have h3 := HQ.out.2 (by omega); rw [HPE.out] at h3; exact h3)).symm
    by_cases hle : hi <= 10000
    ·have hW : worstS s.sd = (P hi).map fun u => (u, (hi : Int) - 1) := by
      unfold worstS worstR
      rw [hL, if_pos hle, HPE.out]
      rfl
     have HW := Lib.hid hW
     have HSO := Lib.hid (HQ.out.2 (by omega))
     clear hW hL
     go_wp2_with fail
     refine (below_any s hi _).mono ?_
     rintro e w3 ⟨rfl, hb3⟩
     have H3 := Lib.hid (And.intro (newer_trans H2.out.1 hb3) (And.intro (H2.out.2.1.below hb3 H2.out.2.1.lt) (H2.out.2.2.below hb3 H2.out.2.2.lt)))
     clear H2 hb3 x0 x1
     go_wp2_with fail
     refine (HLOW.out hi w3 H3.out.1 (by omega)).mono ?_
     rintro e w4 ⟨hout, hb4⟩
     have H4 := Lib.hid (And.intro (newer_trans H3.out.1 hb4) (And.intro (H3.out.2.1.below hb4 H3.out.2.1.lt) (H3.out.2.2.below hb4 H3.out.2.2.lt)))
     have HB3 := Lib.hid H3.out.1.size
     clear H3 hb4
     cases hpn : P hi with
     | none =>
      have h3 := HSO.out
      rw [hpn] at h3
      cases h3
     | some u =>
      obtain ⟨k, l⟩ := u
      rw [hpn] at hout
      have hout2 : ∃ A c, e = .returned (.tuple #[.agg #[vi k, .slice A l.length c], .bool true]) /\ w4.ownsRow w3.heap.size 3 1 (.slice A l.length c) l.length (l.map fun x : Nat => vi x) := hout
      obtain ⟨A, c, rfl, ho⟩ := hout2
      have e3 : worstS s.sd = some ((k, l), (hi : Int) - 1) := by rw [HW.out, hpn]; rfl
      clear hpn hout
      have hn3 := newer_allocH w4 (.cells #[vi k, .slice A l.length c] 40)
      have hr := H4.out.2.2.below hn3 H4.out.2.2.lt
      have r0 := hr.at 0 (v := vi 0) rfl
      have r1 := hr.at 1 (v := .slice none 0 0) rfl
      have f0 := hr.free 0
      have f1 := hr.free 1
      have hset := (hr.set 0 (vi k)).set 1 (.slice A l.length c)
      have s0 := hset.at 0 (v := vi k) rfl
      have s1 := hset.at 1 (v := .slice A l.length c) rfl
      have HF : Hid (worstOut s.sd w (.returned (.tuple #[.agg #[vi k, .slice A l.length c], vi ((hi : Int) - 1), vi 0])) (((w4.alloc (.cells #[vi k, .slice A l.length c] 40)).setCell ⟨w.heap.size + 1, 0, none⟩ (vi k)).setCell ⟨w.heap.size + 1, 1, none⟩ (.slice A l.length c)) /\ newer w (((w4.alloc (.cells #[vi k, .slice A l.length c] 40)).setCell ⟨w.heap.size + 1, 0, none⟩ (vi k)).setCell ⟨w.heap.size + 1, 1, none⟩ (.slice A l.length c))) := Lib.hid (by
       have o1 := own_below ho hn3
       refine ⟨?_, ((newer_trans H4.out.1 hn3).setCell (p := ⟨w.heap.size + 1, 0, none⟩) (Nat.le_succ _) _).setCell (p := ⟨w.heap.size + 1, 1, none⟩) (Nat.le_succ _) _⟩
       unfold worstOut
       rw [HTV.out, e3]
       exact ⟨A, c, rfl, own_set (own_set (own_more o1 HB3.out) (own_ne o1 hr (by decide)) _) (own_ne o1 hr (by decide)) _⟩)
      clear hset hn3 hr e3 ho
      go_wp2_with fail
      exact bodyPost_ret (v := .tuple #[.agg #[vi k, .slice A l.length c], vi ((hi : Int) - 1), vi 0]) (by simp [results, Try.results9, go_sem, s0, s1]) rfl HF.out
    ·have hW : worstS s.sd = (lowT s.sd 1 none).map fun u => (u, 10000) := by
      unfold worstS worstR
      rw [hL, if_neg hle]
      rfl
     have HW := Lib.hid hW
     clear hW hL
     go_wp2_with fail
     refine (HZL.out wr H2.out.1).mono ?_
     rintro e w4 ⟨hout, hb4⟩
     have H4 := Lib.hid (And.intro (newer_trans H2.out.1 hb4) (And.intro (H2.out.2.1.below hb4 H2.out.2.1.lt) (H2.out.2.2.below hb4 H2.out.2.2.lt)))
     have HB3 := Lib.hid H2.out.1.size
     clear H2 hb4 x0 x1
     cases hpn : lowT s.sd 1 none with
     | none =>
      rw [hpn] at hout
      have hout2 : e = .returned (.tuple #[.agg #[vi 0, .slice none 0 0], .bool false]) := hout
      subst hout2
      have HF : Hid (∀ w', worstOut s.sd w (.returned (.tuple #[.agg #[vi 0, .slice none 0 0], vi 0, vi 7])) w') := Lib.hid (by
       intro w'
       unfold worstOut
       rw [HTV.out, HW.out, hpn]
       rfl)
      clear hpn hout
      have e1 := newer_allocH w4 (.cells #[vi 0, .slice none 0 0] 40)
      have hr := H4.out.2.2.below e1 H4.out.2.2.lt
      have r0 := hr.at 0 (v := vi 0) rfl
      have r1 := hr.at 1 (v := .slice none 0 0) rfl
      have f0 := hr.free 0
      have f1 := hr.free 1
      have hs0 := setCell_same r0
      have hs1 := setCell_same r1
      have HN := Lib.hid (newer_trans H4.out.1 e1)
      clear hr e1
      go_wp2_with fail
      exact bodyPost_ret (v := .tuple #[.agg #[vi 0, .slice none 0 0], vi 0, vi 7]) (by simp [results, Try.results9, go_sem, r0, r1]) rfl ⟨HF.out _, HN.out⟩
     | some u =>
      obtain ⟨k, l⟩ := u
      rw [hpn] at hout
      have hout2 : ∃ A c, e = .returned (.tuple #[.agg #[vi k, .slice A l.length c], .bool true]) /\ w4.ownsRow wr.heap.size 3 1 (.slice A l.length c) l.length (l.map fun x : Nat => vi x) := hout
      obtain ⟨A, c, rfl, ho⟩ := hout2
      have e3 : worstS s.sd = some ((k, l), 10000) := by rw [HW.out, hpn]; rfl
      clear hpn hout
      have hn3 := newer_allocH w4 (.cells #[vi k, .slice A l.length c] 40)
      have hr := H4.out.2.2.below hn3 H4.out.2.2.lt
      have r0 := hr.at 0 (v := vi 0) rfl
      have r1 := hr.at 1 (v := .slice none 0 0) rfl
      have f0 := hr.free 0
      have f1 := hr.free 1
      have hset := (hr.set 0 (vi k)).set 1 (.slice A l.length c)
      have s0 := hset.at 0 (v := vi k) rfl
      have s1 := hset.at 1 (v := .slice A l.length c) rfl
      have HF : Hid (worstOut s.sd w (.returned (.tuple #[.agg #[vi k, .slice A l.length c], vi 10000, vi 0])) (((w4.alloc (.cells #[vi k, .slice A l.length c] 40)).setCell ⟨w.heap.size + 1, 0, none⟩ (vi k)).setCell ⟨w.heap.size + 1, 1, none⟩ (.slice A l.length c)) /\ newer w (((w4.alloc (.cells #[vi k, .slice A l.length c] 40)).setCell ⟨w.heap.size + 1, 0, none⟩ (vi k)).setCell ⟨w.heap.size + 1, 1, none⟩ (.slice A l.length c))) := Lib.hid (by
       have o1 := own_below ho hn3
       refine ⟨?_, ((newer_trans H4.out.1 hn3).setCell (p := ⟨w.heap.size + 1, 0, none⟩) (Nat.le_succ _) _).setCell (p := ⟨w.heap.size + 1, 1, none⟩) (Nat.le_succ _) _⟩
       unfold worstOut
       rw [HTV.out, e3]
       exact ⟨A, c, rfl, own_set (own_set (own_more o1 HB3.out) (own_ne o1 hr (by decide)) _) (own_ne o1 hr (by decide)) _⟩)
      clear hset hn3 hr e3 ho
      go_wp2_with fail
      exact bodyPost_ret (v := .tuple #[.agg #[vi k, .slice A l.length c], vi 10000, vi 0]) (by simp [results, Try.results9, go_sem, s0, s1]) rfl HF.out
end

section
open Go.RowKit Go.Shelf Go.Deep
theorem info_bd : (Try.prog.info? 93).map (fun i => (i.zero, i.size, i.bytes)) = some (some (.agg #[vi 0, vi 0, vi 0, vi 0, vi 0, vi 0, vi 0, vi 0]), 8, 64) := by kernel_rfl
theorem info_col : (Try.prog.info? 96).map (fun i => (i.zero, i.size, i.bytes)) = some (some (.slice none 0 0), 1, 24) := by kernel_rfl
theorem own_setAt {w : World} {base g n c size off : Nat} {e : TypeId} {xs : List Value} {u : Value} (h : w.ownsRow base e size (.slice (some ⟨g, 0, none⟩) n c) n xs) : (w.setCell ⟨g, off, none⟩ u).ownsRow base e size (.slice (some ⟨g, 0, none⟩) n c) n (xs.set off u) := by
 rcases h.2 with ⟨h0, _⟩ | ⟨g2, cap, cur, hv, hb, hg, hnc, hcm, hcs, htk⟩
 ·cases h0
 ·injection hv with e1 _ e3
  injection e1 with e1
  injection e1 with e1
  subst e1
  refine ⟨by rw [List.length_set]; exact h.1, .inr ⟨g, cap, cur.setIfInBounds off u, by rw [e3], hb, Whole.set hg off u, hnc, hcm, by simpa using hcs, ?_⟩⟩
  rw [Array.toList_setIfInBounds, List.take_set, htk]
theorem own_cells {w : World} {base g n c size : Nat} {e : TypeId} {xs : List Value} (h : w.ownsRow base e size (.slice (some ⟨g, 0, none⟩) n c) n xs) : ∃ cs, Whole w g e cs := by
 rcases h.2 with ⟨h0, _⟩ | ⟨g2, cap, cur, hv, hb, hg, _⟩
 ·cases h0
 ·injection hv with e1 _ e3
  injection e1 with e1
  injection e1 with e1
  subst e1
  exact ⟨_, hg⟩
end

section
open Go.RowKit Go.Shelf Go.Deep
structure Su where
 frm : Int
 beds : List Int
 a : Option Addr
 c : Nat
abbrev suC (u : Su) : Array Value := #[vi u.frm, .slice u.a u.beds.length u.c]
abbrev suV (u : Su) : Value := .agg (suC u)
def SuOk (u : Su) (W : World) : Prop := Row intL 1 W W.heap.size u.a u.beds
theorem SuOk.next {u : Su} {W W' : World} (h : SuOk u W) (hb : newer W W') : SuOk u W' := (Row.below h hb).more hb.size
def okB (n : Nat) (l : List Int) (i : Nat) : Bool := inB (iAt l i) 0 ((n : Int) - 1) && (decide (i = 0) || inB (iAt l i - iAt l (i - 1)) (-1) 1)
def surfB (s : Sd) (frm : Int) (l : List Int) : Bool := decide (0 <= frm) && decide (s.least <= l.length) && decide (frm <= s.cols.length - l.length) && goodB l.length (okB s.n l)
theorem row1k {w : World} {B : Nat} {A : Option Addr} {l : List Int} (h : Row intL 1 w B A l) {k : Nat} (hk : k < l.length) : ∃ b off, A = some ⟨b, off, none⟩ /\ w.cell? ⟨b, off + k, none⟩ = some (vi (iAt l k)) := by
 obtain ⟨c, hc⟩ := get_of_lt hk
 obtain ⟨b, off, e, _, h2⟩ := h (ne_nil_of_get hc)
 have h3 := h2 k c hc 0 (vi c) rfl
 have e2 : iAt l k = c := by simp [iAt, hc]
 exact ⟨b, off, e, by rw [e2]; simpa using h3⟩
set_option maxRecDepth 100000 in
set_option maxHeartbeats 1000000 in
theorem surface_any (s : Sm) (u : Su) (w : World) (hok : SmOk s w) (hu : SuOk u w) (hs : SdOk s.sd) (hul : u.beds.length <= 1000) : Calls Try.prog 65 #[smV s, suV u] w fun e w' => e = .returned (.bool (surfB s.sd u.frm u.beds)) /\ newer w w' := by
 have hcl : s.cs.length <= 12 /\ 1 <= s.cs.length := by have h1 := hs.cols; rw [sd_len] at h1; omega
 have hnw : newer w ((w.alloc (.cells (smC s) 46)).alloc (.cells (suC u) 40)) := newer_trans (newer_allocH _ _) (newer_allocH _ _)
 have hxb := (Whole.made w 46 (smC s)).alloc (.cells (suC u) 40)
 have hub := Whole.made (w.alloc (.cells (smC s) 46)) 40 (suC u)
 rw [World.size_alloc] at hub
 have H0 := Lib.hid (And.intro hnw (And.intro hxb hub))
 obtain ⟨y0, hy0⟩ := get_of_lt (l := s.cs) (k := 0) (by omega)
 have hyn : y0.beds.length = s.sd.n := (sd_n hy0).symm
 obtain ⟨b1, o1, ea, _, cy⟩ := rowC (hok.next hnw).cs hy0
 simp only [Nat.add_zero] at cy
 have x0 := hxb.at 0 (v := .slice s.a s.cs.length s.c) rfl
 rw [ea] at x0
 have HSA := Lib.hid ea
 have x1 := hxb.at 1 (v := vi s.least) rfl
 have u0 := hub.at 0 (v := vi u.frm) rfl
 have u1 := hub.at 1 (v := .slice u.a u.beds.length u.c) rfl
 obtain ⟨n, hn⟩ : ∃ n, n = s.sd.n := ⟨_, rfl⟩
 have hnb : 1 <= n /\ n <= 5 := by rw [hn]; exact hs.beds
 rw [hyn, <- hn] at cy
 unfold surfB
 rw [sd_len, <- hn, show s.sd.least = s.least from rfl]
 have HU := Lib.hid (hu.next hnw)
 have c0 : (0 : Int) < s.cs.length := by omega
 have hls := hs.least
 have hls2 : s.sd.least = s.least := rfl
 rw [hls2] at hls
 clear hok hu hs hnw hxb hub hy0 hyn hn ea hls2
 by_cases h1 : u.frm < 0
 ·rw [decide_eq_false (by omega : ¬ 0 <= u.frm)]
  go_enter Try.func65, Try.ntmps65
  go_wp2_with fail
  go_ret
  exact ⟨rfl, H0.out.1⟩
 ·rw [decide_eq_true (by omega : 0 <= u.frm)]
  by_cases h2 : (u.beds.length : Int) < s.least
  ·rw [decide_eq_false (by omega : ¬ s.least <= u.beds.length)]
   go_enter Try.func65, Try.ntmps65
   go_wp2_with fail
   go_ret
   exact ⟨rfl, H0.out.1⟩
  ·rw [decide_eq_true (by omega : s.least <= u.beds.length)]
   by_cases h3 : (s.cs.length : Int) - u.beds.length < u.frm
   ·rw [decide_eq_false (by omega : ¬ u.frm <= s.cs.length - u.beds.length)]
    go_enter Try.func65, Try.ntmps65
    go_wp2_with fail
    go_ret
    exact ⟨rfl, H0.out.1⟩
   ·rw [decide_eq_true (by omega : u.frm <= s.cs.length - u.beds.length)]
    have hsim : ∀ b, (true && true && true && b) = b := fun b => by simp
    rw [hsim]
    clear hsim
    have HQ : Hid (∀ k, k < u.beds.length -> okB n u.beds k = false -> goodB u.beds.length (okB n u.beds) = false) := Lib.hid (fun k hk h => goodB_false hk h)
    have HQ2 : Hid (goodTo (okB n u.beds) u.beds.length -> goodB u.beds.length (okB n u.beds) = true) := Lib.hid (fun h => goodB_true h)
    obtain ⟨r, hr⟩ : ∃ r, r = goodB u.beds.length (okB n u.beds) := ⟨_, rfl⟩
    rw [<- hr] at HQ HQ2 ⊢
    clear hr
    obtain ⟨ub, uo, eu, _⟩ := row1k HU.out (k := 0) (by omega)
    rw [eu] at u1
    have HEU := Lib.hid eu
    have HCY := Lib.hid cy
    clear eu cy
    go_enter Try.func65, Try.ntmps65
    go_wp2_with fail
    go_loopw [33] (fun s33 wr => ∃ k : Nat, k <= u.beds.length /\ s33 = vi k /\ goodTo (okB n u.beds) k /\ newer w wr /\ Whole wr w.heap.size 46 (smC s) /\ Whole wr (w.heap.size + 1) 40 (suC u) /\ newer ((w.alloc (.cells (smC s) 46)).alloc (.cells (suC u) 40)) wr) (fun s33 _ => u.beds.length - (intOf s33).toNat)
    case atStart => exact ⟨0, Nat.zero_le _, rfl, goodTo_zero _, H0.out.1, H0.out.2.1, H0.out.2.2, Below.refl _ _⟩
    case round =>
     obtain ⟨k, hk, rfl, q2, q3, q4, q5, q6⟩ := hrel
     clear x0 x1 u0 u1 H0
     have x0 := q4.at 0 (v := .slice s.a s.cs.length s.c) rfl
     rw [HSA.out] at x0
     by_cases hlt : k < u.beds.length
     ·obtain ⟨b2, o2, e2, d0⟩ := row1k (HU.out.below q6) hlt
      rw [HEU.out] at e2
      obtain ⟨rfl, rfl⟩ : ub = b2 /\ uo = o2 := by simpa using e2
      have u1 := q5.at 1 (v := .slice u.a u.beds.length u.c) rfl
      rw [HEU.out] at u1
      have cy := keep_cell HCY.out q6
      have hki : (k : Int) < u.beds.length := by omega
      have HG := Lib.hid (And.intro q2 q3)
      have HW := Lib.hid (And.intro q4 (And.intro q5 q6))
      have hok : okB n u.beds k = (inB (iAt u.beds k) 0 ((n : Int) - 1) && (decide (k = 0) || inB (iAt u.beds k - iAt u.beds (k - 1)) (-1) 1)) := rfl
      clear e2 q2 q3 q4 q5 q6
      obtain ⟨p, hp⟩ : ∃ p, p = iAt u.beds k := ⟨_, rfl⟩
      rw [<- hp] at d0 hok
      have HC1 := Lib.hid (fun W => within_any p 0 ((n : Int) - 1) W)
      cases hq : inB p 0 ((n : Int) - 1) with
      | false =>
       rw [hq] at HC1 hok
       have hr2 : r = false := HQ.out k hlt hok
       subst hr2
       clear hok hq hp
       go_wp2_with fail
       refine (HC1.out _).mono ?_
       rintro e w2 ⟨rfl, rfl⟩
       go_wp2_with fail
       go_ret
       exact ⟨rfl, HG.out.2⟩
      | true =>
       rw [hq] at HC1 hok
       have hpb : 0 <= p /\ p <= (n : Int) - 1 := by simpa [inB] using hq
       by_cases hk0 : k = 0
       ·subst hk0
        have HS := Lib.hid (goodTo_succ HG.out.1 (by rw [hok]; rfl))
        simp only [Nat.add_zero] at d0
        clear hok hq hp
        go_wp2_with fail
        refine (HC1.out _).mono ?_
        rintro e w2 ⟨rfl, rfl⟩
        go_wp2_with fail
        refine ⟨⟨1, by omega, rfl, HS.out, HG.out.2, HW.out.1, HW.out.2.1, HW.out.2.2⟩, ?_⟩
        simp [intOf]
        omega
       ·have hg1 := HG.out.1 (k - 1) (by omega)
        obtain ⟨b3, o3, e3, d1⟩ := row1k (HU.out.below HW.out.2.2) (k := k - 1) (by omega)
        rw [HEU.out] at e3
        obtain ⟨rfl, rfl⟩ : ub = b3 /\ uo = o3 := by simpa using e3
        unfold okB at hg1
        rw [Bool.and_eq_true] at hg1
        have hpb2 : 0 <= iAt u.beds (k - 1) /\ iAt u.beds (k - 1) <= (n : Int) - 1 := by simpa [inB] using hg1.1
        obtain ⟨p2, hp2⟩ : ∃ p2, p2 = iAt u.beds (k - 1) := ⟨_, rfl⟩
        rw [<- hp2] at d1 hok hpb2
        have HC2 := Lib.hid (fun W => beside_any p p2 W (by omega) (by omega))
        rw [decide_eq_false hk0, Bool.false_or, Bool.true_and] at hok
        have hkp : (0 : Int) < k := by omega
        have hkm : (k : Int) - 1 = ((k - 1 : Nat) : Int) := by omega
        have hkl : ((k - 1 : Nat) : Int) < u.beds.length := by omega
        clear hg1 e3 hp2 hp hq
        obtain ⟨r2, hr2⟩ : ∃ r2, r2 = inB (p - p2) (-1) 1 := ⟨_, rfl⟩
        rw [<- hr2] at HC2 hok
        clear hr2
        go_wp2_with fail
        refine (HC1.out _).mono ?_
        rintro e w2 ⟨rfl, rfl⟩
        go_wp2_with fail
        refine (HC2.out _).mono ?_
        rintro e w2 ⟨rfl, rfl⟩
        cases r2 with
        | false =>
         have hr2 : r = false := HQ.out k hlt hok
         subst hr2
         go_wp2_with fail
         go_ret
         exact ⟨rfl, HG.out.2⟩
        | true =>
         have HS := Lib.hid (goodTo_succ HG.out.1 hok)
         go_wp2_with fail
         refine ⟨⟨k + 1, by omega, rfl, HS.out, HG.out.2, HW.out.1, HW.out.2.1, HW.out.2.2⟩, ?_⟩
         simp [intOf]
         omega
     ·obtain rfl : k = u.beds.length := by omega
      have hr2 : r = true := HQ2.out q2
      subst hr2
      go_wp2_with fail
      go_ret
      exact ⟨rfl, q3⟩
def checkUN (s : Sd) (frm : Int) (l : List Int) : Int := if slopeB s then (if surfB s frm l then 0 else 2) else 1
set_option maxRecDepth 100000 in
set_option maxHeartbeats 1000000 in
theorem checkU_any (s : Sm) (u : Su) (w : World) (hok : SmOk s w) (few : SmFew s) (hu : SuOk u w) (hul : u.beds.length <= 1000) : Calls Try.prog 32 #[smV s, suV u] w fun e w' => e = .returned (vi (checkUN s.sd u.frm u.beds)) /\ newer w w' := by
 have hnw : newer w ((w.alloc (.cells (smC s) 46)).alloc (.cells (suC u) 40)) := newer_trans (newer_allocH _ _) (newer_allocH _ _)
 have hxb := (Whole.made w 46 (smC s)).alloc (.cells (suC u) 40)
 have hub := Whole.made (w.alloc (.cells (smC s) 46)) 40 (suC u)
 rw [World.size_alloc] at hub
 have H0 := Lib.hid (And.intro hnw (And.intro hxb hub))
 have HV := Lib.hid (valid_any s _ (hok.next hnw) few)
 have x0 := hxb.at 0 (v := .slice s.a s.cs.length s.c) rfl
 have x1 := hxb.at 1 (v := vi s.least) rfl
 have HSU : Hid (slopeB s.sd = true -> ∀ W, newer w W -> Calls Try.prog 65 #[smV s, suV u] W fun e w' => e = .returned (.bool (surfB s.sd u.frm u.beds)) /\ newer W w') := Lib.hid (fun h W hW => surface_any s u W (hok.next hW) (hu.next hW) (sdOk_iff.1 h) hul)
 unfold checkUN
 obtain ⟨q, hq⟩ : ∃ q, q = slopeB s.sd := ⟨_, rfl⟩
 obtain ⟨r, hr⟩ : ∃ r, r = surfB s.sd u.frm u.beds := ⟨_, rfl⟩
 rw [<- hq] at HV HSU ⊢
 rw [<- hr] at HSU ⊢
 clear hq hr hok few hu hul hnw hxb hub
 cases q with
 | false =>
  go_enter Try.func32, Try.ntmps32
  go_wp2_with fail
  refine (HV.out).mono ?_
  rintro e w1 ⟨rfl, hb⟩
  have HE := Lib.hid (newer_trans H0.out.1 hb)
  clear hb HV H0
  go_wp2_with fail
  go_ret
  exact ⟨rfl, HE.out⟩
 | true =>
  have HS2 := Lib.hid (HSU.out rfl)
  clear HSU
  go_enter Try.func32, Try.ntmps32
  go_wp2_with fail
  refine (HV.out).mono ?_
  rintro e w1 ⟨rfl, hb⟩
  have H1 := Lib.hid (And.intro (newer_trans H0.out.1 hb) (And.intro (H0.out.2.1.below hb H0.out.2.1.lt) (H0.out.2.2.below hb H0.out.2.2.lt)))
  clear hb HV H0 x0 x1
  have x0 := H1.out.2.1.at 0 (v := .slice s.a s.cs.length s.c) rfl
  have x1 := H1.out.2.1.at 1 (v := vi s.least) rfl
  have u0 := H1.out.2.2.at 0 (v := vi u.frm) rfl
  have u1 := H1.out.2.2.at 1 (v := .slice u.a u.beds.length u.c) rfl
  go_wp2_with fail
  refine (HS2.out w1 H1.out.1).mono ?_
  rintro e w2 ⟨rfl, hb⟩
  have HE := Lib.hid (newer_trans H1.out.1 hb)
  clear hb HS2 H1 x0 x1 u0 u1
  cases r with
  | false =>
   go_wp2_with fail
   go_ret
   exact ⟨rfl, HE.out⟩
  | true =>
   go_wp2_with fail
   go_ret
   exact ⟨rfl, HE.out⟩
end

section
open Go.RowKit Go.Shelf Go.Deep
def zeroBd : Bd := ⟨0, 0, ⟨0, 0⟩, ⟨0, 0⟩, ⟨0, 0⟩⟩
def bdAt (cols : List (List Bd)) (k b : Nat) : Bd := (bedAt cols k b).getD zeroBd
def bedsL (cols : List (List Bd)) : Nat -> List Nat -> List Bd
 | _, [] => []
 | k, b :: t => bdAt cols k b :: bedsL cols (k + 1) t
theorem bedsL_len (cols : List (List Bd)) : ∀ (l : List Nat) (k : Nat), (bedsL cols k l).length = l.length
 | [], _ => rfl
 | _ :: t, k => by simp [bedsL, bedsL_len cols t]
theorem bedsL_get (cols : List (List Bd)) : ∀ (l : List Nat) (k i b : Nat), l[i]? = some b -> (bedsL cols k l)[i]? = some (bdAt cols (k + i) b)
 | [], _, _, _, h => by simp at h
 | x :: t, k, 0, b, h => by
  have e : x = b := by simpa using h
  subst e
  rfl
 | x :: t, k, i + 1, b, h => by
  have ih := bedsL_get cols t (k + 1) i b (by simpa using h)
  rw [show k + (i + 1) = k + 1 + i by omega, <- ih]
  simp [bedsL]
def hK (l : List Bd) (tr : Nat -> Rl) : Nat -> Int
 | 0 => 0
 | k + 1 => hK l tr k + holdsN (l.getD k zeroBd) (tr k)
def dK (l : List Bd) : Nat -> Int
 | 0 => 0
 | k + 1 => dK l k + (l.getD k zeroBd).drive
def rlB (x : Rl) : Bool := inB x.fr 0 2000 && inB x.co 0 100000 && inB x.wa 0 100000
theorem rlB_parts {x : Rl} (h : rlB x = true) : (0 <= x.fr /\ x.fr <= 2000) /\ (0 <= x.co /\ x.co <= 100000) /\ (0 <= x.wa /\ x.wa <= 100000) := by
 simp only [rlB, inB, Bool.and_eq_true, decide_eq_true_eq] at h
 exact ⟨h.1.1, h.1.2, h.2⟩
theorem hK_bd {l : List Bd} {tr : Nat -> Rl} : ∀ k, k <= l.length -> (∀ b ∈ l, bdB b = true) -> (∀ i, i < k -> rlB (tr i) = true) -> 0 <= hK l tr k /\ hK l tr k <= 300000 * k
 | 0, _, _, _ => by simp [hK]
 | k + 1, hk, hb, ht => by
  have ih := hK_bd k (by omega) hb (fun i hi => ht i (by omega))
  obtain ⟨b, hbk⟩ := get_of_lt (l := l) (k := k) (by omega)
  have e : l.getD k zeroBd = b := by simp [List.getD, hbk]
  obtain ⟨h1, h2, h3⟩ := rlB_parts (ht k (by omega))
  have h4 := (holds_bd (b := b) (x := tr k) (bdB_parts (hb b (List.mem_of_getElem? hbk))).2.1 h1 h2 h3.1).2.2
  simp only [hK, e]
  omega
theorem dK_bd {l : List Bd} : ∀ k, k <= l.length -> (∀ b ∈ l, bdB b = true) -> -100000 * k <= dK l k /\ dK l k <= 100000 * k
 | 0, _, _ => by simp [dK]
 | k + 1, hk, hb => by
  have ih := dK_bd k (by omega) hb
  obtain ⟨b, hbk⟩ := get_of_lt (l := l) (k := k) (by omega)
  have e : l.getD k zeroBd = b := by simp [List.getD, hbk]
  have h4 := (bdB_parts (hb b (List.mem_of_getElem? hbk))).1
  simp only [dK, e]
  omega
def facV (H D : Int) : Value := .tuple (if D < 1 then #[vi 0, .bool false] else #[vi (factorN H D), .bool true])
set_option maxRecDepth 100000 in
set_option maxHeartbeats 1000000 in
theorem factor_any (l : List Bd) (A : Option Addr) (c F : Nat) (cp : Array Value) (tr : Nat -> Rl) (w : World) (hl : l.length <= 1000) (hr : Row bdL 8 w w.heap.size A l) (hbd : ∀ b ∈ l, bdB b = true) (htr : ∀ i, i < l.length -> rlB (tr i) = true) (hF : ∀ (args : Array Value) (W : World), (callFunc F args).run Try.prog W = .ok (.enter F args) W)
  (hT : ∀ (i : Nat) (b : Bd) (W : World), l[i]? = some b -> newer w W -> Calls Try.prog F (#[vi i, bdV b] ++ cp) W fun e w' => e = .returned (rlV (tr i)) /\ newer W w') :
  Calls Try.prog 35 #[.slice A l.length c, .func (.func F) #[] cp] w fun e w' => e = .returned (facV (hK l tr l.length) (dK l l.length)) /\ newer w w' := by
 have HR := Lib.hid hr
 have HB := Lib.hid hbd
 have HTR := Lib.hid htr
 have HT0 := Lib.hid hT
 obtain ⟨H, hH⟩ : ∃ H, H = hK l tr l.length := ⟨_, rfl⟩
 obtain ⟨D, hD⟩ : ∃ D, D = dK l l.length := ⟨_, rfl⟩
 rw [<- hH, <- hD]
 have HHD := Lib.hid (And.intro hH hD)
 clear hH hD
 clear hT htr hr hbd
 go_enter Try.func35, Try.ntmps35
 go_wp2_with fail
 go_loopw [6, 7, 12] (fun s6 s7 s12 wr => ∃ k : Nat, k <= l.length /\ s12 = vi k /\ s6 = vi (hK l tr k) /\ s7 = vi (dK l k) /\ newer w wr) (fun _ _ s12 _ => l.length - (intOf s12).toNat)
 case atStart => exact ⟨0, Nat.zero_le _, rfl, rfl, rfl, Below.refl _ _⟩
 case round =>
  obtain ⟨k, hk, rfl, rfl, rfl, hn⟩ := hrel
  have hh := hK_bd (tr := tr) k hk HB.out (fun i hi => HTR.out i (by omega))
  have hd := dK_bd k hk HB.out
  obtain ⟨w2, rfl⟩ : ∃ w2 : World, w2 = wr := ⟨_, rfl⟩
  by_cases hlt : k < l.length
  ·obtain ⟨b, hbk⟩ := get_of_lt hlt
   obtain ⟨b1, o1, ea, _, d0, d1, d2, d3, d4, d5, d6, d7⟩ := row8 (HR.out.below hn) hbk
   have hge : l.getD k zeroBd = b := by simp [List.getD, hbk]
   have hbb := bdB_parts (HB.out b (List.mem_of_getElem? hbk))
   have HS : Hid (hK l tr (k + 1) = hK l tr k + holdsN b (tr k) /\ dK l (k + 1) = dK l k + b.drive) := Lib.hid (by simp only [hK, dK, hge]; exact ⟨trivial, trivial⟩)
   obtain ⟨h, hhe⟩ : ∃ h, h = hK l tr k := ⟨_, rfl⟩
   obtain ⟨d, hde⟩ : ∃ d, d = dK l k := ⟨_, rfl⟩
   obtain ⟨y, hy⟩ : ∃ y, y = tr k := ⟨_, rfl⟩
   have hyb : rlB y = true := by rw [hy]; exact HTR.out k hlt
   obtain ⟨y1, y2, y3⟩ := rlB_parts hyb
   have hhb := (holds_bd (b := b) (x := y) hbb.2.1 y1 y2 y3.1).2.2
   have HH := Lib.hid (fun W => holds_any b y W hbb.2.1 y1 y2 y3)
   have HT1 := Lib.hid (HT0.out k b)
   rw [<- hhe] at hh HS ⊢
   rw [<- hde] at hd HS ⊢
   rw [<- hy] at HS HT1
   obtain ⟨hb, hhb2⟩ : ∃ hb, hb = holdsN b y := ⟨_, rfl⟩
   rw [<- hhb2] at HH HS hhb
   have hk1 : (k : Int) <= 1000 := by omega
   have HC : Hid (IntKind.i64.wrap (h + hb) = h + hb /\ IntKind.i64.wrap (d + b.drive) = d + b.drive) := Lib.hid ⟨IntWalk.i64_in _ (by omega), IntWalk.i64_in _ (by omega)⟩
   have HN := Lib.hid (And.intro hn hbk)
   subst ea
   clear hhe hde hy hyb y1 y2 y3 hhb2 hge hn hbk hh hd hhb hbb
   go_upto_region 5 with fail
   have hn3 := newer_allocH w2 (.cells (bdC b) 93)
   have hw3 := Whole.made w2 93 (bdC b)
   refine genQ (fun X => newer w2 X /\ Whole X w2.heap.size 93 (bdC b)) ⟨hn3, hw3⟩ ?_
   clear hn3 hw3 d0 d1 d2 d3 d4 d5 d6 d7
   rintro w3 ⟨hn3, hw3⟩
   have z0 := hw3.at 0 (v := vi b.drive) rfl
   have z1 := hw3.at 1 (v := vi b.normal) rfl
   have z2 := hw3.at 2 (v := vi b.fr.lo) rfl
   have z3 := hw3.at 3 (v := vi b.fr.hi) rfl
   have z4 := hw3.at 4 (v := vi b.co.lo) rfl
   have z5 := hw3.at 5 (v := vi b.co.hi) rfl
   have z6 := hw3.at 6 (v := vi b.wa.lo) rfl
   have z7 := hw3.at 7 (v := vi b.wa.hi) rfl
   have HN3 := Lib.hid (newer_trans HN.out.1 hn3)
   have HT := Lib.hid (fun W (hW : newer w3 W) => HT1.out W HN.out.2 (newer_trans HN3.out hW))
   clear hn3 hw3 HT1
   refine wp_words (by kernel_rfl) (region_told_e 13 (by kernel_rfl) (by kernel_rfl) (fun W => Below w3.heap.size w3 W) newer (pickD [vIs (vi h), vIs (bdV b), vIs (.func (.func F) #[] cp), vIs (vi k), vIs (bdV b), vIs (rlV y), vIs (vi hb), vIs (vi (h + hb)), vIs (vi d), vIs (.pointer (some ⟨w2.heap.size, 0, none⟩)), vIs (vi b.drive), vIs (vi (d + b.drive)), vIs (vi (h + hb))]) (pickD_stable _ ⟨vIs_st, vIs_st, vIs_st, vIs_st, vIs_st, vIs_st, vIs_st, vIs_st, vIs_st, vIs_st, vIs_st, vIs_st, vIs_st, trivial⟩) (Below.refl _ w3).drew ?_ ?_)
   ·refine ⟨?_, ?_, ?_, ?_, ?_, ?_, ?_, ?_, ?_, ?_, ?_, ?_, ?_, trivial⟩
    ·intro a W hG hO hE hp; have h6 := hE 12 _ 6 (by decide) rfl rfl (by kernel_rfl); refine wp_yields (v := vi h) ?_ ⟨_, rfl, rfl, Below.refl _ _, hG⟩; simp [slotOf] at h6; simp [execOp, go_sem, h6]
    ·intro a W hG hO hE hp; have h9 := hO.slot 9 (by kernel_rfl); have c0 := keep_cell z0 hG; have c1 := keep_cell z1 hG; have c2 := keep_cell z2 hG; have c3 := keep_cell z3 hG; have c4 := keep_cell z4 hG; have c5 := keep_cell z5 hG; have c6 := keep_cell z6 hG; have c7 := keep_cell z7 hG; refine wp_yields (v := bdV b) ?_ ⟨_, rfl, rfl, Below.refl _ _, hG⟩; simp [slotOf] at h9; simp [execOp, go_sem, h9, c0, c1, c2, c3, c4, c5, c6, c7]
    ·intro a W hG hO hE hp; have h1 := hO.slot 1 (by kernel_rfl); refine wp_yields (v := .func (.func F) #[] cp) ?_ ⟨_, rfl, rfl, Below.refl _ _, hG⟩; simp [slotOf] at h1; simp [execOp, go_sem, h1]
    ·intro a W hG hO hE hp; have h8 := hO.slot 8 (by kernel_rfl); refine wp_yields (v := vi k) ?_ ⟨_, rfl, rfl, Below.refl _ _, hG⟩; simp [slotOf] at h8; simp [execOp, go_sem, h8]
    ·intro a W hG hO hE hp; have h9 := hO.slot 9 (by kernel_rfl); have c0 := keep_cell z0 hG; have c1 := keep_cell z1 hG; have c2 := keep_cell z2 hG; have c3 := keep_cell z3 hG; have c4 := keep_cell z4 hG; have c5 := keep_cell z5 hG; have c6 := keep_cell z6 hG; have c7 := keep_cell z7 hG; refine wp_yields (v := bdV b) ?_ ⟨_, rfl, rfl, Below.refl _ _, hG⟩; simp [slotOf] at h9; simp [execOp, go_sem, h9, c0, c1, c2, c3, c4, c5, c6, c7]
    ·intro a W hG hO hE hp
     have h19 : slotOf a 19 = .func (.func F) #[] cp := hp.1
     have h20 : slotOf a 20 = vi k := hp.2.1
     have h21 : slotOf a 21 = bdV b := hp.2.2.1
     obtain ⟨ar, har⟩ : ∃ ar, ar = #[vi k, bdV b] ++ cp := ⟨_, rfl⟩
     have hcc := HT.out W hG
     rw [<- har] at hcc
     refine wp_enters (f := F) (args := ar) ?_ (hcc.mono ?_)
     ·simp [slotOf] at h19 h20 h21
      rw [har]
      simp [execOp, go_sem, h19, h20, h21, hF]
     ·rintro e w' ⟨rfl, hb⟩
      exact ⟨_, rfl, _, rfl, rfl, hb, below_next hG hb⟩
    ·intro a W hG hO hE hp
     have h18 : slotOf a 18 = bdV b := hp.1
     have h22 : slotOf a 22 = rlV y := hp.2.1
     refine wp_enters (f := 66) (args := #[bdV b, rlV y]) ?_ ((HH.out W).mono ?_)
     ·simp [slotOf] at h18 h22
      simp [go_sem, h18, h22]
     ·rintro e w' ⟨rfl, hb⟩
      exact ⟨_, rfl, _, rfl, rfl, hb, below_next hG hb⟩
    ·intro a W hG hO hE hp; have h17 : slotOf a 17 = vi h := hp.1; have h23 : slotOf a 23 = vi hb := hp.2.1; refine wp_yields (v := vi (h + hb)) ?_ ⟨_, rfl, rfl, Below.refl _ _, hG⟩; simp [slotOf] at h17 h23; simp [execOp, go_sem, h17, h23, HC.out.1]
    ·intro a W hG hO hE hp; have h7 := hO.slot 7 (by kernel_rfl); refine wp_yields (v := vi d) ?_ ⟨_, rfl, rfl, Below.refl _ _, hG⟩; simp [slotOf] at h7; simp [execOp, go_sem, h7]
    ·intro a W hG hO hE hp; have h9 := hO.slot 9 (by kernel_rfl); refine wp_yields (v := .pointer (some ⟨w2.heap.size, 0, none⟩)) ?_ ⟨_, rfl, rfl, Below.refl _ _, hG⟩; simp [slotOf] at h9; simp [execOp, go_sem, h9]
    ·intro a W hG hO hE hp; have h26 : slotOf a 26 = .pointer (some ⟨w2.heap.size, 0, none⟩) := hp.1; have c0 := keep_cell z0 hG; refine wp_yields (v := vi b.drive) ?_ ⟨_, rfl, rfl, Below.refl _ _, hG⟩; simp [slotOf] at h26; simp [execOp, go_sem, h26, c0]
    ·intro a W hG hO hE hp; have h25 : slotOf a 25 = vi d := hp.1; have h27 : slotOf a 27 = vi b.drive := hp.2.1; refine wp_yields (v := vi (d + b.drive)) ?_ ⟨_, rfl, rfl, Below.refl _ _, hG⟩; simp [slotOf] at h25 h27; simp [execOp, go_sem, h25, h27, HC.out.2]
    ·intro a W hG hO hE hp; have h24 : slotOf a 24 = vi (h + hb) := hp.1; refine wp_yields (v := vi (h + hb)) ?_ ⟨_, rfl, rfl, Below.refl _ _, hG⟩; simp [slotOf] at h24; simp [execOp, go_sem, h24]
   ·intro wz hG
    rintro _ rfl _ rfl _ rfl _ rfl _ rfl _ rfl _ rfl _ rfl _ rfl _ rfl _ rfl _ rfl _ rfl
    change wpList _ _ _ _ _ _
    simp only [Act.put, List.setIfInBounds_toArray, List.set_cons_zero, List.set_cons_succ, List.drop_succ_cons, List.drop_zero]
    have HE := Lib.hid (newer_trans HN3.out hG)
    clear hG z0 z1 z2 z3 z4 z5 z6 z7
    go_wp2_with fail
    refine ⟨⟨k + 1, by omega, rfl, by rw [HS.out.1], by rw [HS.out.2], HE.out⟩, ?_⟩
    simp [intOf]
    omega
  ·obtain rfl : k = l.length := by omega
   rw [<- HHD.out.1] at hh ⊢
   rw [<- HHD.out.2] at hd ⊢
   by_cases hd1 : D < 1
   ·have HF : Hid (facV H D = .tuple #[vi 0, .bool false]) := Lib.hid (by unfold facV; rw [if_pos hd1])
    go_wp2_with fail
    exact bodyPost_ret (v := .tuple #[vi 0, .bool false]) (by simp [results, Try.results35, go_sem]) rfl ⟨by rw [HF.out], hn⟩
   ·have HF : Hid (facV H D = .tuple #[vi (factorN H D), .bool true]) := Lib.hid (by unfold facV; rw [if_neg hd1])
    by_cases hmn : 1000 * H / D < 10000
    ·have HFN : Hid (factorN H D = 1000 * H / D) := Lib.hid (by unfold factorN mnI; rw [if_pos hmn])
     go_wp2_with fail
     exact bodyPost_ret (v := .tuple #[vi (1000 * H / D), .bool true]) (by simp [results, Try.results35, go_sem]) rfl ⟨by rw [HF.out, HFN.out], hn⟩
    ·have HFN : Hid (factorN H D = 10000) := Lib.hid (by unfold factorN mnI; rw [if_neg hmn])
     go_wp2_with fail
     exact bodyPost_ret (v := .tuple #[vi 10000, .bool true]) (by simp [results, Try.results35, go_sem]) rfl ⟨by rw [HF.out, HFN.out], hn⟩
theorem way_lt {n : Nat} : ∀ (l : List Nat) (i b : Nat), wayB n l -> l[i]? = some b -> b < n
 | [], _, _, _, h => by simp at h
 | x :: t, 0, b, hw, h => by
  have e : x = b := by simpa using h
  exact e ▸ hw.1
 | x :: t, i + 1, b, hw, h => way_lt t i b hw.2.2 (by simpa using h)
theorem bdAt_is {s : Sm} (hs : SdOk s.sd) {k j : Nat} (hk : k < s.cs.length) (hj : j < s.sd.n) : ∃ x, s.cs[k]? = some x /\ x.beds[j]? = some (bdAt s.sd.cols k j) /\ x.beds.length = s.sd.n /\ bdB (bdAt s.sd.cols k j) = true := by
 obtain ⟨x, b, h1, h2, h3, h4, h5⟩ := sm_bed hs hk hj
 have e : bdAt s.sd.cols k j = b := by unfold bdAt; rw [h4]; rfl
 rw [e]
 exact ⟨x, h1, h2, h3, h5⟩
theorem bedsL_ok {s : Sm} (hs : SdOk s.sd) {k : Nat} {l : List Nat} (hw : wayB s.sd.n l) (hk : k + l.length <= s.cs.length) : ∀ b ∈ bedsL s.sd.cols k l, bdB b = true := by
 intro b hb
 obtain ⟨i, hi⟩ := List.mem_iff_getElem?.1 hb
 have hil := (List.getElem?_eq_some_iff.1 hi).1
 rw [bedsL_len] at hil
 obtain ⟨x, hx⟩ := get_of_lt hil
 rw [bedsL_get _ _ _ _ _ hx] at hi
 obtain ⟨y, _, _, _, h⟩ := bdAt_is hs (k := k + i) (j := x) (by omega) (way_lt l i x hw hx)
 injection hi with hi
 rw [<- hi]
 exact h
set_option maxRecDepth 100000 in
set_option maxHeartbeats 1000000 in
theorem bedsU_any (s : Sm) (u : Su) (k0 : Nat) (l : List Nat) (w : World) (hok : SmOk s w) (hs : SdOk s.sd) (hu : SuOk u w) (hf : u.frm = k0) (hl : u.beds = l.map fun x : Nat => (x : Int)) (hsf : SurfB s.sd.n s.cs.length s.sd.K k0 l) :
  Calls Try.prog 33 #[smV s, suV u] w fun e w' => ∃ A c, e = .returned (.slice A l.length c) /\ w'.ownsRow w.heap.size 93 8 (.slice A l.length c) l.length ((bedsL s.sd.cols k0 l).flatMap bdL) /\ newer w w' := by
 have hcl : s.cs.length <= 12 := by have h1 := hs.cols; rw [sd_len] at h1; omega
 have hul : u.beds.length = l.length := by rw [hl]; simp
 have hll : 1 <= l.length := by have h1 := hsf.1; have h2 := (hd_ok hs false).K0; omega
 obtain ⟨y0, hy0⟩ := get_of_lt (l := s.cs) (k := 0) (by have := hsf.2.1; omega)
 obtain ⟨b1, o1, ea, _, _⟩ := rowC hok.cs hy0
 obtain ⟨b2, o2, eu, _⟩ := row1k hu (k := 0) (by omega)
 have hnw : newer w ((w.alloc (.cells (smC s) 46)).alloc (.cells (suC u) 40)) := newer_trans (newer_allocH _ _) (newer_allocH _ _)
 have hxb := (Whole.made w 46 (smC s)).alloc (.cells (suC u) 40)
 have hub := Whole.made (w.alloc (.cells (smC s) 46)) 40 (suC u)
 rw [World.size_alloc] at hub
 have H0 := Lib.hid (And.intro hnw (And.intro hxb hub))
 have u1 := hub.at 1 (v := .slice u.a u.beds.length u.c) rfl
 rw [eu, hul] at u1
 have HEA := Lib.hid (And.intro ea eu)
 have HOK := Lib.hid hok
 have HU := Lib.hid hu
 have HSD := Lib.hid hs
 have HSF := Lib.hid (And.intro hsf (And.intro hf (And.intro hl hul)))
 have hkl : k0 + l.length <= s.cs.length := hsf.2.1
 obtain ⟨i0, hi0, hz0, hz1, hz2⟩ := info_parts info_bd
 have HI := Lib.hid (And.intro hi0 (And.intro hz0 (And.intro hz1 hz2)))
 clear hok hs hu hsf hf hl hul hnw hxb hub ea eu hy0 hi0 hz0 hz1 hz2
 go_enter Try.func33, Try.ntmps33
 go_wp2_with fail
 go_loopw [4, 10] (fun s4 s10 wr => ∃ (k : Nat) (A : Option Addr) (c : Nat), s10 = vi k /\ k <= l.length /\ s4 = .slice A k c /\ wr.ownsRow w.heap.size 93 8 (.slice A k c) k (((bedsL s.sd.cols k0 l).take k).flatMap bdL) /\ newer w wr /\ Whole wr w.heap.size 46 (smC s) /\ Whole wr (w.heap.size + 1) 40 (suC u)) (fun _ s10 _ => l.length - (intOf s10).toNat)
 case atStart => exact ⟨0, none, 0, rfl, Nat.zero_le _, rfl, ⟨rfl, .inl ⟨rfl, rfl⟩⟩, H0.out.1, H0.out.2.1, H0.out.2.2⟩
 case round =>
  obtain ⟨k, A, c, rfl, hk, rfl, hown, hn, hx, hu2⟩ := hrel
  clear u1 H0
  have HJ := Lib.hid (And.intro hown (And.intro hn (And.intro hx hu2)))
  by_cases hlt : k < l.length
  ·obtain ⟨b, hb⟩ := get_of_lt hlt
   have hbn := way_lt l k b HSF.out.1.2.2 hb
   obtain ⟨kk, hkk0⟩ : ∃ kk, kk = k0 + k := ⟨_, rfl⟩
   obtain ⟨x, hx1, hx2, hx3, _⟩ := bdAt_is HSD.out (k := kk) (j := b) (by omega) hbn
   obtain ⟨bd, hbd⟩ : ∃ bd, bd = bdAt s.sd.cols kk b := ⟨_, rfl⟩
   rw [<- hbd] at hx2
   have HG := Lib.hid (show (bedsL s.sd.cols k0 l)[k]? = some bd by rw [hbd, hkk0]; exact bedsL_get _ l k0 k b hb)
   obtain ⟨b3, o3, e3, _, cx⟩ := rowC (HOK.out.next hn).cs hx1
   rw [HEA.out.1] at e3
   obtain ⟨rfl, rfl⟩ : b1 = b3 /\ o1 = o3 := by simpa using e3
   obtain ⟨b4, o4, e4, _, d0, d1, d2, d3, d4, d5, d6, d7⟩ := row8 ((HOK.out.next hn).bd x (List.mem_of_getElem? hx1)) hx2
   rw [e4] at cx
   obtain ⟨b5, o5, e5, p0⟩ := row1k (HU.out.next hn) (k := k) (by rw [HSF.out.2.2.2]; exact hlt)
   rw [HEA.out.2] at e5
   obtain ⟨rfl, rfl⟩ : b2 = b5 /\ o2 = o5 := by simpa using e5
   have ep : iAt u.beds k = (b : Int) := by rw [HSF.out.2.2.1]; simp [iAt, hb]
   rw [ep] at p0
   have x0 := hx.at 0 (v := .slice s.a s.cs.length s.c) rfl
   rw [HEA.out.1] at x0
   have u0 := hu2.at 0 (v := vi u.frm) rfl
   rw [HSF.out.2.1] at u0
   have hkk : ((k0 : Int) + k) = (kk : Int) := by omega
   have hkc : (kk : Int) < s.cs.length := by omega
   have hbx : (b : Int) < x.beds.length := by omega
   have hk12 : k <= 12 := by omega
   have hk012 : k0 <= 12 := by omega
   have hn1 := newer_allocH wr (.cells (bdC bd) 93)
   have HO := Lib.hid (own_below hown hn1)
   have HNW : Hid (newer w (wr.alloc (.cells (bdC bd) 93))) := Lib.hid (newer_trans hn hn1)
   have HJ2 := Lib.hid (And.intro (hx.below hn1 hx.lt) (hu2.below hn1 hu2.lt))
   have HWN := Lib.hid (World.news_of_block (Whole.made wr 93 (bdC bd)))
   clear hkk0 hown hn hx hu2 hn1 hx1 hx2 hx3 hbd e3 e4 e5 ep hbn hb HJ
   go_wp2_with (at_builtin; go_loud ((refine wpList_append_lies _ rfl (.tmp 15) (.tmp 27) 96 rfl w.heap.size 93 i0 (.agg #[vi 0, vi 0, vi 0, vi 0, vi 0, vi 0, vi 0, vi 0]) 8 64 Try.underlying96 HI.out.1 HI.out.2.1 HI.out.2.2.1 HI.out.2.2.2 rfl (by omega) _ k _ rfl HO.out ⟨wr.heap.size, 0, none⟩ 1 1 (bdL bd) rfl rfl HWN.out (by simp [Value.oneCell']) (by omega) (by unfold maxLen; omega) (by omega) HNW.out.size (wr.alloc (.cells (bdC bd) 93)).heap.size rfl ?_); intro gg cp2 w2 hown2 hgrow2 hat2 hlt2; rw [<- take_flat bdL _ k bd HG.out] at hown2; have HE := Lib.hid (And.intro hown2 (And.intro hgrow2 (own_ge HO.out))); clear hown2 hgrow2 hat2 hlt2))
   refine ⟨⟨k + 1, some ⟨gg, 0, none⟩, cp2, rfl, by omega, rfl, HE.out.1, ?_, ?_, ?_⟩, ?_⟩
   ·exact below_grown (grown_trans' (grown_of_newer HNW.out _) HE.out.2.1) HE.out.2.2 (Nat.le_refl _)
   ·exact HJ2.out.1.grown HE.out.2.1 (fun e => own_ne HO.out HJ2.out.1 (by decide) e.symm)
   ·exact HJ2.out.2.grown HE.out.2.1 (fun e => own_ne HO.out HJ2.out.2 (by decide) e.symm)
   ·simp [intOf]
    omega
  ·obtain rfl : k = l.length := by omega
   have HE := Lib.hid (show wr.ownsRow w.heap.size 93 8 (.slice A l.length c) l.length ((bedsL s.sd.cols k0 l).flatMap bdL) by
    have h1 := HJ.out.1
    rw [List.take_of_length_le (by rw [bedsL_len]; omega)] at h1
    exact h1)
   go_wp2_with fail
   go_ret
   exact ⟨A, c, rfl, HE.out, hn⟩
end

section
open Go.RowKit Go.Shelf Go.Deep
theorem way_get {n : Nat} : ∀ (l : List Nat) (i b c : Nat), wayB n l -> l[i]? = some b -> l[i + 1]? = some c -> b <= c + 1 /\ c <= b + 1
 | [], _, _, _, _, h, _ => by simp at h
 | x :: t, 0, b, c, hw, h, h2 => by
  have e : x = b := by simpa using h
  have h3 : t[0]? = some c := by simpa using h2
  exact e ▸ hw.2.1 c (by rw [List.head?_eq_getElem?]; exact h3)
 | x :: t, i + 1, b, c, hw, h, h2 => way_get t i b c hw.2.2 (by simpa using h) (by simpa using h2)
theorem way_of {n : Nat} : ∀ (l : List Nat), (∀ (i b : Nat), l[i]? = some b -> b < n) -> (∀ (i b c : Nat), l[i]? = some b -> l[i + 1]? = some c -> b <= c + 1 /\ c <= b + 1) -> wayB n l
 | [], _, _ => trivial
 | x :: t, h1, h2 => ⟨h1 0 x rfl, fun c hc => h2 0 x c rfl (by rw [List.head?_eq_getElem?] at hc; simpa using hc), way_of t (fun i b h => h1 (i + 1) b (by simpa using h)) (fun i b c hb hc => h2 (i + 1) b c (by simpa using hb) (by simpa using hc))⟩
theorem natL_of {l : List Int} (h : ∀ i, i < l.length -> 0 <= iAt l i) : (l.map Int.toNat).map (fun x : Nat => (x : Int)) = l := by
 rw [List.map_map]
 refine (List.map_congr_left fun x hx => ?_).trans (List.map_id l)
 obtain ⟨i, hi⟩ := List.mem_iff_getElem?.1 hx
 have h1 := h i (List.getElem?_eq_some_iff.1 hi).1
 rw [iAt_of hi] at h1
 show ((x.toNat : Nat) : Int) = x
 omega
theorem goodB_iff {n : Nat} {p : Nat -> Bool} : goodB n p = true ↔ ∀ j, j < n -> p j = true := by
 unfold goodB
 rw [List.all_eq_true]
 exact ⟨fun h j hj => h j (List.mem_range.2 hj), fun h x hx => h x (List.mem_range.1 hx)⟩
theorem surfB_nat {s : Sd} (hs : SdOk s) {k : Nat} {l : List Nat} : surfB s k (l.map fun x : Nat => (x : Int)) = true ↔ SurfB s.n s.cols.length s.K k l := by
 have hK : (s.K : Int) = s.least := by have := hs.least; unfold Sd.K; omega
 have hg : ∀ i, i < l.length -> iAt (l.map fun x : Nat => (x : Int)) i = ((l.getD i 0 : Nat) : Int) := fun i hi => by
  obtain ⟨b, hb⟩ := get_of_lt hi
  simp [iAt, hb, List.getD]
 unfold surfB SurfB
 rw [List.length_map, Bool.and_eq_true, Bool.and_eq_true, Bool.and_eq_true, decide_eq_true_eq, decide_eq_true_eq, decide_eq_true_eq, goodB_iff]
 have hn := hs.beds
 constructor
 ·rintro ⟨⟨⟨_, h2⟩, h3⟩, h4⟩
  have h5 : ∀ (i b : Nat), l[i]? = some b -> b < s.n := fun i b hb => by
   have hi := (List.getElem?_eq_some_iff.1 hb).1
   have h6 := h4 i hi
   unfold okB at h6
   rw [Bool.and_eq_true, hg i hi] at h6
   have h7 := h6.1
   simp only [inB, Bool.and_eq_true, decide_eq_true_eq, List.getD, hb, Option.getD_some] at h7
   omega
  refine ⟨by omega, by omega, way_of l h5 fun i b c hb hc => ?_⟩
  have hi := (List.getElem?_eq_some_iff.1 hc).1
  have h6 := h4 (i + 1) hi
  unfold okB at h6
  rw [Bool.and_eq_true, hg (i + 1) hi, show i + 1 - 1 = i by omega, hg i (by omega)] at h6
  have h7 := h6.2
  simp only [inB, Bool.or_eq_true, Bool.and_eq_true, decide_eq_true_eq, List.getD, hb, hc, Option.getD_some] at h7
  omega
 ·rintro ⟨h1, h2, h3⟩
  refine ⟨⟨⟨by omega, by omega⟩, by omega⟩, fun i hi => ?_⟩
  obtain ⟨b, hb⟩ := get_of_lt hi
  have hbn := way_lt l i b h3 hb
  unfold okB
  rw [Bool.and_eq_true, hg i hi]
  refine ⟨by simp only [inB, Bool.and_eq_true, decide_eq_true_eq, List.getD, hb, Option.getD_some]; omega, ?_⟩
  by_cases h0 : i = 0
  ·simp [h0]
  ·rw [hg (i - 1) (by omega)]
   obtain ⟨c, hc⟩ := get_of_lt (l := l) (k := i - 1) (by omega)
   have h4 := way_get l (i - 1) c b h3 hc (by rw [show i - 1 + 1 = i by omega]; exact hb)
   simp only [inB, Bool.or_eq_true, Bool.and_eq_true, decide_eq_true_eq, List.getD, hb, hc, Option.getD_some]
   omega
theorem surfB_parts {s : Sd} (hs : SdOk s) {frm : Int} {l : List Int} (h : surfB s frm l = true) : frm = (frm.toNat : Nat) /\ l = (l.map Int.toNat).map (fun x : Nat => (x : Int)) /\ SurfB s.n s.cols.length s.K frm.toNat (l.map Int.toNat) := by
 have h0 := h
 unfold surfB at h0
 rw [Bool.and_eq_true, Bool.and_eq_true, Bool.and_eq_true, decide_eq_true_eq, decide_eq_true_eq, decide_eq_true_eq, goodB_iff] at h0
 have e1 : frm = (frm.toNat : Nat) := by omega
 have e2 : l = (l.map Int.toNat).map (fun x : Nat => (x : Int)) := (natL_of fun i hi => by
  have h6 := h0.2 i hi
  unfold okB at h6
  rw [Bool.and_eq_true] at h6
  have h7 := h6.1
  simp only [inB, Bool.and_eq_true, decide_eq_true_eq] at h7
  exact h7.1).symm
 refine ⟨e1, e2, (surfB_nat hs).1 ?_⟩
 rw [<- e1, <- e2]
 exact h
def bedsU (s : Sd) (frm : Int) (l : List Int) : List Bd := bedsL s.cols frm.toNat (l.map Int.toNat)
def facE (bs : List Bd) (hi : Bool) : Int := factorN (hK bs (fun i => endR hi (bs.getD i zeroBd)) bs.length) (dK bs bs.length)
theorem checkU_zero {s : Sd} {frm : Int} {l : List Int} (h : checkUN s frm l = 0) : SdOk s /\ surfB s frm l = true := by
 unfold checkUN at h
 cases hv : slopeB s with
 | false => rw [hv] at h; simp at h
 | true =>
  rw [hv] at h
  cases hf : surfB s frm l with
  | false => rw [hf] at h; simp at h
  | true => exact ⟨sdOk_iff.1 hv, rfl⟩
theorem end_rlB {b : Bd} (h : bdB b = true) (hi : Bool) : rlB (endR hi b) = true := by
 obtain ⟨_, _, h3, h4, h5⟩ := bdB_parts h
 cases hi <;> simp [rlB, inB, endR] <;> omega
end

section
open Go.RowKit Go.Shelf Go.Deep
set_option maxRecDepth 100000 in
set_option maxHeartbeats 1000000 in
theorem lawList (l : List Int) (A : Option Addr) (cp : Nat) (w : World) (hl : l.length <= 1000) (hr : Row intL 1 w w.heap.size A l) : Calls Try.prog 37 #[.slice A l.length cp] w (copiedC w l) := by
 have HR := Lib.hid (row_alloc hr (.cells #[] 3))
 obtain ⟨i0, hi0, hz0, hz1, hz2⟩ := info_parts info_int
 have HI := Lib.hid (And.intro hi0 (And.intro hz0 (And.intro hz1 hz2)))
 clear hr hi0 hz0 hz1 hz2
 go_enter Try.func37, Try.ntmps37
 go_wp2_with (at_builtin; go_loud ((refine wpList_plain rfl fun K hK => wp_append_copy (enc := intL) (size := 1) (.tmp 3) (.tmp 4) 26 3 i0 (.int .i64 0) 8 Try.underlying26 HI.out.1 HI.out.2.1 HI.out.2.2.1 HI.out.2.2.2 rfl (by omega) (by omega) (fun _ => rfl) rfl w.heap.size rfl l A cp rfl hl HR.out fun B c w' hB hb hc hge => hK _ _ ?_); have HB := Lib.hid (And.intro hB (And.intro ((((Below.refl w.heap.size w).alloc (Nat.le_refl _) (.cells #[] 3))).trans (hb.mono (by simp))) (And.intro (show w.heap.size <= B.block by simp at hge; omega) hc))); clear hB hb hge hc))
 go_ret
 exact ⟨_, _, rfl, HB.out.2.2.2, HB.out.1, HB.out.2.1, fun a e => by cases e; exact HB.out.2.2.1⟩
set_option maxHeartbeats 1000000 in
theorem to_any (r : Rg) (w : World) : Calls Try.prog 26 #[rgV r] w fun e w' => e = .returned (rgV r) /\ newer w w' := by
 have hnw : newer w ((w.alloc (.cells #[vi r.lo, vi r.hi] 81)).alloc (.cells #[vi r.lo, vi r.hi] 91)) := newer_trans (newer_allocH _ _) (newer_allocH _ _)
 have hxb := (Whole.made w 81 #[vi r.lo, vi r.hi]).alloc (.cells #[vi 0, vi 0] 91)
 have hrb := Whole.made (w.alloc (.cells #[vi r.lo, vi r.hi] 81)) 91 #[vi r.lo, vi r.hi]
 rw [World.size_alloc] at hrb
 have H0 := Lib.hid (And.intro hnw hrb)
 have x0 := hxb.at 0 (v := vi r.lo) rfl
 have x1 := hxb.at 1 (v := vi r.hi) rfl
 clear hnw hxb hrb
 go_enter Try.func26, Try.ntmps26
 go_wp2_with fail
 have z0 := H0.out.2.at 0 (v := vi r.lo) rfl
 have z1 := H0.out.2.at 1 (v := vi r.hi) rfl
 exact bodyPost_ret (v := .agg #[vi r.lo, vi r.hi]) (by simp [results, Try.results26, go_sem, z0, z1]) rfl ⟨rfl, H0.out.1⟩
end

end Go.Proofs.Ytcdhhfgpdokkoaa
