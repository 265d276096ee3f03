/- SlopeProofs returns true: whether there is a table for any factor, and what any table proves, are as the document says: handed in, or the program's with a number changed. -/
import Derived.Test.YtkenokpobbichaaZP09
namespace Go.Proofs.Ytkenokpobbichaa
section
open Go.ChangeShapes Go.WideShapes Go.ChangeAt Go.RowKit Go.Deep
section
open Go.RowKit Go.Shelf Go.Deep
theorem prov_is {s : Sm} {f : Int} (h : askedN s.sd f = 0) (D : List (List (List Int))) : provO s.sd f D = (shT s.sd.n s.cs.length s.least D && provB s.sd f D) := by
 unfold provO
 rw [decide_eq_true h, Bool.true_and, sd_len]
 rfl
def vTab (D : List (List (List Int))) (v : Value) (W : World) : Prop := ∃ (ts : List Rw) (A : Option Addr) (c : Nat), v = .slice A ts.length c /\ TbOk ts A W /\ TbFew ts /\ ts.map Rw.d = D
theorem vTab_st {D : List (List (List Int))} : ∀ v W W', vTab D v W -> newer W W' -> vTab D v W' := fun _ _ _ ⟨ts, A, c, h1, h2, h3, h4⟩ hb => ⟨ts, A, c, h1, h2.next hb, h3, h4⟩
def vAll (s : Sm) (v : Value) (W : World) : Prop := ∃ (us : List Su) (A : Option Addr) (c : Nat), v = .slice A us.length c /\ AllIn s us A W
theorem vAll_st {s : Sm} : ∀ v W W', vAll s v W -> newer W W' -> vAll s v W' := fun _ _ _ ⟨us, A, c, h1, h2⟩ hb => ⟨us, A, c, h1, h2.next hb⟩
theorem tab_few {ts : List Rw} {r k : Nat} {x : Rw} {y : Ln} (h : TbFew ts) (hx : ts[r]? = some x) (hy : x.ls[k]? = some y) (b : Nat) (u : Int) : TbFew (ts.set r ⟨x.ls.set k ⟨y.l.set b u, y.a, y.c⟩, x.a, x.c⟩) := by
 have hmx := List.mem_of_getElem? hx
 refine ⟨by rw [List.length_set]; exact h.rows, fun z hz => ?_, fun z hz t ht => ?_⟩
 ·obtain ⟨p, hp⟩ := List.mem_iff_getElem?.1 hz
  rcases get_set hp with ⟨_, e2⟩ | ⟨_, e2⟩
  ·subst e2
   show (x.ls.set k _).length <= 1000
   rw [List.length_set]
   exact h.lss x hmx
  ·exact h.lss z (List.mem_of_getElem? e2)
 ·obtain ⟨p, hp⟩ := List.mem_iff_getElem?.1 hz
  rcases get_set hp with ⟨_, e2⟩ | ⟨_, e2⟩
  ·subst e2
   obtain ⟨i, hi⟩ := List.mem_iff_getElem?.1 ht
   rcases get_set hi with ⟨_, e3⟩ | ⟨_, e3⟩
   ·subst e3
    show (y.l.set b u).length <= 1000
    rw [List.length_set]
    exact h.nums x hmx y (List.mem_of_getElem? hy)
   ·exact h.nums x hmx t (List.mem_of_getElem? e3)
  ·exact h.nums z (List.mem_of_getElem? e2) t ht
theorem TbOwn.poke {B : Nat} {ts : List Rw} {A : Option Addr} {c : Nat} {W : World} (h : TbOwn B ts A c W) {r k b : Nat} {x : Rw} {y : Ln} {v : Int} (hx : ts[r]? = some x) (hy : x.ls[k]? = some y) (hv : y.l[b]? = some v) :
  ∃ gt gx gy, A = some ⟨gt, 0, none⟩ /\ x.a = some ⟨gx, 0, none⟩ /\ y.a = some ⟨gy, 0, none⟩ /\ B <= gy /\ W.cell? ⟨gt, r, none⟩ = some (.slice x.a x.ls.length x.c) /\ W.cell? ⟨gx, k, none⟩ = some (.slice y.a y.l.length y.c) /\ W.cell? ⟨gy, b, none⟩ = some (vi v) /\ W.frozen? ⟨gy, b, none⟩ = false /\
   ∀ u, TbOwn B (ts.set r ⟨x.ls.set k ⟨y.l.set b u, y.a, y.c⟩, x.a, x.c⟩) A c (W.setCell ⟨gy, b, none⟩ (vi u)) := by
 have hmx := List.mem_of_getElem? hx
 have hmy := List.mem_of_getElem? hy
 have hxo := h.rows x hmx
 have hyo := h.ls x hmx y hmy
 have hto := h.ok
 obtain ⟨p0, o0, e0, c0⟩ := rwAll hto.rows (ne_nil_of_get hx)
 obtain ⟨p1, o1, e1, c1⟩ := lnAll (hto.lss x hmx) (ne_nil_of_get hy)
 obtain ⟨p2, o2, e2, c2⟩ := inAll (hto.nums x hmx y hmy) (ne_nil_of_get hv)
 have z0 : o0 = 0 := by
  rcases own_at h.own with e | ⟨g, e⟩
  ·rw [e0] at e; cases e
  ·rw [e0] at e; injection e with e; injection e
 have z1 : o1 = 0 := by
  rcases own_at hxo with e | ⟨g, e⟩
  ·rw [e1] at e; cases e
  ·rw [e1] at e; injection e with e; injection e
 have z2 : o2 = 0 := by
  rcases own_at hyo with e | ⟨g, e⟩
  ·rw [e2] at e; cases e
  ·rw [e2] at e; injection e with e; injection e
 subst z0 z1 z2
 have d0 := c0 r x hx W (newer_refl W)
 have d1 := c1 k y hy W (newer_refl W)
 have d2 := c2 b v hv W (newer_refl W)
 rw [Nat.zero_add] at d0 d1 d2
 have hge : B <= p2 := (own_old hyo e2).1
 have hyo2 := hyo
 rw [e2] at hyo2
 obtain ⟨cs, hcs⟩ := own_cells hyo2
 refine ⟨p0, p1, p2, e0, e1, e2, hge, d0, d1, d2, hcs.free b, fun u => ?_⟩
 have hrl := (List.getElem?_eq_some_iff.1 hx).1
 have hrw : (ts.set r ⟨x.ls.set k ⟨y.l.set b u, y.a, y.c⟩, x.a, x.c⟩).flatMap rwL = ts.flatMap rwL := by
  rw [List.flatMap_def, List.flatMap_def, List.map_set]
  congr 1
  refine List.ext_getElem? fun q => ?_
  rw [List.getElem?_set]
  by_cases hq : r = q
  ·subst hq
   rw [if_pos rfl, List.length_map, if_pos hrl, List.getElem?_map, hx]
   simp [rwL]
  ·rw [if_neg hq]
 have hlw : (x.ls.set k ⟨y.l.set b u, y.a, y.c⟩).flatMap lnL = x.ls.flatMap lnL := by
  rw [flat_lnL, flat_lnL, List.map_set]
  refine List.ext_getElem? fun q => ?_
  rw [List.getElem?_set]
  by_cases hq : k = q
  ·subst hq
   rw [if_pos rfl, List.length_map, if_pos (List.getElem?_eq_some_iff.1 hy).1, List.getElem?_map, hy]
   simp [lnV]
  ·rw [if_neg hq]
 have key : ∀ (z : Option Addr) (m d : Nat) (e : TypeId) (xs : List Value), W.ownsRow B e 1 (.slice z m d) m xs -> e ≠ 3 -> (W.setCell ⟨p2, b, none⟩ (vi u)).ownsRow B e 1 (.slice z m d) m xs := fun z m d e xs ho hne => own_setFar ho (own_apart ho hyo hne) e2 _
 have hlist : ∀ (p i : Nat) (t : Rw) (z : Ln), (ts.set r ⟨x.ls.set k ⟨y.l.set b u, y.a, y.c⟩, x.a, x.c⟩)[p]? = some t -> t.ls[i]? = some z -> (p = r /\ i = k /\ z = ⟨y.l.set b u, y.a, y.c⟩) ∨ ((p ≠ r ∨ i ≠ k) /\ ∃ t0, ts[p]? = some t0 /\ t0.ls[i]? = some z) := fun p i t z hp hi => by
  rcases get_set hp with ⟨e1, e2⟩ | ⟨e1, e2⟩
  ·subst e1
   rw [e2] at hi
   rcases get_set hi with ⟨e3, e4⟩ | ⟨e3, e4⟩
   ·exact .inl ⟨rfl, e3, e4⟩
   ·exact .inr ⟨.inr e3, x, hx, e4⟩
  ·exact .inr ⟨.inl e1, t, e2, hi⟩
 refine ⟨?_, fun z hz => ?_, fun z hz t ht => ?_, fun p q i j s t z z' hp hq hi hj hne e => ?_⟩
 ·rw [hrw, List.length_set]
  exact key _ _ _ _ _ h.own (by decide)
 ·obtain ⟨p, hp⟩ := List.mem_iff_getElem?.1 hz
  rcases get_set hp with ⟨_, e4⟩ | ⟨_, e4⟩
  ·subst e4
   show (W.setCell ⟨p2, b, none⟩ (vi u)).ownsRow B 25 1 (.slice x.a (x.ls.set k ⟨y.l.set b u, y.a, y.c⟩).length x.c) (x.ls.set k ⟨y.l.set b u, y.a, y.c⟩).length ((x.ls.set k ⟨y.l.set b u, y.a, y.c⟩).flatMap lnL)
   rw [hlw, List.length_set]
   exact key _ _ _ _ _ hxo (by decide)
  ·exact key _ _ _ _ _ (h.rows z (List.mem_of_getElem? e4)) (by decide)
 ·obtain ⟨p, hp⟩ := List.mem_iff_getElem?.1 hz
  obtain ⟨i, hi⟩ := List.mem_iff_getElem?.1 ht
  rcases hlist p i z t hp hi with ⟨_, _, e4⟩ | ⟨e4, t0, e5, e6⟩
  ·subst e4
   show (W.setCell ⟨p2, b, none⟩ (vi u)).ownsRow B 3 1 (.slice y.a (y.l.set b u).length y.c) (y.l.set b u).length ((y.l.set b u).flatMap intL)
   rw [List.length_set, ints_flat, List.map_set, <- ints_flat, e2]
   exact own_setAt hyo2
  ·have h5 := h.ls t0 (List.mem_of_getElem? e5) t (List.mem_of_getElem? e6)
   exact own_setFar h5 (own_far h5 hyo fun e => h.ap p r i k t0 x t y e5 hx e6 hy e4 e) e2 _
 ·rcases hlist p i s z hp hi with ⟨a1, a2, a3⟩ | ⟨a1, t0, a2, a3⟩ <;> rcases hlist q j t z' hq hj with ⟨b1, b2, b3⟩ | ⟨b1, t1, b2, b3⟩
  ·omega
  ·subst a3
   exact absurd (h.ap q r j k t1 x z' y b2 hx b3 hy b1 e.symm) (by rw [<- e]; show y.a ≠ none; rw [e2]; simp)
  ·subst b3
   exact h.ap p r i k t0 x z y a2 hx a3 hy a1 e
  ·exact h.ap p q i j t0 t1 z z' a2 b2 a3 b3 hne e
theorem rem_natP (a m : Nat) : (a : Int).tmod m = (a % m : Nat) := by
 rw [Int.tmod_eq_emod_of_nonneg (by omega)]
 exact (Int.natCast_emod _ _).symm
theorem tab_get {s : Sm} {f : Int} (hp : provO s.sd f (tabD s.sd f) = true) {us : List Rw} (hu : us.map Rw.d = tabD s.sd f) {r k b : Nat} (hr : r < s.sd.K) (hk : k < s.cs.length) (hb : b < s.sd.n) :
  ∃ (x : Rw) (y : Ln) (v : Int), us[r]? = some x /\ x.ls[k]? = some y /\ y.l[b]? = some v /\ us.length = s.sd.K /\ x.ls.length = s.cs.length /\ y.l.length = s.sd.n /\ -1000000000000000 <= v /\ v <= 1000000000000000 := by
 have hsh : shT s.sd.n s.cs.length s.least (us.map Rw.d) = true := by
  unfold provO at hp
  simp only [Bool.and_eq_true] at hp
  rw [hu, <- sd_len]
  exact hp.2.1
 have hl := (tb_shape hsh).1
 have hK : us.length = s.sd.K := by
  have e5 : s.sd.least = s.least := rfl
  have e6 : s.sd.K = s.sd.least.toNat := rfl
  rw [e5] at e6
  omega
 obtain ⟨x, y, g1, g2, g3, g4, g5, g6⟩ := tb_at hsh (show r < us.length by omega) hk
 obtain ⟨v, hv⟩ := get_of_lt (l := y.l) (k := b) (by omega)
 have h7 := g5 b hb
 rw [iAt_of hv] at h7
 exact ⟨x, y, v, g1, g2, hv, hK, g3, g4, h7.1, h7.2⟩
set_option maxRecDepth 100000 in
set_option maxHeartbeats 4000000 in
theorem slopeProofs_walk (s : Sm) (f : Int) (ts : List Rw) (A : Option Addr) (cA : Nat) (ow : Bool) (a4 a5 a6 by_ : Int) (w : World) (h40 : 0 <= a4) (h41 : a4 <= 255) (h50 : 0 <= a5) (h51 : a5 <= 255) (h60 : 0 <= a6) (h61 : a6 <= 255) (h70 : -128 <= by_) (h71 : by_ <= 127) (hok : SmOk s w) (htb : TbOk ts A w) : Calls Try.prog 13 #[smV s, vi f, .slice A ts.length cA, .bool ow, .int .u8 a4, .int .u8 a5, .int .u8 a6, .int .i8 by_] w fun e w' => e = .returned (.bool true) /\ newer w w' := by
 have hnw := newer_allocH w (.cells (smC s) 24)
 have hxb := Whole.made w 24 (smC s)
 have H1 := Lib.hid (And.intro (hnw) (hxb))
 clear hnw hxb
 have HOK := Lib.hid (And.intro hok htb)
 have HTH := Lib.hid (lawThin s _ (hok.next H1.out.1))
 obtain ⟨n4, rfl⟩ : ∃ n : Nat, a4 = n := ⟨a4.toNat, by omega⟩
 obtain ⟨n5, rfl⟩ : ∃ n : Nat, a5 = n := ⟨a5.toNat, by omega⟩
 obtain ⟨n6, rfl⟩ : ∃ n : Nat, a6 = n := ⟨a6.toNat, by omega⟩
 have HBY := Lib.hid (And.intro h70 h71)
 clear hok htb h70 h71
 have x0 := H1.out.2.at 0 (v := .slice s.a s.cs.length s.c) rfl
 have x1 := H1.out.2.at 1 (v := vi s.least) rfl
 cases hth : thinS s.sd with
 | false =>
  rw [hth] at HTH
  clear hth
  go_enter Try.func13, Try.ntmps13
  go_wp2_with fail
  refine (HTH.out).mono ?_
  rintro e w2 ⟨rfl, hb⟩
  have H3 := Lib.hid (And.intro ((newer_trans H1.out.1 hb)) ((H1.out.2.below hb H1.out.2.lt)))
  clear hb HTH H1 x0 x1
  go_wp2_with fail
  refine (wakes_any _).mono ?_
  rintro e w4 ⟨rfl, hb⟩
  have H5 := Lib.hid (And.intro ((newer_trans H3.out.1 hb)) ((H3.out.2.below hb H3.out.2.lt)))
  clear hb H3
  go_wp2_with fail
  go_ret
  exact ⟨rfl, H5.out.1⟩
 | true =>
  rw [hth] at HTH
  obtain ⟨few, hc15, hb8⟩ := thinS_few hth
  have HFW := Lib.hid few
  clear hth few hc15 hb8
  go_enter Try.func13, Try.ntmps13
  by_cases h5 : ts.length <= 5
  case neg =>
   have h5I : ¬ ((ts.length : Int) <= 5) := by omega
   have h5J : (5 : Int) < ts.length := by omega
   go_wp2_with fail
   refine (HTH.out).mono ?_
   rintro e w6 ⟨rfl, hb⟩
   have H7 := Lib.hid (And.intro ((newer_trans H1.out.1 hb)) ((H1.out.2.below hb H1.out.2.lt)))
   clear hb HTH H1 x0 x1
   go_wp2_with fail
   refine (wakes_any _).mono ?_
   rintro e w8 ⟨rfl, hb⟩
   have H9 := Lib.hid (And.intro ((newer_trans H7.out.1 hb)) ((H7.out.2.below hb H7.out.2.lt)))
   clear hb H7
   go_wp2_with fail
   go_ret
   exact ⟨rfl, H9.out.1⟩
  case pos =>
   have h5I : (ts.length : Int) <= 5 := by omega
   have h5J : ¬ ((5 : Int) < ts.length) := by omega
   go_wp2_with fail
   refine (HTH.out).mono ?_
   rintro e w10 ⟨rfl, hb⟩
   have H11 := Lib.hid (And.intro ((newer_trans H1.out.1 hb)) ((H1.out.2.below hb H1.out.2.lt)))
   clear hb HTH H1 x0 x1
   go_wp2_with fail
   have HTK := Lib.hid (HOK.out.2.next H11.out.1)
   go_loopw [17] (fun s9 wr => ∃ n : Nat, s9 = vi n /\ n <= ts.length /\ (∀ (i : Nat) (x : Rw), i < n -> ts[i]? = some x -> x.ls.length <= 15 /\ ∀ y ∈ x.ls, y.l.length <= 8) /\ w10 = wr) (fun s9 _ => ts.length - (intOf s9).toNat)
   case atStart => exact ⟨0, rfl, Nat.zero_le _, fun i x hi => absurd hi (Nat.not_lt_zero _), rfl⟩
   case round =>
    obtain ⟨n, rfl, hn, hrw, rfl⟩ := hrel
    by_cases hlt : n < ts.length
    case pos =>
     have hltI : (n : Int) < ts.length := by omega
     obtain ⟨x, hx⟩ := get_of_lt hlt
     obtain ⟨ba, bo, eA, _, cx⟩ := rowRw HTK.out.rows hx
     have hri := HTK.out.lss x (List.mem_of_getElem? hx)
     have HRX := Lib.hid (And.intro hx (And.intro hri (And.intro hrw eA)))
     clear hri hrw hx
     rw [eA]
     clear eA
     by_cases h15 : x.ls.length <= 15
     case neg =>
      have h15I : (15 : Int) < x.ls.length := by omega
      go_wp2_with fail
      refine (wakes_any _).mono ?_
      rintro e w12 ⟨rfl, hb⟩
      have H13 := Lib.hid (And.intro ((newer_trans H11.out.1 hb)) ((H11.out.2.below hb H11.out.2.lt)))
      clear hb H11
      go_wp2_with fail
      go_ret
      exact ⟨rfl, H13.out.1⟩
     case pos =>
      have h15I : ¬ ((15 : Int) < x.ls.length) := by omega
      have h15J : (x.ls.length : Int) <= 15 := by omega
      go_wp2_with fail
      go_loopw [18] (fun s10 wr => ∃ k : Nat, s10 = vi k /\ k <= x.ls.length /\ (∀ (i : Nat) (y : Ln), i < k -> x.ls[i]? = some y -> y.l.length <= 8) /\ w10 = wr) (fun s10 _ => x.ls.length - (intOf s10).toNat)
      case atStart => exact ⟨0, rfl, Nat.zero_le _, fun i x hi => absurd hi (Nat.not_lt_zero _), rfl⟩
      case round =>
       obtain ⟨k, rfl, hk, hls, rfl⟩ := hrel
       by_cases hltk : k < x.ls.length
       case pos =>
        have hltkI : (k : Int) < x.ls.length := by omega
        obtain ⟨y, hy⟩ := get_of_lt hltk
        obtain ⟨bl, lo_, eL, _, cy⟩ := rowLn HRX.out.2.1 hy
        have HY := Lib.hid (And.intro hy hls)
        clear hy hls
        rw [eL] at cx
        clear eL
        by_cases h8 : y.l.length <= 8
        case neg =>
         have h8I : (8 : Int) < y.l.length := by omega
         go_wp2_with fail
         refine (wakes_any _).mono ?_
         rintro e w14 ⟨rfl, hb⟩
         have H15 := Lib.hid (And.intro ((newer_trans H11.out.1 hb)) ((H11.out.2.below hb H11.out.2.lt)))
         clear hb H11
         go_wp2_with fail
         go_ret
         exact ⟨rfl, H15.out.1⟩
        case pos =>
         have h8I : ¬ ((8 : Int) < y.l.length) := by omega
         go_wp2_with fail
         refine ⟨⟨k + 1, by simp, by omega, fun i z hi hz => ?_, trivial⟩, ?_⟩
         ·by_cases hik : i = k
          ·subst hik
           rw [HY.out.1] at hz
           injection hz with hz
           subst hz
           exact h8
          ·exact HY.out.2 i z (by omega) hz
         ·simp [intOf]
          omega
       case neg =>
        obtain rfl : k = x.ls.length := by omega
        have hltkI : ¬ ((x.ls.length : Int) < x.ls.length) := by omega
        go_wp2_with fail
        refine ⟨⟨n + 1, by simp, by omega, fun i z hi hz => ?_, trivial⟩, ?_⟩
        ·by_cases hin : i = n
         ·subst hin
          rw [HRX.out.1] at hz
          injection hz with hz
          subst hz
          refine ⟨h15, fun y hy => ?_⟩
          obtain ⟨j, hj⟩ := List.mem_iff_getElem?.1 hy
          exact hls j y (List.getElem?_eq_some_iff.1 hj).1 hj
         ·exact HRX.out.2.2.1 i z (by omega) hz
        ·simp [intOf]
         omega
    case neg =>
     obtain rfl : n = ts.length := by omega
     have hltI : ¬ ((ts.length : Int) < ts.length) := by omega
     have HTF : Hid (TbFew ts) := Lib.hid ⟨by omega, fun x hx => by obtain ⟨j, hj⟩ := List.mem_iff_getElem?.1 hx; have := (hrw j x (List.getElem?_eq_some_iff.1 hj).1 hj).1; omega, fun x hx y hy => by obtain ⟨j, hj⟩ := List.mem_iff_getElem?.1 hx; have := (hrw j x (List.getElem?_eq_some_iff.1 hj).1 hj).2 y hy; omega⟩
     clear hrw hn hlt h5 HTK
     have HPC : Hid (∀ W, newer w W -> Calls Try.prog 19 #[smV s] W fun e w' => ∃ s2 : Sm, e = .returned (smV s2) /\ (∀ W, newer w' W -> Calls Try.prog 49 #[smV s2, vi f] W fun e w3 => proofOut s.sd f W e w3) /\ newer W w') := Lib.hid (fun W hW => by
      refine (lawSlope s W (HOK.out.1.next hW) HFW.out).mono ?_
      rintro e w' ⟨s2, rfl, h1, h2, h3⟩
      refine ⟨s2, rfl, fun W2 hW2 => ?_, h3⟩
      have h := proof_any s2 f W2 (h2.next hW2) (few_sd h1 HFW.out)
      rw [h1] at h
      exact h)
     have HRI : Hid (∀ W, newer w W -> Calls Try.prog 26 #[smV s] W fun e w' => e = .returned (.bool (slopeB s.sd)) /\ newer W w') := Lib.hid (fun W hW => right_any s W (HOK.out.1.next hW) HFW.out)
     have HFE : Hid (∀ W, newer w W -> Calls Try.prog 24 #[smV s] W fun e w' => e = .returned (.bool (fewB s.sd)) /\ newer W w') := Lib.hid (fun W hW => few_any s W (HOK.out.1.next hW))
     have HIN : Hid (∀ W, Calls Try.prog 50 #[vi f, vi 0, vi 10000] W fun e w' => e = .returned (.bool (inB f 0 10000)) /\ newer W w') := Lib.hid (fun W => (in_any f 0 10000 W).mono (by rintro e w' ⟨h1, rfl⟩; exact ⟨h1, newer_refl _⟩))
     skip
     cases hsl : slopeB s.sd with
     | false =>
      rw [hsl] at HRI
      have hak : askedN s.sd f = 1 := by unfold askedN; rw [hsl]; rfl
      clear hsl HIN HFE
      have hen : enoughN s.sd f = 1 := by unfold enoughN; rw [if_neg (by rw [hak]; decide), hak]
      have HPD : Hid (∀ (W : World) (e : Ending) (w3 : World), proofOut s.sd f W e w3 -> e = .returned (.tuple #[.slice none 0 0, vi 1]) /\ newer W w3) := Lib.hid (fun W e w3 h => by unfold proofOut at h; rw [hen, if_neg (by decide)] at h; exact h)
      have HVC := Lib.hid (fun W (hW : newer w W) => prove_chain s s.sd f (ts.map Rw.d) false W (HOK.out.1.next hW) rfl HFW.out (by unfold provO; rw [hak]; rfl))
      clear hen hak
      have x0 := H11.out.2.at 0 (v := .slice s.a s.cs.length s.c) rfl
      have x1 := H11.out.2.at 1 (v := vi s.least) rfl
      go_wp2_with fail
      refine (HPC.out _ H11.out.1).mono ?_
      rintro e w16 ⟨s4, rfl, hc4, hb⟩
      have HC4 := Lib.hid (hc4 _ (newer_refl _))
      clear hc4
      have H17 := Lib.hid (And.intro ((newer_trans H11.out.1 hb)) ((H11.out.2.below hb H11.out.2.lt)))
      clear hb HPC H11 x0 x1
      go_wp2_with fail
      refine (HC4.out).mono ?_
      intro e w18 hpo
      obtain ⟨rfl, hb⟩ := HPD.out _ _ _ hpo
      have H19 := Lib.hid (And.intro ((newer_trans H17.out.1 hb)) ((H17.out.2.below hb H17.out.2.lt)))
      clear hb hpo HC4 HPD H17
      have x0 := H19.out.2.at 0 (v := .slice s.a s.cs.length s.c) rfl
      have x1 := H19.out.2.at 1 (v := vi s.least) rfl
      go_wp2_with fail
      refine (HRI.out _ H19.out.1).mono ?_
      rintro e w20 ⟨rfl, hb⟩
      have H21 := Lib.hid (And.intro ((newer_trans H19.out.1 hb)) ((H19.out.2.below hb H19.out.2.lt)))
      clear hb H19 x0 x1
      have x0 := H21.out.2.at 0 (v := .slice s.a s.cs.length s.c) rfl
      have x1 := H21.out.2.at 1 (v := vi s.least) rfl
      go_wp2_with fail
      refine (HRI.out _ H21.out.1).mono ?_
      rintro e w22 ⟨rfl, hb⟩
      have H23 := Lib.hid (And.intro ((newer_trans H21.out.1 hb)) ((H21.out.2.below hb H21.out.2.lt)))
      clear hb H21 x0 x1
      have x0 := H23.out.2.at 0 (v := .slice s.a s.cs.length s.c) rfl
      have x1 := H23.out.2.at 1 (v := vi s.least) rfl
      go_wp2_with fail
      refine (HVC.out _ H23.out.1).mono ?_
      rintro e w24 ⟨s4, rfl, hc4, hb⟩
      have HC4 := Lib.hid hc4
      clear hc4
      have H25 := Lib.hid (And.intro ((newer_trans H23.out.1 hb)) ((H23.out.2.below hb H23.out.2.lt)))
      clear hb HVC H23 x0 x1
      go_wp2_with fail
      refine (table_any ts A cA _ (HOK.out.2.next H25.out.1) HTF.out).mono ?_
      rintro e w26 ⟨t2, A9, c9, rfl, ht1, ht2, hb⟩
      have HC5 := Lib.hid (HC4.out t2 A9 c9 _ hb ht2.ok (few_map ht1 HTF.out) ht1)
      clear ht1 ht2
      have H27 := Lib.hid (And.intro ((newer_trans H25.out.1 hb)) ((H25.out.2.below hb H25.out.2.lt)))
      clear hb HC4 H25
      go_wp2_with fail
      refine (HC5.out).mono ?_
      rintro e w28 ⟨rfl, hb⟩
      have H29 := Lib.hid (And.intro ((newer_trans H27.out.1 hb)) ((H27.out.2.below hb H27.out.2.lt)))
      clear hb HC5 H27
      go_wp2_with fail
      refine (wakes_any _).mono ?_
      rintro e w30 ⟨rfl, hb⟩
      have H31 := Lib.hid (And.intro ((newer_trans H29.out.1 hb)) ((H29.out.2.below hb H29.out.2.lt)))
      clear hb H29
      go_wp2_with fail
      go_ret
      exact ⟨rfl, H31.out.1⟩
     | true =>
      rw [hsl] at HRI
      cases hin : inB f 0 10000 with
      | false =>
       rw [hin] at HIN
       have hak : askedN s.sd f = 2 := by unfold askedN; rw [hsl, hin]; rfl
       clear hsl hin HFE
       have hen : enoughN s.sd f = 2 := by unfold enoughN; rw [if_neg (by rw [hak]; decide), hak]
       have HPD : Hid (∀ (W : World) (e : Ending) (w3 : World), proofOut s.sd f W e w3 -> e = .returned (.tuple #[.slice none 0 0, vi 2]) /\ newer W w3) := Lib.hid (fun W e w3 h => by unfold proofOut at h; rw [hen, if_neg (by decide)] at h; exact h)
       have HVC := Lib.hid (fun W (hW : newer w W) => prove_chain s s.sd f (ts.map Rw.d) false W (HOK.out.1.next hW) rfl HFW.out (by unfold provO; rw [hak]; rfl))
       clear hen hak
       have x0 := H11.out.2.at 0 (v := .slice s.a s.cs.length s.c) rfl
       have x1 := H11.out.2.at 1 (v := vi s.least) rfl
       go_wp2_with fail
       refine (HPC.out _ H11.out.1).mono ?_
       rintro e w32 ⟨s4, rfl, hc4, hb⟩
       have HC4 := Lib.hid (hc4 _ (newer_refl _))
       clear hc4
       have H33 := Lib.hid (And.intro ((newer_trans H11.out.1 hb)) ((H11.out.2.below hb H11.out.2.lt)))
       clear hb HPC H11 x0 x1
       go_wp2_with fail
       refine (HC4.out).mono ?_
       intro e w34 hpo
       obtain ⟨rfl, hb⟩ := HPD.out _ _ _ hpo
       have H35 := Lib.hid (And.intro ((newer_trans H33.out.1 hb)) ((H33.out.2.below hb H33.out.2.lt)))
       clear hb hpo HC4 HPD H33
       have x0 := H35.out.2.at 0 (v := .slice s.a s.cs.length s.c) rfl
       have x1 := H35.out.2.at 1 (v := vi s.least) rfl
       go_wp2_with fail
       refine (HRI.out _ H35.out.1).mono ?_
       rintro e w36 ⟨rfl, hb⟩
       have H37 := Lib.hid (And.intro ((newer_trans H35.out.1 hb)) ((H35.out.2.below hb H35.out.2.lt)))
       clear hb H35 x0 x1
       have x0 := H37.out.2.at 0 (v := .slice s.a s.cs.length s.c) rfl
       have x1 := H37.out.2.at 1 (v := vi s.least) rfl
       go_wp2_with fail
       refine (HIN.out _).mono ?_
       rintro e w38 ⟨rfl, hb⟩
       have H39 := Lib.hid (And.intro ((newer_trans H37.out.1 hb)) ((H37.out.2.below hb H37.out.2.lt)))
       clear hb H37 x0 x1
       have x0 := H39.out.2.at 0 (v := .slice s.a s.cs.length s.c) rfl
       have x1 := H39.out.2.at 1 (v := vi s.least) rfl
       go_wp2_with fail
       refine (HRI.out _ H39.out.1).mono ?_
       rintro e w40 ⟨rfl, hb⟩
       have H41 := Lib.hid (And.intro ((newer_trans H39.out.1 hb)) ((H39.out.2.below hb H39.out.2.lt)))
       clear hb H39 x0 x1
       have x0 := H41.out.2.at 0 (v := .slice s.a s.cs.length s.c) rfl
       have x1 := H41.out.2.at 1 (v := vi s.least) rfl
       go_wp2_with fail
       refine (HVC.out _ H41.out.1).mono ?_
       rintro e w42 ⟨s4, rfl, hc4, hb⟩
       have HC4 := Lib.hid hc4
       clear hc4
       have H43 := Lib.hid (And.intro ((newer_trans H41.out.1 hb)) ((H41.out.2.below hb H41.out.2.lt)))
       clear hb HVC H41 x0 x1
       go_wp2_with fail
       refine (table_any ts A cA _ (HOK.out.2.next H43.out.1) HTF.out).mono ?_
       rintro e w44 ⟨t2, A9, c9, rfl, ht1, ht2, hb⟩
       have HC5 := Lib.hid (HC4.out t2 A9 c9 _ hb ht2.ok (few_map ht1 HTF.out) ht1)
       clear ht1 ht2
       have H45 := Lib.hid (And.intro ((newer_trans H43.out.1 hb)) ((H43.out.2.below hb H43.out.2.lt)))
       clear hb HC4 H43
       go_wp2_with fail
       refine (HC5.out).mono ?_
       rintro e w46 ⟨rfl, hb⟩
       have H47 := Lib.hid (And.intro ((newer_trans H45.out.1 hb)) ((H45.out.2.below hb H45.out.2.lt)))
       clear hb HC5 H45
       go_wp2_with fail
       refine (wakes_any _).mono ?_
       rintro e w48 ⟨rfl, hb⟩
       have H49 := Lib.hid (And.intro ((newer_trans H47.out.1 hb)) ((H47.out.2.below hb H47.out.2.lt)))
       clear hb H47
       go_wp2_with fail
       go_ret
       exact ⟨rfl, H49.out.1⟩
      | true =>
       rw [hin] at HIN
       have hak : askedN s.sd f = 0 := by unfold askedN; rw [hsl, hin]; rfl
       clear hsl hin
       have hsd := asked_zero hak
       have HSD := Lib.hid hsd
       have HAK := Lib.hid hak
       obtain ⟨fw, hfw⟩ : ∃ q, q = fewB s.sd := ⟨_, rfl⟩
       rw [<- hfw] at HFE
       clear hfw
       have HPVQ : Hid (∀ D p, provO s.sd f D = p -> (∀ (s2 : Sm) (t2 : List Rw) A c W, s2.sd = s.sd -> SmOk s2 W -> TbOk t2 A W -> TbFew t2 -> t2.map Rw.d = D -> Calls Try.prog 51 #[smV s2, vi f, .slice A t2.length c] W fun e w' => e = .returned (.bool p) /\ newer W w') /\ (∀ (t2 : List Rw) A c W, newer w W -> TbOk t2 A W -> TbFew t2 -> t2.map Rw.d = D -> Calls Try.prog 53 #[smV s, vi f, .slice A t2.length c] W fun e w' => e = .returned (.bool p) /\ newer W w')) := Lib.hid (fun D p hp => ⟨fun s2 t2 A c W h1 h2 h3 h4 h5 => by
         have h := prove_any s2 f t2 A c W h2 (few_sd h1 HFW.out) h3 h4
         rw [h1, h5, hp] at h
         exact h, fun t2 A c W hW h3 h4 h5 => by
         have h := refProves_any s f t2 A c W (HOK.out.1.next hW) HSD.out.1 HSD.out.2.1 HSD.out.2.2 h3 h4
         rw [h5, <- prov_is HAK.out, hp] at h
         exact h⟩)
       have hbd := bears_dry HSD.out.1 HSD.out.2.1 HSD.out.2.2
       have hbe := fun (us : List Su) A c W (hW : newer w W) (h : AllIn s us A W) => bears_any s us A c (allR s.sd.n s.cs.length s.sd.K) f W (HOK.out.1.next hW) HSD.out.1 h.row h.ok h.eq (fun u hu => (all_mem (hd_ok HSD.out.1 false).K0).1 hu) (h.few HSD.out.1)
       rw [sd_len] at hbd
       obtain ⟨br, hbr⟩ : ∃ q, q = bearsB (lowestK (refLo s.sd) (allR s.sd.n s.cs.length s.sd.K) (-1)) f := ⟨_, rfl⟩
       rw [<- hbr] at hbd
       simp only [<- hbr] at hbe
       have HBE := Lib.hid hbe
       clear hbr hbe hak hsd
       cases hlw : lowT s.sd f (some false) with
       | none =>
        have HDUM := Lib.hid True.intro
        have hen : enoughN s.sd f = 0 := by unfold enoughN; rw [if_pos HAK.out, hlw]; rfl
        obtain rfl : br = true := hbd.2 hlw
        have HPD : Hid (∀ (W : World) (e : Ending) (w3 : World), proofOut s.sd f W e w3 -> ∃ (xs : List Rw) (A : Option Addr) (c : Nat), e = .returned (.tuple #[.slice A xs.length c, vi 0]) /\ xs.map Rw.d = tabD s.sd f /\ TbOwn W.heap.size xs A c w3 /\ newer W w3) := Lib.hid (fun W e w3 h => by unfold proofOut at h; rw [hen, if_pos rfl] at h; exact h)
        have HTP := Lib.hid (tab_prov hen)
        clear hen hlw hbd
        have x0 := H11.out.2.at 0 (v := .slice s.a s.cs.length s.c) rfl
        have x1 := H11.out.2.at 1 (v := vi s.least) rfl
        go_wp2_with fail
        refine (HPC.out _ H11.out.1).mono ?_
        rintro e w50 ⟨s4, rfl, hc4, hb⟩
        have HC4 := Lib.hid (hc4 _ (newer_refl _))
        clear hc4
        have H51 := Lib.hid (And.intro ((newer_trans H11.out.1 hb)) ((H11.out.2.below hb H11.out.2.lt)))
        clear hb HPC H11 x0 x1
        go_wp2_with fail
        refine (HC4.out).mono ?_
        intro e w52 hpo
        obtain ⟨xs, XA, Xc, rfl, hxd, hxo, hb⟩ := HPD.out _ _ _ hpo
        have HXM := Lib.hid (And.intro hxd (few_tab HSD.out.1 hxd))
        have H53 := Lib.hid (And.intro ((newer_trans H51.out.1 hb)) (And.intro ((H51.out.2.below hb H51.out.2.lt)) (hxo.ok)))
        clear hb hpo HC4 HPD hxd hxo H51
        have x0 := H53.out.2.1.at 0 (v := .slice s.a s.cs.length s.c) rfl
        have x1 := H53.out.2.1.at 1 (v := vi s.least) rfl
        go_wp2_with fail
        refine (HRI.out _ H53.out.1).mono ?_
        rintro e w54 ⟨rfl, hb⟩
        have H55 := Lib.hid (And.intro ((newer_trans H53.out.1 hb)) (And.intro ((H53.out.2.1.below hb H53.out.2.1.lt)) ((H53.out.2.2.next hb))))
        clear hb HRI H53 x0 x1
        go_wp2_with fail
        refine (HIN.out _).mono ?_
        rintro e w56 ⟨rfl, hb⟩
        have H57 := Lib.hid (And.intro ((newer_trans H55.out.1 hb)) (And.intro ((H55.out.2.1.below hb H55.out.2.1.lt)) ((H55.out.2.2.next hb))))
        clear hb HIN H55
        cases fw with
        | false =>
         have x0 := H57.out.2.1.at 0 (v := .slice s.a s.cs.length s.c) rfl
         have x1 := H57.out.2.1.at 1 (v := vi s.least) rfl
         go_upto_region 20 with fail
         refine wp_words (by kernel_rfl) (region_told_u 24 (by kernel_rfl) (by kernel_rfl) [false, false, false, true, true, true, true, true, true, true, false, false, false, false, false, true, true, true, true, true, true, true, true, false] (fun W => Below w56.heap.size w56 W) newer [vIs (vi 0), vIs (.bool false), vIs (.bool false), vIs (undef), vIs (undef), vIs (undef), vIs (undef), vIs (undef), vIs (undef), vIs (undef), vIs (.bool false), vIs (.bool false), vIs (smV s), vIs (.bool false), vIs (.bool false), vIs (undef), vIs (undef), vIs (undef), vIs (undef), vIs (undef), vIs (undef), vIs (undef), vIs (undef), vIs (.bool false)] (by repeat' first | refine And.intro ?_ ?_ | exact trivial | exact rfl | (intro v W h; obtain rfl : v = _ := h; first | rfl | (simp; done) | (simp [undef]; done))) (by repeat' first | refine And.intro ?_ ?_ | exact trivial | exact (fun h => Bool.noConfusion (show false = true from h)) | exact (fun _ _ => rfl)) (fun h k => newer_trans h k) (pickD_stable _ (by repeat' first | refine And.intro ?_ ?_ | exact trivial | exact vIs_st)) (Below.refl _ w56).drew (Below.refl _ _) ?_ ?_)
         ·refine ⟨.inr ?_, .inr ?_, .inr ?_, .inl rfl, .inl rfl, .inl rfl, .inl rfl, .inl rfl, .inl rfl, .inl rfl, .inr ?_, .inr ?_, .inr ?_, .inr ?_, .inr ?_, .inl rfl, .inl rfl, .inl rfl, .inl rfl, .inl rfl, .inl rfl, .inl rfl, .inl rfl, .inr ?_, trivial⟩
          ·exact fun a W hG _ hO _ => kM 20 rfl (hO.slot 20 (by kernel_rfl)) rfl hG
          ·intro a W hG hR hO hp; have h103 : slotOf a 103 = vi 0 := hp.1; refine kY (v := .bool false) hG rfl ?_; simp [slotOf] at h103; simp [execOp, go_sem, h103]
          ·exact fun a W hG _ _ hp => kM 104 rfl hp.1 rfl hG
          ·intro a W hG hR hO hp; have h105 : slotOf a 105 = .bool false := hp.1; have h112 : slotOf a 112 = undef := hp.2.1; refine kY (v := .bool false) hG rfl ?_; simp [slotOf] at h105 h112; simp [execOp, go_sem, h105, h112]
          ·exact fun a W hG _ _ hp => kM 113 rfl hp.1 rfl hG
          ·intro a W hG hR hO hp; have h8 := hO.slot 8 (by kernel_rfl); have c0 := keep_cell x0 hG; have c1 := keep_cell x1 hG; refine kY (v := smV s) hG rfl ?_; simp [slotOf] at h8; simp [execOp, go_sem, h8, c0, c1]
          ·intro a W hG hR hO hp
           have h115 : slotOf a 115 = smV s := hp.1
           refine wp_enters (f := 24) (args := #[smV s]) ?_ ((HFE.out W (newer_trans H57.out.1 hG)).mono ?_)
           ·simp [slotOf] at h115
            simp [go_sem, h115]
           ·rintro e w' ⟨rfl, hb⟩
            exact ⟨_, rfl, _, rfl, rfl, hb, below_next hG hb⟩
          ·exact fun a W hG _ _ hp => kM 116 rfl hp.1 rfl hG
          ·intro a W hG hR hO hp; have h117 : slotOf a 117 = .bool false := hp.1; have h125 : slotOf a 125 = undef := hp.2.1; refine kY (v := .bool false) hG rfl ?_; simp [slotOf] at h117 h125; simp [execOp, go_sem, h117, h125]
         ·intro wz20 hG hR
          rintro _ rfl _ rfl _ rfl _ rfl _ rfl _ rfl _ rfl _ rfl _ rfl _ rfl _ rfl _ rfl _ rfl _ rfl _ rfl _ rfl _ rfl _ rfl _ rfl _ rfl _ rfl _ rfl _ rfl _ rfl
          change wpList _ _ _ _ _ _
          simp only [Act.put, List.setIfInBounds_toArray, List.set_cons_zero, List.set_cons_succ, List.drop_succ_cons, List.drop_zero]
          have H58 := Lib.hid (And.intro ((newer_trans H57.out.1 hG)) (And.intro ((H57.out.2.1.below hG H57.out.2.1.lt)) ((H57.out.2.2.next hG))))
          clear hG hR HFE HBE H57 x0 x1
          have x0 := H58.out.2.1.at 0 (v := .slice s.a s.cs.length s.c) rfl
          have x1 := H58.out.2.1.at 1 (v := vi s.least) rfl
          have HXT : Hid (TbOk xs XA wz20 /\ TbFew xs /\ xs.map Rw.d = tabD s.sd f) := Lib.hid ⟨H58.out.2.2, HXM.out.2, HXM.out.1⟩
          have HPX := Lib.hid (HPVQ.out _ true HTP.out).2
          go_upto_region 23 with fail
          refine wp_words (by kernel_rfl) (region_told 5 (by kernel_rfl) (by kernel_rfl) (fun W => Below wz20.heap.size wz20 W) newer (pickD [vIs (smV s), vIs (vi f), vIs (.slice XA xs.length Xc), vTab (tabD s.sd f), vIs (.bool true)]) (fun h k => newer_trans h k) (pickD_stable _ ⟨vIs_st, vIs_st, vIs_st, vTab_st, vIs_st, trivial⟩) (Below.refl _ wz20).drew (Below.refl _ _) ?_ ?_)
          ·refine ⟨?_, ?_, ?_, ?_, ?_, trivial⟩
           ·intro a W hG hR hO hp; have h8 := hO.slot 8 (by kernel_rfl); have c0 := keep_cell x0 hG; have c1 := keep_cell x1 hG; refine kY (v := smV s) hG rfl ?_; simp [slotOf] at h8; simp [execOp, go_sem, h8, c0, c1]
           ·exact fun a W hG _ hO _ => kM 1 rfl (hO.slot 1 (by kernel_rfl)) rfl hG
           ·exact fun a W hG _ hO _ => kM 19 rfl (hO.slot 19 (by kernel_rfl)) rfl hG
           ·intro a W hG hR hO hp
            have h132 : slotOf a 132 = .slice XA xs.length Xc := hp.1
            refine wp_enters (f := 52) (args := #[.slice XA xs.length Xc]) ?_ ((table_any _ _ _ W (HXT.out.1.next hG) HXT.out.2.1).mono ?_)
            ·simp [slotOf] at h132
             simp [go_sem, h132]
            ·rintro e w' ⟨t2, A9, c9, rfl, h1, h2, hb⟩
             exact ⟨_, rfl, _, rfl, ⟨t2, A9, c9, rfl, h2.ok, few_map h1 HXT.out.2.1, h1.trans HXT.out.2.2⟩, hb, below_next hG hb⟩
           ·intro a W hG hR hO hp
            have h130 : slotOf a 130 = smV s := hp.1
            have h131 : slotOf a 131 = vi f := hp.2.1
            have h133 := hp.2.2.1
            obtain ⟨t2, A9, c9, h133, ht2, hf2, hm2⟩ := h133
            refine wp_enters (f := 53) (args := #[smV s, vi f, .slice A9 t2.length c9]) ?_ ((HPX.out t2 A9 c9 W (newer_trans H58.out.1 hG) ht2 hf2 hm2).mono ?_)
            ·simp [slotOf] at h130 h131 h133
             simp [go_sem, h130, h131, h133]
            ·rintro e w' ⟨rfl, hb⟩
             exact ⟨_, rfl, _, rfl, rfl, hb, below_next hG hb⟩
          ·intro wz23 hG hR
           rintro _ rfl _ rfl _ rfl _ - _ rfl
           change wpList _ _ _ _ _ _
           simp only [Act.put, List.setIfInBounds_toArray, List.set_cons_zero, List.set_cons_succ, List.drop_succ_cons, List.drop_zero]
           have H59 := Lib.hid (And.intro ((newer_trans H58.out.1 hG)) (And.intro ((H58.out.2.1.below hG H58.out.2.1.lt)) ((H58.out.2.2.next hG))))
           clear hG hR HXT HPX H58 x0 x1
           have x0 := H59.out.2.1.at 0 (v := .slice s.a s.cs.length s.c) rfl
           have x1 := H59.out.2.1.at 1 (v := vi s.least) rfl
           cases ow with
           | false =>
            obtain ⟨DD, hDD⟩ : ∃ D, D = ts.map Rw.d := ⟨_, rfl⟩
            have HTT : Hid (TbOk ts A wz23 /\ TbFew ts /\ ts.map Rw.d = DD) := Lib.hid ⟨HOK.out.2.next H59.out.1, HTF.out, hDD.symm⟩
            clear hDD
            obtain ⟨p, hp⟩ : ∃ p, p = provO s.sd f DD := ⟨_, rfl⟩
            have HPV := Lib.hid (HPVQ.out DD p hp.symm).1
            have HPR := Lib.hid (HPVQ.out DD p hp.symm).2
            clear hp
            cases p with
            | false =>
             have x0 := H59.out.2.1.at 0 (v := .slice s.a s.cs.length s.c) rfl
             have x1 := H59.out.2.1.at 1 (v := vi s.least) rfl
             go_upto_region 29 with fail
             refine wp_words (by kernel_rfl) (region_told_u 14 (by kernel_rfl) (by kernel_rfl) [false, false, false, false, false, false, false, false, false, false, false, false, false, false] (fun W => Below wz23.heap.size wz23 W) newer [vIs (smV s), vSlo s.sd, vIs (vi f), vIs (.slice A ts.length cA), vTab DD, vIs (.bool false), vIs (smV s), vIs (vi f), vIs (.slice A ts.length cA), vIs (.bool false), vIs (.bool true), vIs (.bool true), vIs (.bool true), vIs (.bool true)] (by repeat' first | refine And.intro ?_ ?_ | exact trivial | exact rfl | (intro v W h; obtain rfl : v = _ := h; first | rfl | (simp; done) | (simp [undef]; done))) (by repeat' first | refine And.intro ?_ ?_ | exact trivial | exact (fun h => Bool.noConfusion (show false = true from h)) | exact (fun _ _ => rfl)) (fun h k => newer_trans h k) (pickD_stable _ ⟨vIs_st, vSlo_st, vIs_st, vIs_st, vTab_st, vIs_st, vIs_st, vIs_st, vIs_st, vIs_st, vIs_st, vIs_st, vIs_st, vIs_st, trivial⟩) (Below.refl _ wz23).drew (Below.refl _ _) ?_ ?_)
             ·refine ⟨.inr ?_, .inr ?_, .inr ?_, .inr ?_, .inr ?_, .inr ?_, .inr ?_, .inr ?_, .inr ?_, .inr ?_, .inr ?_, .inr ?_, .inr ?_, .inr ?_, trivial⟩
              ·intro a W hG hR hO hp; have h8 := hO.slot 8 (by kernel_rfl); have c0 := keep_cell x0 hG; have c1 := keep_cell x1 hG; refine kY (v := smV s) hG rfl ?_; simp [slotOf] at h8; simp [execOp, go_sem, h8, c0, c1]
              ·intro a W hG hR hO hp
               have h167 : slotOf a 167 = smV s := hp.1
               refine wp_enters (f := 19) (args := #[smV s]) ?_ ((lawSlope s W (HOK.out.1.next (newer_trans H59.out.1 hG)) HFW.out).mono ?_)
               ·simp [slotOf] at h167
                simp [go_sem, h167]
               ·rintro e w' ⟨s2, rfl, h1, h2, hb⟩
                exact ⟨_, rfl, _, rfl, ⟨s2, rfl, h1, h2⟩, hb, below_next hG hb⟩
              ·exact fun a W hG _ hO _ => kM 1 rfl (hO.slot 1 (by kernel_rfl)) rfl hG
              ·exact fun a W hG _ hO _ => kM 2 rfl (hO.slot 2 (by kernel_rfl)) rfl hG
              ·intro a W hG hR hO hp
               have h170 : slotOf a 170 = .slice A ts.length cA := hp.1
               refine wp_enters (f := 52) (args := #[.slice A ts.length cA]) ?_ ((table_any _ _ _ W (HTT.out.1.next hG) HTT.out.2.1).mono ?_)
               ·simp [slotOf] at h170
                simp [go_sem, h170]
               ·rintro e w' ⟨t2, A9, c9, rfl, h1, h2, hb⟩
                exact ⟨_, rfl, _, rfl, ⟨t2, A9, c9, rfl, h2.ok, few_map h1 HTT.out.2.1, h1.trans HTT.out.2.2⟩, hb, below_next hG hb⟩
              ·intro a W hG hR hO hp
               have h168 := hp.1
               have h169 : slotOf a 169 = vi f := hp.2.1
               have h171 := hp.2.2.1
               obtain ⟨s2, h168, hd2, hs2⟩ := h168
               obtain ⟨t2, A9, c9, h171, ht2, hf2, hm2⟩ := h171
               have hpv := HPV.out s2 t2 A9 c9 W hd2 hs2 ht2 hf2 hm2
               refine wp_enters (f := 51) (args := #[smV s2, vi f, .slice A9 t2.length c9]) ?_ (hpv.mono ?_)
               ·simp [slotOf] at h168 h169 h171
                simp [go_sem, h168, h169, h171]
               ·rintro e w' ⟨rfl, hb⟩
                exact ⟨_, rfl, _, rfl, rfl, hb, below_next hG hb⟩
              ·intro a W hG hR hO hp; have h8 := hO.slot 8 (by kernel_rfl); have c0 := keep_cell x0 hG; have c1 := keep_cell x1 hG; refine kY (v := smV s) hG rfl ?_; simp [slotOf] at h8; simp [execOp, go_sem, h8, c0, c1]
              ·exact fun a W hG _ hO _ => kM 1 rfl (hO.slot 1 (by kernel_rfl)) rfl hG
              ·exact fun a W hG _ hO _ => kM 2 rfl (hO.slot 2 (by kernel_rfl)) rfl hG
              ·intro a W hG hR hO hp
               have h173 : slotOf a 173 = smV s := hp.1
               have h174 : slotOf a 174 = vi f := hp.2.1
               have h175 : slotOf a 175 = .slice A ts.length cA := hp.2.2.1
               refine wp_enters (f := 53) (args := #[smV s, vi f, .slice A ts.length cA]) ?_ ((HPR.out _ _ _ W (newer_trans H59.out.1 hG) (HTT.out.1.next hG) HTT.out.2.1 HTT.out.2.2).mono ?_)
               ·simp [slotOf] at h173 h174 h175
                simp [go_sem, h173, h174, h175]
               ·rintro e w' ⟨rfl, hb⟩
                exact ⟨_, rfl, _, rfl, rfl, hb, below_next hG hb⟩
              ·intro a W hG hR hO hp; have h172 : slotOf a 172 = .bool false := hp.1; have h176 : slotOf a 176 = .bool false := hp.2.1; refine kY (v := .bool true) hG rfl ?_; simp [slotOf] at h172 h176; simp [execOp, go_sem, h172, h176]
              ·exact fun a W hG _ _ hp => kM 177 rfl hp.1 rfl hG
              ·intro a W hG hR hO hp
               refine wp_enters (f := 17) (args := #[]) ?_ ((wakes_any W).mono ?_)
               ·skip
                simp [go_sem]
               ·rintro e w' ⟨rfl, hb⟩
                exact ⟨_, rfl, _, rfl, rfl, hb, below_next hG hb⟩
              ·intro a W hG hR hO hp; have h178 : slotOf a 178 = .bool true := hp.1; have h179 : slotOf a 179 = .bool true := hp.2.1; refine kY (v := .bool true) hG rfl ?_; simp [slotOf] at h178 h179; simp [execOp, go_sem, h178, h179]
             ·intro wz29 hG hR
              rintro _ rfl _ - _ rfl _ rfl _ - _ rfl _ rfl _ rfl _ rfl _ rfl _ rfl _ rfl _ rfl _ rfl
              change wpList _ _ _ _ _ _
              simp only [Act.put, List.setIfInBounds_toArray, List.set_cons_zero, List.set_cons_succ, List.drop_succ_cons, List.drop_zero]
              have H60 := Lib.hid (And.intro ((newer_trans H59.out.1 hG)) (And.intro ((H59.out.2.1.below hG H59.out.2.1.lt)) ((H59.out.2.2.next hG))))
              clear hG hR H59 x0 x1
              go_wp2_with fail
              go_ret
              exact ⟨rfl, H60.out.1⟩
            | true =>
             have x0 := H59.out.2.1.at 0 (v := .slice s.a s.cs.length s.c) rfl
             have x1 := H59.out.2.1.at 1 (v := vi s.least) rfl
             go_upto_region 29 with fail
             refine wp_words (by kernel_rfl) (region_told_u 14 (by kernel_rfl) (by kernel_rfl) [false, false, false, false, false, false, false, false, false, false, false, false, false, false] (fun W => Below wz23.heap.size wz23 W) newer [vIs (smV s), vSlo s.sd, vIs (vi f), vIs (.slice A ts.length cA), vTab DD, vIs (.bool true), vIs (smV s), vIs (vi f), vIs (.slice A ts.length cA), vIs (.bool true), vIs (.bool true), vIs (.bool true), vIs (.bool true), vIs (.bool true)] (by repeat' first | refine And.intro ?_ ?_ | exact trivial | exact rfl | (intro v W h; obtain rfl : v = _ := h; first | rfl | (simp; done) | (simp [undef]; done))) (by repeat' first | refine And.intro ?_ ?_ | exact trivial | exact (fun h => Bool.noConfusion (show false = true from h)) | exact (fun _ _ => rfl)) (fun h k => newer_trans h k) (pickD_stable _ ⟨vIs_st, vSlo_st, vIs_st, vIs_st, vTab_st, vIs_st, vIs_st, vIs_st, vIs_st, vIs_st, vIs_st, vIs_st, vIs_st, vIs_st, trivial⟩) (Below.refl _ wz23).drew (Below.refl _ _) ?_ ?_)
             ·refine ⟨.inr ?_, .inr ?_, .inr ?_, .inr ?_, .inr ?_, .inr ?_, .inr ?_, .inr ?_, .inr ?_, .inr ?_, .inr ?_, .inr ?_, .inr ?_, .inr ?_, trivial⟩
              ·intro a W hG hR hO hp; have h8 := hO.slot 8 (by kernel_rfl); have c0 := keep_cell x0 hG; have c1 := keep_cell x1 hG; refine kY (v := smV s) hG rfl ?_; simp [slotOf] at h8; simp [execOp, go_sem, h8, c0, c1]
              ·intro a W hG hR hO hp
               have h167 : slotOf a 167 = smV s := hp.1
               refine wp_enters (f := 19) (args := #[smV s]) ?_ ((lawSlope s W (HOK.out.1.next (newer_trans H59.out.1 hG)) HFW.out).mono ?_)
               ·simp [slotOf] at h167
                simp [go_sem, h167]
               ·rintro e w' ⟨s2, rfl, h1, h2, hb⟩
                exact ⟨_, rfl, _, rfl, ⟨s2, rfl, h1, h2⟩, hb, below_next hG hb⟩
              ·exact fun a W hG _ hO _ => kM 1 rfl (hO.slot 1 (by kernel_rfl)) rfl hG
              ·exact fun a W hG _ hO _ => kM 2 rfl (hO.slot 2 (by kernel_rfl)) rfl hG
              ·intro a W hG hR hO hp
               have h170 : slotOf a 170 = .slice A ts.length cA := hp.1
               refine wp_enters (f := 52) (args := #[.slice A ts.length cA]) ?_ ((table_any _ _ _ W (HTT.out.1.next hG) HTT.out.2.1).mono ?_)
               ·simp [slotOf] at h170
                simp [go_sem, h170]
               ·rintro e w' ⟨t2, A9, c9, rfl, h1, h2, hb⟩
                exact ⟨_, rfl, _, rfl, ⟨t2, A9, c9, rfl, h2.ok, few_map h1 HTT.out.2.1, h1.trans HTT.out.2.2⟩, hb, below_next hG hb⟩
              ·intro a W hG hR hO hp
               have h168 := hp.1
               have h169 : slotOf a 169 = vi f := hp.2.1
               have h171 := hp.2.2.1
               obtain ⟨s2, h168, hd2, hs2⟩ := h168
               obtain ⟨t2, A9, c9, h171, ht2, hf2, hm2⟩ := h171
               have hpv := HPV.out s2 t2 A9 c9 W hd2 hs2 ht2 hf2 hm2
               refine wp_enters (f := 51) (args := #[smV s2, vi f, .slice A9 t2.length c9]) ?_ (hpv.mono ?_)
               ·simp [slotOf] at h168 h169 h171
                simp [go_sem, h168, h169, h171]
               ·rintro e w' ⟨rfl, hb⟩
                exact ⟨_, rfl, _, rfl, rfl, hb, below_next hG hb⟩
              ·intro a W hG hR hO hp; have h8 := hO.slot 8 (by kernel_rfl); have c0 := keep_cell x0 hG; have c1 := keep_cell x1 hG; refine kY (v := smV s) hG rfl ?_; simp [slotOf] at h8; simp [execOp, go_sem, h8, c0, c1]
              ·exact fun a W hG _ hO _ => kM 1 rfl (hO.slot 1 (by kernel_rfl)) rfl hG
              ·exact fun a W hG _ hO _ => kM 2 rfl (hO.slot 2 (by kernel_rfl)) rfl hG
              ·intro a W hG hR hO hp
               have h173 : slotOf a 173 = smV s := hp.1
               have h174 : slotOf a 174 = vi f := hp.2.1
               have h175 : slotOf a 175 = .slice A ts.length cA := hp.2.2.1
               refine wp_enters (f := 53) (args := #[smV s, vi f, .slice A ts.length cA]) ?_ ((HPR.out _ _ _ W (newer_trans H59.out.1 hG) (HTT.out.1.next hG) HTT.out.2.1 HTT.out.2.2).mono ?_)
               ·simp [slotOf] at h173 h174 h175
                simp [go_sem, h173, h174, h175]
               ·rintro e w' ⟨rfl, hb⟩
                exact ⟨_, rfl, _, rfl, rfl, hb, below_next hG hb⟩
              ·intro a W hG hR hO hp; have h172 : slotOf a 172 = .bool true := hp.1; have h176 : slotOf a 176 = .bool true := hp.2.1; refine kY (v := .bool true) hG rfl ?_; simp [slotOf] at h172 h176; simp [execOp, go_sem, h172, h176]
              ·exact fun a W hG _ _ hp => kM 177 rfl hp.1 rfl hG
              ·intro a W hG hR hO hp
               refine wp_enters (f := 17) (args := #[]) ?_ ((wakes_any W).mono ?_)
               ·skip
                simp [go_sem]
               ·rintro e w' ⟨rfl, hb⟩
                exact ⟨_, rfl, _, rfl, rfl, hb, below_next hG hb⟩
              ·intro a W hG hR hO hp; have h178 : slotOf a 178 = .bool true := hp.1; have h179 : slotOf a 179 = .bool true := hp.2.1; refine kY (v := .bool true) hG rfl ?_; simp [slotOf] at h178 h179; simp [execOp, go_sem, h178, h179]
             ·intro wz29 hG hR
              rintro _ rfl _ - _ rfl _ rfl _ - _ rfl _ rfl _ rfl _ rfl _ rfl _ rfl _ rfl _ rfl _ rfl
              change wpList _ _ _ _ _ _
              simp only [Act.put, List.setIfInBounds_toArray, List.set_cons_zero, List.set_cons_succ, List.drop_succ_cons, List.drop_zero]
              have H61 := Lib.hid (And.intro ((newer_trans H59.out.1 hG)) (And.intro ((H59.out.2.1.below hG H59.out.2.1.lt)) ((H59.out.2.2.next hG))))
              clear hG hR H59 x0 x1
              go_wp2_with fail
              go_ret
              exact ⟨rfl, H61.out.1⟩
           | true =>
            go_wp2_with fail
            refine (table_any xs XA Xc _ H59.out.2.2 HXM.out.2).mono ?_
            rintro e w62 ⟨us, UA, cU, rfl, hud, huo, hb⟩
            have HUM := Lib.hid (And.intro (hud.trans HXM.out.1) (few_map hud HXM.out.2))
            have HBW := Lib.hid H59.out.2.1.lt
            have H63 := Lib.hid (And.intro ((newer_trans H59.out.1 hb)) (And.intro ((H59.out.2.1.below hb H59.out.2.1.lt)) (And.intro ((H59.out.2.2.next hb)) (huo))))
            clear hb hud huo H59 x0 x1
            have hK := HSD.out.1.least
            have hC := HSD.out.1.cols
            have hB := HSD.out.1.beds
            rw [sd_len] at hC
            obtain ⟨K, hKe⟩ : ∃ K, K = s.sd.K := ⟨_, rfl⟩
            obtain ⟨m, hme⟩ : ∃ m, m = s.sd.n := ⟨_, rfl⟩
            have hKp : 0 < K := by rw [hKe]; unfold Sd.K; omega
            have hmp : 0 < m := by rw [hme]; exact hB.1
            have hcp : 0 < s.cs.length := by omega
            obtain ⟨r, hr⟩ : ∃ r, r = n4 % K := ⟨_, rfl⟩
            obtain ⟨k, hk⟩ : ∃ k, k = n5 % s.cs.length := ⟨_, rfl⟩
            obtain ⟨b, hb⟩ : ∃ b, b = n6 % m := ⟨_, rfl⟩
            have hr1 : r < K := by rw [hr]; exact Nat.mod_lt _ hKp
            have hk1 : k < s.cs.length := by rw [hk]; exact Nat.mod_lt _ hcp
            have hb1 : b < m := by rw [hb]; exact Nat.mod_lt _ hmp
            have er : (n4 : Int).tmod K = r := by rw [hr]; exact rem_natP _ _
            have ek : (n5 : Int).tmod s.cs.length = k := by rw [hk]; exact rem_natP _ _
            have eb : (n6 : Int).tmod m = b := by rw [hb]; exact rem_natP _ _
            obtain ⟨x, y, v, hx, hy, hv, hul, hxl, hyl, hvb⟩ := tab_get HTP.out HUM.out.1 (hKe ▸ hr1) hk1 (hme ▸ hb1)
            rw [<- hKe] at hul
            rw [<- hme] at hyl
            obtain ⟨gt, gx, gy, eA, ex, ey, hge, d0, d1, _, _, _⟩ := H63.out.2.2.2.poke hx hy hv
            subst eA
            rw [ex, hxl] at d0
            rw [ey, hyl] at d1
            obtain ⟨u, hu⟩ : ∃ u, u = v + by_ := ⟨_, rfl⟩
            have hadd : IntKind.i64.wrap (v + by_) = u := by rw [hu]; have := HBY.out; exact IntWalk.i64_in _ (by omega)
            have hby : IntKind.i64.wrap by_ = by_ := by have := HBY.out; exact IntWalk.i64_in _ (by omega)
            have ew4 : IntKind.i64.wrap (n4 : Int) = n4 := IntWalk.i64_in _ (by omega)
            have ew5 : IntKind.i64.wrap (n5 : Int) = n5 := IntWalk.i64_in _ (by omega)
            have ew6 : IntKind.i64.wrap (n6 : Int) = n6 := IntWalk.i64_in _ (by omega)
            have HXYV := Lib.hid (And.intro hx (And.intro hy (And.intro hv ey)))
            have HGE : Hid (w.heap.size < gy) := Lib.hid (by have := HBW.out; omega)
            have hKz : ¬ ((K : Int) = 0) := by omega
            have hcz : ¬ ((s.cs.length : Int) = 0) := by omega
            have hmz : ¬ ((m : Int) = 0) := by omega
            have hrI : (r : Int) < K := by omega
            have hkI : (k : Int) < s.cs.length := by omega
            have hbI : (b : Int) < m := by omega
            have HCL := Lib.hid (And.intro hC (And.intro hK hB))
            have hnz : ¬ (K = 0) := by omega
            have hnc : ¬ (s.cs.length = 0) := by omega
            have hnm : ¬ (m = 0) := by omega
            have HUL := Lib.hid hul
            rw [hul]
            clear hK hC hB hKe hme hKp hmp hcp hr hk hb hr1 hk1 hb1 hx hy hv hxl hyl hvb ex ey hge hu hul
            have x0 := H63.out.2.1.at 0 (v := .slice s.a s.cs.length s.c) rfl
            have x1 := H63.out.2.1.at 1 (v := vi s.least) rfl
            go_upto_region 27 with fail
            refine wp_words (by kernel_rfl) (region_told 16 (by kernel_rfl) (by kernel_rfl) (fun W => Below w62.heap.size w62 W) newer (pickD [vIs (.slice (some ⟨gt, 0, none⟩) K cU), vIs (.int .u8 n4), vIs (vi n4), vIs (.slice (some ⟨gt, 0, none⟩) K cU), vIs (.int .i64 K), vIs (vi r), vIs (.pointer (some ⟨gt, r, none⟩)), vIs (.slice (some ⟨gx, 0, none⟩) s.cs.length x.c), vIs (.int .u8 n5), vIs (vi n5), vIs (.pointer (some ⟨w.heap.size, 0, none⟩)), vIs (.slice s.a s.cs.length s.c), vIs (.int .i64 s.cs.length), vIs (vi k), vIs (.pointer (some ⟨gx, k, none⟩)), vIs (.slice (some ⟨gy, 0, none⟩) m y.c)]) (fun h k => newer_trans h k) (pickD_stable _ ⟨vIs_st, vIs_st, vIs_st, vIs_st, vIs_st, vIs_st, vIs_st, vIs_st, vIs_st, vIs_st, vIs_st, vIs_st, vIs_st, vIs_st, vIs_st, vIs_st, trivial⟩) (Below.refl _ w62).drew (Below.refl _ _) ?_ ?_)
            ·refine ⟨?_, ?_, ?_, ?_, ?_, ?_, ?_, ?_, ?_, ?_, ?_, ?_, ?_, ?_, ?_, ?_, trivial⟩
             ·exact fun a W hG _ hO _ => kM 2 rfl (hO.slot 2 (by kernel_rfl)) rfl hG
             ·exact fun a W hG _ hO _ => kM 4 rfl (hO.slot 4 (by kernel_rfl)) rfl hG
             ·intro a W hG hR hO hp; have h140 : slotOf a 140 = .int .u8 n4 := hp.1; refine kY (v := vi n4) hG rfl ?_; simp [slotOf] at h140; simp [execOp, go_sem, h140, ew4]
             ·exact fun a W hG _ hO _ => kM 2 rfl (hO.slot 2 (by kernel_rfl)) rfl hG
             ·intro a W hG hR hO hp; have h142 : slotOf a 142 = .slice (some ⟨gt, 0, none⟩) K cU := hp.1; refine kY (v := .int .i64 K) hG rfl ?_; simp [slotOf] at h142; simp [go_sem, h142]
             ·intro a W hG hR hO hp; have h141 : slotOf a 141 = vi n4 := hp.1; have h143 : slotOf a 143 = .int .i64 K := hp.2.1; refine kY (v := vi r) hG rfl ?_; simp [slotOf] at h141 h143; simp [execOp, go_sem, h141, h143, er, hnz]
             ·intro a W hG hR hO hp; have h139 : slotOf a 139 = .slice (some ⟨gt, 0, none⟩) K cU := hp.1; have h144 : slotOf a 144 = vi r := hp.2.1; refine kY (v := .pointer (some ⟨gt, r, none⟩)) hG rfl ?_; simp [slotOf] at h139 h144; simp [execOp, go_sem, h139, h144, hrI]
             ·intro a W hG hR hO hp; have h145 : slotOf a 145 = .pointer (some ⟨gt, r, none⟩) := hp.1; have c0 := keep_cell d0 hG; refine kY (v := .slice (some ⟨gx, 0, none⟩) s.cs.length x.c) hG rfl ?_; simp [slotOf] at h145; simp [execOp, go_sem, h145, c0]
             ·exact fun a W hG _ hO _ => kM 5 rfl (hO.slot 5 (by kernel_rfl)) rfl hG
             ·intro a W hG hR hO hp; have h147 : slotOf a 147 = .int .u8 n5 := hp.1; refine kY (v := vi n5) hG rfl ?_; simp [slotOf] at h147; simp [execOp, go_sem, h147, ew5]
             ·intro a W hG hR hO hp; have h8 := hO.slot 8 (by kernel_rfl); refine kY (v := .pointer (some ⟨w.heap.size, 0, none⟩)) hG rfl ?_; simp [slotOf] at h8; simp [execOp, go_sem, h8]
             ·intro a W hG hR hO hp; have h149 : slotOf a 149 = .pointer (some ⟨w.heap.size, 0, none⟩) := hp.1; have c0 := keep_cell x0 hG; refine kY (v := .slice s.a s.cs.length s.c) hG rfl ?_; simp [slotOf] at h149; simp [execOp, go_sem, h149, c0]
             ·intro a W hG hR hO hp; have h150 : slotOf a 150 = .slice s.a s.cs.length s.c := hp.1; refine kY (v := .int .i64 s.cs.length) hG rfl ?_; simp [slotOf] at h150; simp [go_sem, h150]
             ·intro a W hG hR hO hp; have h148 : slotOf a 148 = vi n5 := hp.1; have h151 : slotOf a 151 = .int .i64 s.cs.length := hp.2.1; refine kY (v := vi k) hG rfl ?_; simp [slotOf] at h148 h151; simp [execOp, go_sem, h148, h151, ek, hnc]
             ·intro a W hG hR hO hp; have h146 : slotOf a 146 = .slice (some ⟨gx, 0, none⟩) s.cs.length x.c := hp.1; have h152 : slotOf a 152 = vi k := hp.2.1; refine kY (v := .pointer (some ⟨gx, k, none⟩)) hG rfl ?_; simp [slotOf] at h146 h152; simp [execOp, go_sem, h146, h152, hkI]
             ·intro a W hG hR hO hp; have h153 : slotOf a 153 = .pointer (some ⟨gx, k, none⟩) := hp.1; have c0 := keep_cell d1 hG; refine kY (v := .slice (some ⟨gy, 0, none⟩) m y.c) hG rfl ?_; simp [slotOf] at h153; simp [execOp, go_sem, h153, c0]
            ·intro wz27 hG hR
             rintro _ rfl _ rfl _ rfl _ rfl _ rfl _ rfl _ rfl _ rfl _ rfl _ rfl _ rfl _ rfl _ rfl _ rfl _ rfl _ rfl
             change wpList _ _ _ _ _ _
             simp only [Act.put, List.setIfInBounds_toArray, List.set_cons_zero, List.set_cons_succ, List.drop_succ_cons, List.drop_zero]
             have H64 := Lib.hid (And.intro ((newer_trans H63.out.1 hG)) (And.intro ((H63.out.2.1.below hG H63.out.2.1.lt)) (And.intro ((H63.out.2.2.1.next hG)) ((H63.out.2.2.2.next hG)))))
             clear hG hR d0 d1 er ek H63 x0 x1
             obtain ⟨gt2, gx2, gy2, _, _, fy, _, _, _, d2, fz, hpk⟩ := H64.out.2.2.2.poke HXYV.out.1 HXYV.out.2.1 HXYV.out.2.2.1
             obtain rfl : gy = gy2 := by have h := HXYV.out.2.2.2.symm.trans fy; injection h with h; injection h
             obtain ⟨uts, huts⟩ : ∃ t, t = us.set r ⟨x.ls.set k ⟨y.l.set b u, y.a, y.c⟩, x.a, x.c⟩ := ⟨_, rfl⟩
             obtain ⟨DD, hDD⟩ : ∃ D, D = uts.map Rw.d := ⟨_, rfl⟩
             have hul2 : uts.length = K := by rw [huts, List.length_set]; exact HUL.out
             have HUT : Hid (TbOk uts (some ⟨gt, 0, none⟩) (wz27.setCell ⟨gy, b, none⟩ (vi u)) /\ TbFew uts /\ uts.map Rw.d = DD) := Lib.hid ⟨by rw [huts]; exact (hpk u).ok, by rw [huts]; exact tab_few HUM.out.2 HXYV.out.1 HXYV.out.2.1 b u, hDD.symm⟩
             rw [<- hul2]
             have HGN := Lib.hid (Nat.le_of_lt HGE.out)
             clear fy hpk hDD huts hul2
             go_upto_region 29 with fail
             refine genQ (fun X => newer w X /\ Whole X w.heap.size 24 (smC s) /\ TbOk uts (some ⟨gt, 0, none⟩) X) ⟨H64.out.1.setCell (p := ⟨gy, b, none⟩) HGN.out (vi u), H64.out.2.1.far (p := ⟨gy, b, none⟩) (Nat.ne_of_lt HGE.out) (vi u), HUT.out.1⟩ ?_
             rintro w65 ⟨g0_, g1_, g2_⟩
             have H66 := Lib.hid (And.intro (g0_) (And.intro (g1_) (g2_)))
             clear g0_ g1_ g2_ d2 fz hadd hby ew4 ew5 ew6 eb H64
             have HTT : Hid (TbOk uts (some ⟨gt, 0, none⟩) w65 /\ TbFew uts /\ uts.map Rw.d = DD) := Lib.hid ⟨H66.out.2.2, HUT.out.2.1, HUT.out.2.2⟩
             clear HUT
             obtain ⟨p, hp⟩ : ∃ p, p = provO s.sd f DD := ⟨_, rfl⟩
             have HPV := Lib.hid (HPVQ.out DD p hp.symm).1
             have HPR := Lib.hid (HPVQ.out DD p hp.symm).2
             clear hp
             cases p with
             | false =>
              have x0 := H66.out.2.1.at 0 (v := .slice s.a s.cs.length s.c) rfl
              have x1 := H66.out.2.1.at 1 (v := vi s.least) rfl
              refine wp_words (by kernel_rfl) (region_told_u 14 (by kernel_rfl) (by kernel_rfl) [false, false, false, false, false, false, false, false, false, false, false, false, false, false] (fun W => Below w65.heap.size w65 W) newer [vIs (smV s), vSlo s.sd, vIs (vi f), vIs (.slice (some ⟨gt, 0, none⟩) uts.length cU), vTab DD, vIs (.bool false), vIs (smV s), vIs (vi f), vIs (.slice (some ⟨gt, 0, none⟩) uts.length cU), vIs (.bool false), vIs (.bool true), vIs (.bool true), vIs (.bool true), vIs (.bool true)] (by repeat' first | refine And.intro ?_ ?_ | exact trivial | exact rfl | (intro v W h; obtain rfl : v = _ := h; first | rfl | (simp; done) | (simp [undef]; done))) (by repeat' first | refine And.intro ?_ ?_ | exact trivial | exact (fun h => Bool.noConfusion (show false = true from h)) | exact (fun _ _ => rfl)) (fun h k => newer_trans h k) (pickD_stable _ ⟨vIs_st, vSlo_st, vIs_st, vIs_st, vTab_st, vIs_st, vIs_st, vIs_st, vIs_st, vIs_st, vIs_st, vIs_st, vIs_st, vIs_st, trivial⟩) (Below.refl _ w65).drew (Below.refl _ _) ?_ ?_)
              ·refine ⟨.inr ?_, .inr ?_, .inr ?_, .inr ?_, .inr ?_, .inr ?_, .inr ?_, .inr ?_, .inr ?_, .inr ?_, .inr ?_, .inr ?_, .inr ?_, .inr ?_, trivial⟩
               ·intro a W hG hR hO hp; have h8 := hO.slot 8 (by kernel_rfl); have c0 := keep_cell x0 hG; have c1 := keep_cell x1 hG; refine kY (v := smV s) hG rfl ?_; simp [slotOf] at h8; simp [execOp, go_sem, h8, c0, c1]
               ·intro a W hG hR hO hp
                have h167 : slotOf a 167 = smV s := hp.1
                refine wp_enters (f := 19) (args := #[smV s]) ?_ ((lawSlope s W (HOK.out.1.next (newer_trans H66.out.1 hG)) HFW.out).mono ?_)
                ·simp [slotOf] at h167
                 simp [go_sem, h167]
                ·rintro e w' ⟨s2, rfl, h1, h2, hb⟩
                 exact ⟨_, rfl, _, rfl, ⟨s2, rfl, h1, h2⟩, hb, below_next hG hb⟩
               ·exact fun a W hG _ hO _ => kM 1 rfl (hO.slot 1 (by kernel_rfl)) rfl hG
               ·exact fun a W hG _ hO _ => kM 2 rfl (hO.slot 2 (by kernel_rfl)) rfl hG
               ·intro a W hG hR hO hp
                have h170 : slotOf a 170 = .slice (some ⟨gt, 0, none⟩) uts.length cU := hp.1
                refine wp_enters (f := 52) (args := #[.slice (some ⟨gt, 0, none⟩) uts.length cU]) ?_ ((table_any _ _ _ W (HTT.out.1.next hG) HTT.out.2.1).mono ?_)
                ·simp [slotOf] at h170
                 simp [go_sem, h170]
                ·rintro e w' ⟨t2, A9, c9, rfl, h1, h2, hb⟩
                 exact ⟨_, rfl, _, rfl, ⟨t2, A9, c9, rfl, h2.ok, few_map h1 HTT.out.2.1, h1.trans HTT.out.2.2⟩, hb, below_next hG hb⟩
               ·intro a W hG hR hO hp
                have h168 := hp.1
                have h169 : slotOf a 169 = vi f := hp.2.1
                have h171 := hp.2.2.1
                obtain ⟨s2, h168, hd2, hs2⟩ := h168
                obtain ⟨t2, A9, c9, h171, ht2, hf2, hm2⟩ := h171
                have hpv := HPV.out s2 t2 A9 c9 W hd2 hs2 ht2 hf2 hm2
                refine wp_enters (f := 51) (args := #[smV s2, vi f, .slice A9 t2.length c9]) ?_ (hpv.mono ?_)
                ·simp [slotOf] at h168 h169 h171
                 simp [go_sem, h168, h169, h171]
                ·rintro e w' ⟨rfl, hb⟩
                 exact ⟨_, rfl, _, rfl, rfl, hb, below_next hG hb⟩
               ·intro a W hG hR hO hp; have h8 := hO.slot 8 (by kernel_rfl); have c0 := keep_cell x0 hG; have c1 := keep_cell x1 hG; refine kY (v := smV s) hG rfl ?_; simp [slotOf] at h8; simp [execOp, go_sem, h8, c0, c1]
               ·exact fun a W hG _ hO _ => kM 1 rfl (hO.slot 1 (by kernel_rfl)) rfl hG
               ·exact fun a W hG _ hO _ => kM 2 rfl (hO.slot 2 (by kernel_rfl)) rfl hG
               ·intro a W hG hR hO hp
                have h173 : slotOf a 173 = smV s := hp.1
                have h174 : slotOf a 174 = vi f := hp.2.1
                have h175 : slotOf a 175 = .slice (some ⟨gt, 0, none⟩) uts.length cU := hp.2.2.1
                refine wp_enters (f := 53) (args := #[smV s, vi f, .slice (some ⟨gt, 0, none⟩) uts.length cU]) ?_ ((HPR.out _ _ _ W (newer_trans H66.out.1 hG) (HTT.out.1.next hG) HTT.out.2.1 HTT.out.2.2).mono ?_)
                ·simp [slotOf] at h173 h174 h175
                 simp [go_sem, h173, h174, h175]
                ·rintro e w' ⟨rfl, hb⟩
                 exact ⟨_, rfl, _, rfl, rfl, hb, below_next hG hb⟩
               ·intro a W hG hR hO hp; have h172 : slotOf a 172 = .bool false := hp.1; have h176 : slotOf a 176 = .bool false := hp.2.1; refine kY (v := .bool true) hG rfl ?_; simp [slotOf] at h172 h176; simp [execOp, go_sem, h172, h176]
               ·exact fun a W hG _ _ hp => kM 177 rfl hp.1 rfl hG
               ·intro a W hG hR hO hp
                refine wp_enters (f := 17) (args := #[]) ?_ ((wakes_any W).mono ?_)
                ·skip
                 simp [go_sem]
                ·rintro e w' ⟨rfl, hb⟩
                 exact ⟨_, rfl, _, rfl, rfl, hb, below_next hG hb⟩
               ·intro a W hG hR hO hp; have h178 : slotOf a 178 = .bool true := hp.1; have h179 : slotOf a 179 = .bool true := hp.2.1; refine kY (v := .bool true) hG rfl ?_; simp [slotOf] at h178 h179; simp [execOp, go_sem, h178, h179]
              ·intro wz29 hG hR
               rintro _ rfl _ - _ rfl _ rfl _ - _ rfl _ rfl _ rfl _ rfl _ rfl _ rfl _ rfl _ rfl _ rfl
               change wpList _ _ _ _ _ _
               simp only [Act.put, List.setIfInBounds_toArray, List.set_cons_zero, List.set_cons_succ, List.drop_succ_cons, List.drop_zero]
               have H67 := Lib.hid (And.intro ((newer_trans H66.out.1 hG)) (And.intro ((H66.out.2.1.below hG H66.out.2.1.lt)) ((H66.out.2.2.next hG))))
               clear hG hR H66 x0 x1
               go_wp2_with fail
               go_ret
               exact ⟨rfl, H67.out.1⟩
             | true =>
              have x0 := H66.out.2.1.at 0 (v := .slice s.a s.cs.length s.c) rfl
              have x1 := H66.out.2.1.at 1 (v := vi s.least) rfl
              refine wp_words (by kernel_rfl) (region_told_u 14 (by kernel_rfl) (by kernel_rfl) [false, false, false, false, false, false, false, false, false, false, false, false, false, false] (fun W => Below w65.heap.size w65 W) newer [vIs (smV s), vSlo s.sd, vIs (vi f), vIs (.slice (some ⟨gt, 0, none⟩) uts.length cU), vTab DD, vIs (.bool true), vIs (smV s), vIs (vi f), vIs (.slice (some ⟨gt, 0, none⟩) uts.length cU), vIs (.bool true), vIs (.bool true), vIs (.bool true), vIs (.bool true), vIs (.bool true)] (by repeat' first | refine And.intro ?_ ?_ | exact trivial | exact rfl | (intro v W h; obtain rfl : v = _ := h; first | rfl | (simp; done) | (simp [undef]; done))) (by repeat' first | refine And.intro ?_ ?_ | exact trivial | exact (fun h => Bool.noConfusion (show false = true from h)) | exact (fun _ _ => rfl)) (fun h k => newer_trans h k) (pickD_stable _ ⟨vIs_st, vSlo_st, vIs_st, vIs_st, vTab_st, vIs_st, vIs_st, vIs_st, vIs_st, vIs_st, vIs_st, vIs_st, vIs_st, vIs_st, trivial⟩) (Below.refl _ w65).drew (Below.refl _ _) ?_ ?_)
              ·refine ⟨.inr ?_, .inr ?_, .inr ?_, .inr ?_, .inr ?_, .inr ?_, .inr ?_, .inr ?_, .inr ?_, .inr ?_, .inr ?_, .inr ?_, .inr ?_, .inr ?_, trivial⟩
               ·intro a W hG hR hO hp; have h8 := hO.slot 8 (by kernel_rfl); have c0 := keep_cell x0 hG; have c1 := keep_cell x1 hG; refine kY (v := smV s) hG rfl ?_; simp [slotOf] at h8; simp [execOp, go_sem, h8, c0, c1]
               ·intro a W hG hR hO hp
                have h167 : slotOf a 167 = smV s := hp.1
                refine wp_enters (f := 19) (args := #[smV s]) ?_ ((lawSlope s W (HOK.out.1.next (newer_trans H66.out.1 hG)) HFW.out).mono ?_)
                ·simp [slotOf] at h167
                 simp [go_sem, h167]
                ·rintro e w' ⟨s2, rfl, h1, h2, hb⟩
                 exact ⟨_, rfl, _, rfl, ⟨s2, rfl, h1, h2⟩, hb, below_next hG hb⟩
               ·exact fun a W hG _ hO _ => kM 1 rfl (hO.slot 1 (by kernel_rfl)) rfl hG
               ·exact fun a W hG _ hO _ => kM 2 rfl (hO.slot 2 (by kernel_rfl)) rfl hG
               ·intro a W hG hR hO hp
                have h170 : slotOf a 170 = .slice (some ⟨gt, 0, none⟩) uts.length cU := hp.1
                refine wp_enters (f := 52) (args := #[.slice (some ⟨gt, 0, none⟩) uts.length cU]) ?_ ((table_any _ _ _ W (HTT.out.1.next hG) HTT.out.2.1).mono ?_)
                ·simp [slotOf] at h170
                 simp [go_sem, h170]
                ·rintro e w' ⟨t2, A9, c9, rfl, h1, h2, hb⟩
                 exact ⟨_, rfl, _, rfl, ⟨t2, A9, c9, rfl, h2.ok, few_map h1 HTT.out.2.1, h1.trans HTT.out.2.2⟩, hb, below_next hG hb⟩
               ·intro a W hG hR hO hp
                have h168 := hp.1
                have h169 : slotOf a 169 = vi f := hp.2.1
                have h171 := hp.2.2.1
                obtain ⟨s2, h168, hd2, hs2⟩ := h168
                obtain ⟨t2, A9, c9, h171, ht2, hf2, hm2⟩ := h171
                have hpv := HPV.out s2 t2 A9 c9 W hd2 hs2 ht2 hf2 hm2
                refine wp_enters (f := 51) (args := #[smV s2, vi f, .slice A9 t2.length c9]) ?_ (hpv.mono ?_)
                ·simp [slotOf] at h168 h169 h171
                 simp [go_sem, h168, h169, h171]
                ·rintro e w' ⟨rfl, hb⟩
                 exact ⟨_, rfl, _, rfl, rfl, hb, below_next hG hb⟩
               ·intro a W hG hR hO hp; have h8 := hO.slot 8 (by kernel_rfl); have c0 := keep_cell x0 hG; have c1 := keep_cell x1 hG; refine kY (v := smV s) hG rfl ?_; simp [slotOf] at h8; simp [execOp, go_sem, h8, c0, c1]
               ·exact fun a W hG _ hO _ => kM 1 rfl (hO.slot 1 (by kernel_rfl)) rfl hG
               ·exact fun a W hG _ hO _ => kM 2 rfl (hO.slot 2 (by kernel_rfl)) rfl hG
               ·intro a W hG hR hO hp
                have h173 : slotOf a 173 = smV s := hp.1
                have h174 : slotOf a 174 = vi f := hp.2.1
                have h175 : slotOf a 175 = .slice (some ⟨gt, 0, none⟩) uts.length cU := hp.2.2.1
                refine wp_enters (f := 53) (args := #[smV s, vi f, .slice (some ⟨gt, 0, none⟩) uts.length cU]) ?_ ((HPR.out _ _ _ W (newer_trans H66.out.1 hG) (HTT.out.1.next hG) HTT.out.2.1 HTT.out.2.2).mono ?_)
                ·simp [slotOf] at h173 h174 h175
                 simp [go_sem, h173, h174, h175]
                ·rintro e w' ⟨rfl, hb⟩
                 exact ⟨_, rfl, _, rfl, rfl, hb, below_next hG hb⟩
               ·intro a W hG hR hO hp; have h172 : slotOf a 172 = .bool true := hp.1; have h176 : slotOf a 176 = .bool true := hp.2.1; refine kY (v := .bool true) hG rfl ?_; simp [slotOf] at h172 h176; simp [execOp, go_sem, h172, h176]
               ·exact fun a W hG _ _ hp => kM 177 rfl hp.1 rfl hG
               ·intro a W hG hR hO hp
                refine wp_enters (f := 17) (args := #[]) ?_ ((wakes_any W).mono ?_)
                ·skip
                 simp [go_sem]
                ·rintro e w' ⟨rfl, hb⟩
                 exact ⟨_, rfl, _, rfl, rfl, hb, below_next hG hb⟩
               ·intro a W hG hR hO hp; have h178 : slotOf a 178 = .bool true := hp.1; have h179 : slotOf a 179 = .bool true := hp.2.1; refine kY (v := .bool true) hG rfl ?_; simp [slotOf] at h178 h179; simp [execOp, go_sem, h178, h179]
              ·intro wz29 hG hR
               rintro _ rfl _ - _ rfl _ rfl _ - _ rfl _ rfl _ rfl _ rfl _ rfl _ rfl _ rfl _ rfl _ rfl
               change wpList _ _ _ _ _ _
               simp only [Act.put, List.setIfInBounds_toArray, List.set_cons_zero, List.set_cons_succ, List.drop_succ_cons, List.drop_zero]
               have H68 := Lib.hid (And.intro ((newer_trans H66.out.1 hG)) (And.intro ((H66.out.2.1.below hG H66.out.2.1.lt)) ((H66.out.2.2.next hG))))
               clear hG hR H66 x0 x1
               go_wp2_with fail
               go_ret
               exact ⟨rfl, H68.out.1⟩
        | true =>
         have x0 := H57.out.2.1.at 0 (v := .slice s.a s.cs.length s.c) rfl
         have x1 := H57.out.2.1.at 1 (v := vi s.least) rfl
         go_upto_region 20 with fail
         refine wp_words (by kernel_rfl) (region_told_u 24 (by kernel_rfl) (by kernel_rfl) [false, false, false, true, true, true, true, true, true, true, false, false, false, false, false, false, false, false, false, false, false, false, false, false] (fun W => Below w56.heap.size w56 W) newer [vIs (vi 0), vIs (.bool false), vIs (.bool false), vIs (undef), vIs (undef), vIs (undef), vIs (undef), vIs (undef), vIs (undef), vIs (undef), vIs (.bool false), vIs (.bool false), vIs (smV s), vIs (.bool true), vIs (.bool true), vIs (vi 0), vIs (.bool true), vIs (smV s), vIs (smV s), vAll s, vIs (vi f), vIs (.bool true), vIs (.bool false), vIs (.bool false)] (by repeat' first | refine And.intro ?_ ?_ | exact trivial | exact rfl | (intro v W h; obtain rfl : v = _ := h; first | rfl | (simp; done) | (simp [undef]; done))) (by repeat' first | refine And.intro ?_ ?_ | exact trivial | exact (fun h => Bool.noConfusion (show false = true from h)) | exact (fun _ _ => rfl)) (fun h k => newer_trans h k) (pickD_stable _ ⟨vIs_st, vIs_st, vIs_st, vIs_st, vIs_st, vIs_st, vIs_st, vIs_st, vIs_st, vIs_st, vIs_st, vIs_st, vIs_st, vIs_st, vIs_st, vIs_st, vIs_st, vIs_st, vIs_st, vAll_st, vIs_st, vIs_st, vIs_st, vIs_st, trivial⟩) (Below.refl _ w56).drew (Below.refl _ _) ?_ ?_)
         ·refine ⟨.inr ?_, .inr ?_, .inr ?_, .inl rfl, .inl rfl, .inl rfl, .inl rfl, .inl rfl, .inl rfl, .inl rfl, .inr ?_, .inr ?_, .inr ?_, .inr ?_, .inr ?_, .inr ?_, .inr ?_, .inr ?_, .inr ?_, .inr ?_, .inr ?_, .inr ?_, .inr ?_, .inr ?_, trivial⟩
          ·exact fun a W hG _ hO _ => kM 20 rfl (hO.slot 20 (by kernel_rfl)) rfl hG
          ·intro a W hG hR hO hp; have h103 : slotOf a 103 = vi 0 := hp.1; refine kY (v := .bool false) hG rfl ?_; simp [slotOf] at h103; simp [execOp, go_sem, h103]
          ·exact fun a W hG _ _ hp => kM 104 rfl hp.1 rfl hG
          ·intro a W hG hR hO hp; have h105 : slotOf a 105 = .bool false := hp.1; have h112 : slotOf a 112 = undef := hp.2.1; refine kY (v := .bool false) hG rfl ?_; simp [slotOf] at h105 h112; simp [execOp, go_sem, h105, h112]
          ·exact fun a W hG _ _ hp => kM 113 rfl hp.1 rfl hG
          ·intro a W hG hR hO hp; have h8 := hO.slot 8 (by kernel_rfl); have c0 := keep_cell x0 hG; have c1 := keep_cell x1 hG; refine kY (v := smV s) hG rfl ?_; simp [slotOf] at h8; simp [execOp, go_sem, h8, c0, c1]
          ·intro a W hG hR hO hp
           have h115 : slotOf a 115 = smV s := hp.1
           refine wp_enters (f := 24) (args := #[smV s]) ?_ ((HFE.out W (newer_trans H57.out.1 hG)).mono ?_)
           ·simp [slotOf] at h115
            simp [go_sem, h115]
           ·rintro e w' ⟨rfl, hb⟩
            exact ⟨_, rfl, _, rfl, rfl, hb, below_next hG hb⟩
          ·exact fun a W hG _ _ hp => kM 116 rfl hp.1 rfl hG
          ·exact fun a W hG _ hO _ => kM 20 rfl (hO.slot 20 (by kernel_rfl)) rfl hG
          ·intro a W hG hR hO hp; have h118 : slotOf a 118 = vi 0 := hp.1; refine kY (v := .bool true) hG rfl ?_; simp [slotOf] at h118; simp [execOp, go_sem, h118]
          ·intro a W hG hR hO hp; have h8 := hO.slot 8 (by kernel_rfl); have c0 := keep_cell x0 hG; have c1 := keep_cell x1 hG; refine kY (v := smV s) hG rfl ?_; simp [slotOf] at h8; simp [execOp, go_sem, h8, c0, c1]
          ·intro a W hG hR hO hp; have h8 := hO.slot 8 (by kernel_rfl); have c0 := keep_cell x0 hG; have c1 := keep_cell x1 hG; refine kY (v := smV s) hG rfl ?_; simp [slotOf] at h8; simp [execOp, go_sem, h8, c0, c1]
          ·intro a W hG hR hO hp
           have h121 : slotOf a 121 = smV s := hp.1
           refine wp_enters (f := 28) (args := #[smV s]) ?_ ((all_in s W (HOK.out.1.next (newer_trans H57.out.1 hG)) HSD.out.1).mono ?_)
           ·simp [slotOf] at h121
            simp [go_sem, h121]
           ·rintro e w' ⟨us, A9, c9, rfl, h1, hb⟩
            exact ⟨_, rfl, _, rfl, ⟨us, A9, c9, rfl, h1⟩, hb, below_next hG hb⟩
          ·exact fun a W hG _ hO _ => kM 1 rfl (hO.slot 1 (by kernel_rfl)) rfl hG
          ·intro a W hG hR hO hp
           have h120 : slotOf a 120 = smV s := hp.1
           have h122 := hp.2.1
           have h123 : slotOf a 123 = vi f := hp.2.2.1
           obtain ⟨us, A9, c9, h122, ha⟩ := h122
           refine wp_enters (f := 33) (args := #[smV s, .slice A9 us.length c9, vi f]) ?_ ((HBE.out us A9 c9 W (newer_trans H57.out.1 hG) ha).mono ?_)
           ·simp [slotOf] at h120 h122 h123
            simp [go_sem, h120, h122, h123]
           ·rintro e w' ⟨rfl, hb⟩
            exact ⟨_, rfl, _, rfl, rfl, hb, below_next hG hb⟩
          ·intro a W hG hR hO hp; have h119 : slotOf a 119 = .bool true := hp.1; have h124 : slotOf a 124 = .bool true := hp.2.1; refine kY (v := .bool false) hG rfl ?_; simp [slotOf] at h119 h124; simp [execOp, go_sem, h119, h124]
          ·intro a W hG hR hO hp; have h117 : slotOf a 117 = .bool true := hp.1; have h125 : slotOf a 125 = .bool false := hp.2.1; refine kY (v := .bool false) hG rfl ?_; simp [slotOf] at h117 h125; simp [execOp, go_sem, h117, h125]
         ·intro wz20 hG hR
          rintro _ rfl _ rfl _ rfl _ rfl _ rfl _ rfl _ rfl _ rfl _ rfl _ rfl _ rfl _ rfl _ rfl _ rfl _ rfl _ rfl _ rfl _ rfl _ rfl _ - _ rfl _ rfl _ rfl _ rfl
          change wpList _ _ _ _ _ _
          simp only [Act.put, List.setIfInBounds_toArray, List.set_cons_zero, List.set_cons_succ, List.drop_succ_cons, List.drop_zero]
          have H69 := Lib.hid (And.intro ((newer_trans H57.out.1 hG)) (And.intro ((H57.out.2.1.below hG H57.out.2.1.lt)) ((H57.out.2.2.next hG))))
          clear hG hR HFE HBE H57 x0 x1
          have x0 := H69.out.2.1.at 0 (v := .slice s.a s.cs.length s.c) rfl
          have x1 := H69.out.2.1.at 1 (v := vi s.least) rfl
          have HXT : Hid (TbOk xs XA wz20 /\ TbFew xs /\ xs.map Rw.d = tabD s.sd f) := Lib.hid ⟨H69.out.2.2, HXM.out.2, HXM.out.1⟩
          have HPX := Lib.hid (HPVQ.out _ true HTP.out).2
          go_upto_region 23 with fail
          refine wp_words (by kernel_rfl) (region_told 5 (by kernel_rfl) (by kernel_rfl) (fun W => Below wz20.heap.size wz20 W) newer (pickD [vIs (smV s), vIs (vi f), vIs (.slice XA xs.length Xc), vTab (tabD s.sd f), vIs (.bool true)]) (fun h k => newer_trans h k) (pickD_stable _ ⟨vIs_st, vIs_st, vIs_st, vTab_st, vIs_st, trivial⟩) (Below.refl _ wz20).drew (Below.refl _ _) ?_ ?_)
          ·refine ⟨?_, ?_, ?_, ?_, ?_, trivial⟩
           ·intro a W hG hR hO hp; have h8 := hO.slot 8 (by kernel_rfl); have c0 := keep_cell x0 hG; have c1 := keep_cell x1 hG; refine kY (v := smV s) hG rfl ?_; simp [slotOf] at h8; simp [execOp, go_sem, h8, c0, c1]
           ·exact fun a W hG _ hO _ => kM 1 rfl (hO.slot 1 (by kernel_rfl)) rfl hG
           ·exact fun a W hG _ hO _ => kM 19 rfl (hO.slot 19 (by kernel_rfl)) rfl hG
           ·intro a W hG hR hO hp
            have h132 : slotOf a 132 = .slice XA xs.length Xc := hp.1
            refine wp_enters (f := 52) (args := #[.slice XA xs.length Xc]) ?_ ((table_any _ _ _ W (HXT.out.1.next hG) HXT.out.2.1).mono ?_)
            ·simp [slotOf] at h132
             simp [go_sem, h132]
            ·rintro e w' ⟨t2, A9, c9, rfl, h1, h2, hb⟩
             exact ⟨_, rfl, _, rfl, ⟨t2, A9, c9, rfl, h2.ok, few_map h1 HXT.out.2.1, h1.trans HXT.out.2.2⟩, hb, below_next hG hb⟩
           ·intro a W hG hR hO hp
            have h130 : slotOf a 130 = smV s := hp.1
            have h131 : slotOf a 131 = vi f := hp.2.1
            have h133 := hp.2.2.1
            obtain ⟨t2, A9, c9, h133, ht2, hf2, hm2⟩ := h133
            refine wp_enters (f := 53) (args := #[smV s, vi f, .slice A9 t2.length c9]) ?_ ((HPX.out t2 A9 c9 W (newer_trans H69.out.1 hG) ht2 hf2 hm2).mono ?_)
            ·simp [slotOf] at h130 h131 h133
             simp [go_sem, h130, h131, h133]
            ·rintro e w' ⟨rfl, hb⟩
             exact ⟨_, rfl, _, rfl, rfl, hb, below_next hG hb⟩
          ·intro wz23 hG hR
           rintro _ rfl _ rfl _ rfl _ - _ rfl
           change wpList _ _ _ _ _ _
           simp only [Act.put, List.setIfInBounds_toArray, List.set_cons_zero, List.set_cons_succ, List.drop_succ_cons, List.drop_zero]
           have H70 := Lib.hid (And.intro ((newer_trans H69.out.1 hG)) (And.intro ((H69.out.2.1.below hG H69.out.2.1.lt)) ((H69.out.2.2.next hG))))
           clear hG hR HXT HPX H69 x0 x1
           have x0 := H70.out.2.1.at 0 (v := .slice s.a s.cs.length s.c) rfl
           have x1 := H70.out.2.1.at 1 (v := vi s.least) rfl
           cases ow with
           | false =>
            obtain ⟨DD, hDD⟩ : ∃ D, D = ts.map Rw.d := ⟨_, rfl⟩
            have HTT : Hid (TbOk ts A wz23 /\ TbFew ts /\ ts.map Rw.d = DD) := Lib.hid ⟨HOK.out.2.next H70.out.1, HTF.out, hDD.symm⟩
            clear hDD
            obtain ⟨p, hp⟩ : ∃ p, p = provO s.sd f DD := ⟨_, rfl⟩
            have HPV := Lib.hid (HPVQ.out DD p hp.symm).1
            have HPR := Lib.hid (HPVQ.out DD p hp.symm).2
            clear hp
            cases p with
            | false =>
             have x0 := H70.out.2.1.at 0 (v := .slice s.a s.cs.length s.c) rfl
             have x1 := H70.out.2.1.at 1 (v := vi s.least) rfl
             go_upto_region 29 with fail
             refine wp_words (by kernel_rfl) (region_told_u 14 (by kernel_rfl) (by kernel_rfl) [false, false, false, false, false, false, false, false, false, false, false, false, false, false] (fun W => Below wz23.heap.size wz23 W) newer [vIs (smV s), vSlo s.sd, vIs (vi f), vIs (.slice A ts.length cA), vTab DD, vIs (.bool false), vIs (smV s), vIs (vi f), vIs (.slice A ts.length cA), vIs (.bool false), vIs (.bool true), vIs (.bool true), vIs (.bool true), vIs (.bool true)] (by repeat' first | refine And.intro ?_ ?_ | exact trivial | exact rfl | (intro v W h; obtain rfl : v = _ := h; first | rfl | (simp; done) | (simp [undef]; done))) (by repeat' first | refine And.intro ?_ ?_ | exact trivial | exact (fun h => Bool.noConfusion (show false = true from h)) | exact (fun _ _ => rfl)) (fun h k => newer_trans h k) (pickD_stable _ ⟨vIs_st, vSlo_st, vIs_st, vIs_st, vTab_st, vIs_st, vIs_st, vIs_st, vIs_st, vIs_st, vIs_st, vIs_st, vIs_st, vIs_st, trivial⟩) (Below.refl _ wz23).drew (Below.refl _ _) ?_ ?_)
             ·refine ⟨.inr ?_, .inr ?_, .inr ?_, .inr ?_, .inr ?_, .inr ?_, .inr ?_, .inr ?_, .inr ?_, .inr ?_, .inr ?_, .inr ?_, .inr ?_, .inr ?_, trivial⟩
              ·intro a W hG hR hO hp; have h8 := hO.slot 8 (by kernel_rfl); have c0 := keep_cell x0 hG; have c1 := keep_cell x1 hG; refine kY (v := smV s) hG rfl ?_; simp [slotOf] at h8; simp [execOp, go_sem, h8, c0, c1]
              ·intro a W hG hR hO hp
               have h167 : slotOf a 167 = smV s := hp.1
               refine wp_enters (f := 19) (args := #[smV s]) ?_ ((lawSlope s W (HOK.out.1.next (newer_trans H70.out.1 hG)) HFW.out).mono ?_)
               ·simp [slotOf] at h167
                simp [go_sem, h167]
               ·rintro e w' ⟨s2, rfl, h1, h2, hb⟩
                exact ⟨_, rfl, _, rfl, ⟨s2, rfl, h1, h2⟩, hb, below_next hG hb⟩
              ·exact fun a W hG _ hO _ => kM 1 rfl (hO.slot 1 (by kernel_rfl)) rfl hG
              ·exact fun a W hG _ hO _ => kM 2 rfl (hO.slot 2 (by kernel_rfl)) rfl hG
              ·intro a W hG hR hO hp
               have h170 : slotOf a 170 = .slice A ts.length cA := hp.1
               refine wp_enters (f := 52) (args := #[.slice A ts.length cA]) ?_ ((table_any _ _ _ W (HTT.out.1.next hG) HTT.out.2.1).mono ?_)
               ·simp [slotOf] at h170
                simp [go_sem, h170]
               ·rintro e w' ⟨t2, A9, c9, rfl, h1, h2, hb⟩
                exact ⟨_, rfl, _, rfl, ⟨t2, A9, c9, rfl, h2.ok, few_map h1 HTT.out.2.1, h1.trans HTT.out.2.2⟩, hb, below_next hG hb⟩
              ·intro a W hG hR hO hp
               have h168 := hp.1
               have h169 : slotOf a 169 = vi f := hp.2.1
               have h171 := hp.2.2.1
               obtain ⟨s2, h168, hd2, hs2⟩ := h168
               obtain ⟨t2, A9, c9, h171, ht2, hf2, hm2⟩ := h171
               have hpv := HPV.out s2 t2 A9 c9 W hd2 hs2 ht2 hf2 hm2
               refine wp_enters (f := 51) (args := #[smV s2, vi f, .slice A9 t2.length c9]) ?_ (hpv.mono ?_)
               ·simp [slotOf] at h168 h169 h171
                simp [go_sem, h168, h169, h171]
               ·rintro e w' ⟨rfl, hb⟩
                exact ⟨_, rfl, _, rfl, rfl, hb, below_next hG hb⟩
              ·intro a W hG hR hO hp; have h8 := hO.slot 8 (by kernel_rfl); have c0 := keep_cell x0 hG; have c1 := keep_cell x1 hG; refine kY (v := smV s) hG rfl ?_; simp [slotOf] at h8; simp [execOp, go_sem, h8, c0, c1]
              ·exact fun a W hG _ hO _ => kM 1 rfl (hO.slot 1 (by kernel_rfl)) rfl hG
              ·exact fun a W hG _ hO _ => kM 2 rfl (hO.slot 2 (by kernel_rfl)) rfl hG
              ·intro a W hG hR hO hp
               have h173 : slotOf a 173 = smV s := hp.1
               have h174 : slotOf a 174 = vi f := hp.2.1
               have h175 : slotOf a 175 = .slice A ts.length cA := hp.2.2.1
               refine wp_enters (f := 53) (args := #[smV s, vi f, .slice A ts.length cA]) ?_ ((HPR.out _ _ _ W (newer_trans H70.out.1 hG) (HTT.out.1.next hG) HTT.out.2.1 HTT.out.2.2).mono ?_)
               ·simp [slotOf] at h173 h174 h175
                simp [go_sem, h173, h174, h175]
               ·rintro e w' ⟨rfl, hb⟩
                exact ⟨_, rfl, _, rfl, rfl, hb, below_next hG hb⟩
              ·intro a W hG hR hO hp; have h172 : slotOf a 172 = .bool false := hp.1; have h176 : slotOf a 176 = .bool false := hp.2.1; refine kY (v := .bool true) hG rfl ?_; simp [slotOf] at h172 h176; simp [execOp, go_sem, h172, h176]
              ·exact fun a W hG _ _ hp => kM 177 rfl hp.1 rfl hG
              ·intro a W hG hR hO hp
               refine wp_enters (f := 17) (args := #[]) ?_ ((wakes_any W).mono ?_)
               ·skip
                simp [go_sem]
               ·rintro e w' ⟨rfl, hb⟩
                exact ⟨_, rfl, _, rfl, rfl, hb, below_next hG hb⟩
              ·intro a W hG hR hO hp; have h178 : slotOf a 178 = .bool true := hp.1; have h179 : slotOf a 179 = .bool true := hp.2.1; refine kY (v := .bool true) hG rfl ?_; simp [slotOf] at h178 h179; simp [execOp, go_sem, h178, h179]
             ·intro wz29 hG hR
              rintro _ rfl _ - _ rfl _ rfl _ - _ rfl _ rfl _ rfl _ rfl _ rfl _ rfl _ rfl _ rfl _ rfl
              change wpList _ _ _ _ _ _
              simp only [Act.put, List.setIfInBounds_toArray, List.set_cons_zero, List.set_cons_succ, List.drop_succ_cons, List.drop_zero]
              have H71 := Lib.hid (And.intro ((newer_trans H70.out.1 hG)) (And.intro ((H70.out.2.1.below hG H70.out.2.1.lt)) ((H70.out.2.2.next hG))))
              clear hG hR H70 x0 x1
              go_wp2_with fail
              go_ret
              exact ⟨rfl, H71.out.1⟩
            | true =>
             have x0 := H70.out.2.1.at 0 (v := .slice s.a s.cs.length s.c) rfl
             have x1 := H70.out.2.1.at 1 (v := vi s.least) rfl
             go_upto_region 29 with fail
             refine wp_words (by kernel_rfl) (region_told_u 14 (by kernel_rfl) (by kernel_rfl) [false, false, false, false, false, false, false, false, false, false, false, false, false, false] (fun W => Below wz23.heap.size wz23 W) newer [vIs (smV s), vSlo s.sd, vIs (vi f), vIs (.slice A ts.length cA), vTab DD, vIs (.bool true), vIs (smV s), vIs (vi f), vIs (.slice A ts.length cA), vIs (.bool true), vIs (.bool true), vIs (.bool true), vIs (.bool true), vIs (.bool true)] (by repeat' first | refine And.intro ?_ ?_ | exact trivial | exact rfl | (intro v W h; obtain rfl : v = _ := h; first | rfl | (simp; done) | (simp [undef]; done))) (by repeat' first | refine And.intro ?_ ?_ | exact trivial | exact (fun h => Bool.noConfusion (show false = true from h)) | exact (fun _ _ => rfl)) (fun h k => newer_trans h k) (pickD_stable _ ⟨vIs_st, vSlo_st, vIs_st, vIs_st, vTab_st, vIs_st, vIs_st, vIs_st, vIs_st, vIs_st, vIs_st, vIs_st, vIs_st, vIs_st, trivial⟩) (Below.refl _ wz23).drew (Below.refl _ _) ?_ ?_)
             ·refine ⟨.inr ?_, .inr ?_, .inr ?_, .inr ?_, .inr ?_, .inr ?_, .inr ?_, .inr ?_, .inr ?_, .inr ?_, .inr ?_, .inr ?_, .inr ?_, .inr ?_, trivial⟩
              ·intro a W hG hR hO hp; have h8 := hO.slot 8 (by kernel_rfl); have c0 := keep_cell x0 hG; have c1 := keep_cell x1 hG; refine kY (v := smV s) hG rfl ?_; simp [slotOf] at h8; simp [execOp, go_sem, h8, c0, c1]
              ·intro a W hG hR hO hp
               have h167 : slotOf a 167 = smV s := hp.1
               refine wp_enters (f := 19) (args := #[smV s]) ?_ ((lawSlope s W (HOK.out.1.next (newer_trans H70.out.1 hG)) HFW.out).mono ?_)
               ·simp [slotOf] at h167
                simp [go_sem, h167]
               ·rintro e w' ⟨s2, rfl, h1, h2, hb⟩
                exact ⟨_, rfl, _, rfl, ⟨s2, rfl, h1, h2⟩, hb, below_next hG hb⟩
              ·exact fun a W hG _ hO _ => kM 1 rfl (hO.slot 1 (by kernel_rfl)) rfl hG
              ·exact fun a W hG _ hO _ => kM 2 rfl (hO.slot 2 (by kernel_rfl)) rfl hG
              ·intro a W hG hR hO hp
               have h170 : slotOf a 170 = .slice A ts.length cA := hp.1
               refine wp_enters (f := 52) (args := #[.slice A ts.length cA]) ?_ ((table_any _ _ _ W (HTT.out.1.next hG) HTT.out.2.1).mono ?_)
               ·simp [slotOf] at h170
                simp [go_sem, h170]
               ·rintro e w' ⟨t2, A9, c9, rfl, h1, h2, hb⟩
                exact ⟨_, rfl, _, rfl, ⟨t2, A9, c9, rfl, h2.ok, few_map h1 HTT.out.2.1, h1.trans HTT.out.2.2⟩, hb, below_next hG hb⟩
              ·intro a W hG hR hO hp
               have h168 := hp.1
               have h169 : slotOf a 169 = vi f := hp.2.1
               have h171 := hp.2.2.1
               obtain ⟨s2, h168, hd2, hs2⟩ := h168
               obtain ⟨t2, A9, c9, h171, ht2, hf2, hm2⟩ := h171
               have hpv := HPV.out s2 t2 A9 c9 W hd2 hs2 ht2 hf2 hm2
               refine wp_enters (f := 51) (args := #[smV s2, vi f, .slice A9 t2.length c9]) ?_ (hpv.mono ?_)
               ·simp [slotOf] at h168 h169 h171
                simp [go_sem, h168, h169, h171]
               ·rintro e w' ⟨rfl, hb⟩
                exact ⟨_, rfl, _, rfl, rfl, hb, below_next hG hb⟩
              ·intro a W hG hR hO hp; have h8 := hO.slot 8 (by kernel_rfl); have c0 := keep_cell x0 hG; have c1 := keep_cell x1 hG; refine kY (v := smV s) hG rfl ?_; simp [slotOf] at h8; simp [execOp, go_sem, h8, c0, c1]
              ·exact fun a W hG _ hO _ => kM 1 rfl (hO.slot 1 (by kernel_rfl)) rfl hG
              ·exact fun a W hG _ hO _ => kM 2 rfl (hO.slot 2 (by kernel_rfl)) rfl hG
              ·intro a W hG hR hO hp
               have h173 : slotOf a 173 = smV s := hp.1
               have h174 : slotOf a 174 = vi f := hp.2.1
               have h175 : slotOf a 175 = .slice A ts.length cA := hp.2.2.1
               refine wp_enters (f := 53) (args := #[smV s, vi f, .slice A ts.length cA]) ?_ ((HPR.out _ _ _ W (newer_trans H70.out.1 hG) (HTT.out.1.next hG) HTT.out.2.1 HTT.out.2.2).mono ?_)
               ·simp [slotOf] at h173 h174 h175
                simp [go_sem, h173, h174, h175]
               ·rintro e w' ⟨rfl, hb⟩
                exact ⟨_, rfl, _, rfl, rfl, hb, below_next hG hb⟩
              ·intro a W hG hR hO hp; have h172 : slotOf a 172 = .bool true := hp.1; have h176 : slotOf a 176 = .bool true := hp.2.1; refine kY (v := .bool true) hG rfl ?_; simp [slotOf] at h172 h176; simp [execOp, go_sem, h172, h176]
              ·exact fun a W hG _ _ hp => kM 177 rfl hp.1 rfl hG
              ·intro a W hG hR hO hp
               refine wp_enters (f := 17) (args := #[]) ?_ ((wakes_any W).mono ?_)
               ·skip
                simp [go_sem]
               ·rintro e w' ⟨rfl, hb⟩
                exact ⟨_, rfl, _, rfl, rfl, hb, below_next hG hb⟩
              ·intro a W hG hR hO hp; have h178 : slotOf a 178 = .bool true := hp.1; have h179 : slotOf a 179 = .bool true := hp.2.1; refine kY (v := .bool true) hG rfl ?_; simp [slotOf] at h178 h179; simp [execOp, go_sem, h178, h179]
             ·intro wz29 hG hR
              rintro _ rfl _ - _ rfl _ rfl _ - _ rfl _ rfl _ rfl _ rfl _ rfl _ rfl _ rfl _ rfl _ rfl
              change wpList _ _ _ _ _ _
              simp only [Act.put, List.setIfInBounds_toArray, List.set_cons_zero, List.set_cons_succ, List.drop_succ_cons, List.drop_zero]
              have H72 := Lib.hid (And.intro ((newer_trans H70.out.1 hG)) (And.intro ((H70.out.2.1.below hG H70.out.2.1.lt)) ((H70.out.2.2.next hG))))
              clear hG hR H70 x0 x1
              go_wp2_with fail
              go_ret
              exact ⟨rfl, H72.out.1⟩
           | true =>
            go_wp2_with fail
            refine (table_any xs XA Xc _ H70.out.2.2 HXM.out.2).mono ?_
            rintro e w73 ⟨us, UA, cU, rfl, hud, huo, hb⟩
            have HUM := Lib.hid (And.intro (hud.trans HXM.out.1) (few_map hud HXM.out.2))
            have HBW := Lib.hid H70.out.2.1.lt
            have H74 := Lib.hid (And.intro ((newer_trans H70.out.1 hb)) (And.intro ((H70.out.2.1.below hb H70.out.2.1.lt)) (And.intro ((H70.out.2.2.next hb)) (huo))))
            clear hb hud huo H70 x0 x1
            have hK := HSD.out.1.least
            have hC := HSD.out.1.cols
            have hB := HSD.out.1.beds
            rw [sd_len] at hC
            obtain ⟨K, hKe⟩ : ∃ K, K = s.sd.K := ⟨_, rfl⟩
            obtain ⟨m, hme⟩ : ∃ m, m = s.sd.n := ⟨_, rfl⟩
            have hKp : 0 < K := by rw [hKe]; unfold Sd.K; omega
            have hmp : 0 < m := by rw [hme]; exact hB.1
            have hcp : 0 < s.cs.length := by omega
            obtain ⟨r, hr⟩ : ∃ r, r = n4 % K := ⟨_, rfl⟩
            obtain ⟨k, hk⟩ : ∃ k, k = n5 % s.cs.length := ⟨_, rfl⟩
            obtain ⟨b, hb⟩ : ∃ b, b = n6 % m := ⟨_, rfl⟩
            have hr1 : r < K := by rw [hr]; exact Nat.mod_lt _ hKp
            have hk1 : k < s.cs.length := by rw [hk]; exact Nat.mod_lt _ hcp
            have hb1 : b < m := by rw [hb]; exact Nat.mod_lt _ hmp
            have er : (n4 : Int).tmod K = r := by rw [hr]; exact rem_natP _ _
            have ek : (n5 : Int).tmod s.cs.length = k := by rw [hk]; exact rem_natP _ _
            have eb : (n6 : Int).tmod m = b := by rw [hb]; exact rem_natP _ _
            obtain ⟨x, y, v, hx, hy, hv, hul, hxl, hyl, hvb⟩ := tab_get HTP.out HUM.out.1 (hKe ▸ hr1) hk1 (hme ▸ hb1)
            rw [<- hKe] at hul
            rw [<- hme] at hyl
            obtain ⟨gt, gx, gy, eA, ex, ey, hge, d0, d1, _, _, _⟩ := H74.out.2.2.2.poke hx hy hv
            subst eA
            rw [ex, hxl] at d0
            rw [ey, hyl] at d1
            obtain ⟨u, hu⟩ : ∃ u, u = v + by_ := ⟨_, rfl⟩
            have hadd : IntKind.i64.wrap (v + by_) = u := by rw [hu]; have := HBY.out; exact IntWalk.i64_in _ (by omega)
            have hby : IntKind.i64.wrap by_ = by_ := by have := HBY.out; exact IntWalk.i64_in _ (by omega)
            have ew4 : IntKind.i64.wrap (n4 : Int) = n4 := IntWalk.i64_in _ (by omega)
            have ew5 : IntKind.i64.wrap (n5 : Int) = n5 := IntWalk.i64_in _ (by omega)
            have ew6 : IntKind.i64.wrap (n6 : Int) = n6 := IntWalk.i64_in _ (by omega)
            have HXYV := Lib.hid (And.intro hx (And.intro hy (And.intro hv ey)))
            have HGE : Hid (w.heap.size < gy) := Lib.hid (by have := HBW.out; omega)
            have hKz : ¬ ((K : Int) = 0) := by omega
            have hcz : ¬ ((s.cs.length : Int) = 0) := by omega
            have hmz : ¬ ((m : Int) = 0) := by omega
            have hrI : (r : Int) < K := by omega
            have hkI : (k : Int) < s.cs.length := by omega
            have hbI : (b : Int) < m := by omega
            have HCL := Lib.hid (And.intro hC (And.intro hK hB))
            have hnz : ¬ (K = 0) := by omega
            have hnc : ¬ (s.cs.length = 0) := by omega
            have hnm : ¬ (m = 0) := by omega
            have HUL := Lib.hid hul
            rw [hul]
            clear hK hC hB hKe hme hKp hmp hcp hr hk hb hr1 hk1 hb1 hx hy hv hxl hyl hvb ex ey hge hu hul
            have x0 := H74.out.2.1.at 0 (v := .slice s.a s.cs.length s.c) rfl
            have x1 := H74.out.2.1.at 1 (v := vi s.least) rfl
            go_upto_region 27 with fail
            refine wp_words (by kernel_rfl) (region_told 16 (by kernel_rfl) (by kernel_rfl) (fun W => Below w73.heap.size w73 W) newer (pickD [vIs (.slice (some ⟨gt, 0, none⟩) K cU), vIs (.int .u8 n4), vIs (vi n4), vIs (.slice (some ⟨gt, 0, none⟩) K cU), vIs (.int .i64 K), vIs (vi r), vIs (.pointer (some ⟨gt, r, none⟩)), vIs (.slice (some ⟨gx, 0, none⟩) s.cs.length x.c), vIs (.int .u8 n5), vIs (vi n5), vIs (.pointer (some ⟨w.heap.size, 0, none⟩)), vIs (.slice s.a s.cs.length s.c), vIs (.int .i64 s.cs.length), vIs (vi k), vIs (.pointer (some ⟨gx, k, none⟩)), vIs (.slice (some ⟨gy, 0, none⟩) m y.c)]) (fun h k => newer_trans h k) (pickD_stable _ ⟨vIs_st, vIs_st, vIs_st, vIs_st, vIs_st, vIs_st, vIs_st, vIs_st, vIs_st, vIs_st, vIs_st, vIs_st, vIs_st, vIs_st, vIs_st, vIs_st, trivial⟩) (Below.refl _ w73).drew (Below.refl _ _) ?_ ?_)
            ·refine ⟨?_, ?_, ?_, ?_, ?_, ?_, ?_, ?_, ?_, ?_, ?_, ?_, ?_, ?_, ?_, ?_, trivial⟩
             ·exact fun a W hG _ hO _ => kM 2 rfl (hO.slot 2 (by kernel_rfl)) rfl hG
             ·exact fun a W hG _ hO _ => kM 4 rfl (hO.slot 4 (by kernel_rfl)) rfl hG
             ·intro a W hG hR hO hp; have h140 : slotOf a 140 = .int .u8 n4 := hp.1; refine kY (v := vi n4) hG rfl ?_; simp [slotOf] at h140; simp [execOp, go_sem, h140, ew4]
             ·exact fun a W hG _ hO _ => kM 2 rfl (hO.slot 2 (by kernel_rfl)) rfl hG
             ·intro a W hG hR hO hp; have h142 : slotOf a 142 = .slice (some ⟨gt, 0, none⟩) K cU := hp.1; refine kY (v := .int .i64 K) hG rfl ?_; simp [slotOf] at h142; simp [go_sem, h142]
             ·intro a W hG hR hO hp; have h141 : slotOf a 141 = vi n4 := hp.1; have h143 : slotOf a 143 = .int .i64 K := hp.2.1; refine kY (v := vi r) hG rfl ?_; simp [slotOf] at h141 h143; simp [execOp, go_sem, h141, h143, er, hnz]
             ·intro a W hG hR hO hp; have h139 : slotOf a 139 = .slice (some ⟨gt, 0, none⟩) K cU := hp.1; have h144 : slotOf a 144 = vi r := hp.2.1; refine kY (v := .pointer (some ⟨gt, r, none⟩)) hG rfl ?_; simp [slotOf] at h139 h144; simp [execOp, go_sem, h139, h144, hrI]
             ·intro a W hG hR hO hp; have h145 : slotOf a 145 = .pointer (some ⟨gt, r, none⟩) := hp.1; have c0 := keep_cell d0 hG; refine kY (v := .slice (some ⟨gx, 0, none⟩) s.cs.length x.c) hG rfl ?_; simp [slotOf] at h145; simp [execOp, go_sem, h145, c0]
             ·exact fun a W hG _ hO _ => kM 5 rfl (hO.slot 5 (by kernel_rfl)) rfl hG
             ·intro a W hG hR hO hp; have h147 : slotOf a 147 = .int .u8 n5 := hp.1; refine kY (v := vi n5) hG rfl ?_; simp [slotOf] at h147; simp [execOp, go_sem, h147, ew5]
             ·intro a W hG hR hO hp; have h8 := hO.slot 8 (by kernel_rfl); refine kY (v := .pointer (some ⟨w.heap.size, 0, none⟩)) hG rfl ?_; simp [slotOf] at h8; simp [execOp, go_sem, h8]
             ·intro a W hG hR hO hp; have h149 : slotOf a 149 = .pointer (some ⟨w.heap.size, 0, none⟩) := hp.1; have c0 := keep_cell x0 hG; refine kY (v := .slice s.a s.cs.length s.c) hG rfl ?_; simp [slotOf] at h149; simp [execOp, go_sem, h149, c0]
             ·intro a W hG hR hO hp; have h150 : slotOf a 150 = .slice s.a s.cs.length s.c := hp.1; refine kY (v := .int .i64 s.cs.length) hG rfl ?_; simp [slotOf] at h150; simp [go_sem, h150]
             ·intro a W hG hR hO hp; have h148 : slotOf a 148 = vi n5 := hp.1; have h151 : slotOf a 151 = .int .i64 s.cs.length := hp.2.1; refine kY (v := vi k) hG rfl ?_; simp [slotOf] at h148 h151; simp [execOp, go_sem, h148, h151, ek, hnc]
             ·intro a W hG hR hO hp; have h146 : slotOf a 146 = .slice (some ⟨gx, 0, none⟩) s.cs.length x.c := hp.1; have h152 : slotOf a 152 = vi k := hp.2.1; refine kY (v := .pointer (some ⟨gx, k, none⟩)) hG rfl ?_; simp [slotOf] at h146 h152; simp [execOp, go_sem, h146, h152, hkI]
             ·intro a W hG hR hO hp; have h153 : slotOf a 153 = .pointer (some ⟨gx, k, none⟩) := hp.1; have c0 := keep_cell d1 hG; refine kY (v := .slice (some ⟨gy, 0, none⟩) m y.c) hG rfl ?_; simp [slotOf] at h153; simp [execOp, go_sem, h153, c0]
            ·intro wz27 hG hR
             rintro _ rfl _ rfl _ rfl _ rfl _ rfl _ rfl _ rfl _ rfl _ rfl _ rfl _ rfl _ rfl _ rfl _ rfl _ rfl _ rfl
             change wpList _ _ _ _ _ _
             simp only [Act.put, List.setIfInBounds_toArray, List.set_cons_zero, List.set_cons_succ, List.drop_succ_cons, List.drop_zero]
             have H75 := Lib.hid (And.intro ((newer_trans H74.out.1 hG)) (And.intro ((H74.out.2.1.below hG H74.out.2.1.lt)) (And.intro ((H74.out.2.2.1.next hG)) ((H74.out.2.2.2.next hG)))))
             clear hG hR d0 d1 er ek H74 x0 x1
             obtain ⟨gt2, gx2, gy2, _, _, fy, _, _, _, d2, fz, hpk⟩ := H75.out.2.2.2.poke HXYV.out.1 HXYV.out.2.1 HXYV.out.2.2.1
             obtain rfl : gy = gy2 := by have h := HXYV.out.2.2.2.symm.trans fy; injection h with h; injection h
             obtain ⟨uts, huts⟩ : ∃ t, t = us.set r ⟨x.ls.set k ⟨y.l.set b u, y.a, y.c⟩, x.a, x.c⟩ := ⟨_, rfl⟩
             obtain ⟨DD, hDD⟩ : ∃ D, D = uts.map Rw.d := ⟨_, rfl⟩
             have hul2 : uts.length = K := by rw [huts, List.length_set]; exact HUL.out
             have HUT : Hid (TbOk uts (some ⟨gt, 0, none⟩) (wz27.setCell ⟨gy, b, none⟩ (vi u)) /\ TbFew uts /\ uts.map Rw.d = DD) := Lib.hid ⟨by rw [huts]; exact (hpk u).ok, by rw [huts]; exact tab_few HUM.out.2 HXYV.out.1 HXYV.out.2.1 b u, hDD.symm⟩
             rw [<- hul2]
             have HGN := Lib.hid (Nat.le_of_lt HGE.out)
             clear fy hpk hDD huts hul2
             go_upto_region 29 with fail
             refine genQ (fun X => newer w X /\ Whole X w.heap.size 24 (smC s) /\ TbOk uts (some ⟨gt, 0, none⟩) X) ⟨H75.out.1.setCell (p := ⟨gy, b, none⟩) HGN.out (vi u), H75.out.2.1.far (p := ⟨gy, b, none⟩) (Nat.ne_of_lt HGE.out) (vi u), HUT.out.1⟩ ?_
             rintro w76 ⟨g0_, g1_, g2_⟩
             have H77 := Lib.hid (And.intro (g0_) (And.intro (g1_) (g2_)))
             clear g0_ g1_ g2_ d2 fz hadd hby ew4 ew5 ew6 eb H75
             have HTT : Hid (TbOk uts (some ⟨gt, 0, none⟩) w76 /\ TbFew uts /\ uts.map Rw.d = DD) := Lib.hid ⟨H77.out.2.2, HUT.out.2.1, HUT.out.2.2⟩
             clear HUT
             obtain ⟨p, hp⟩ : ∃ p, p = provO s.sd f DD := ⟨_, rfl⟩
             have HPV := Lib.hid (HPVQ.out DD p hp.symm).1
             have HPR := Lib.hid (HPVQ.out DD p hp.symm).2
             clear hp
             cases p with
             | false =>
              have x0 := H77.out.2.1.at 0 (v := .slice s.a s.cs.length s.c) rfl
              have x1 := H77.out.2.1.at 1 (v := vi s.least) rfl
              refine wp_words (by kernel_rfl) (region_told_u 14 (by kernel_rfl) (by kernel_rfl) [false, false, false, false, false, false, false, false, false, false, false, false, false, false] (fun W => Below w76.heap.size w76 W) newer [vIs (smV s), vSlo s.sd, vIs (vi f), vIs (.slice (some ⟨gt, 0, none⟩) uts.length cU), vTab DD, vIs (.bool false), vIs (smV s), vIs (vi f), vIs (.slice (some ⟨gt, 0, none⟩) uts.length cU), vIs (.bool false), vIs (.bool true), vIs (.bool true), vIs (.bool true), vIs (.bool true)] (by repeat' first | refine And.intro ?_ ?_ | exact trivial | exact rfl | (intro v W h; obtain rfl : v = _ := h; first | rfl | (simp; done) | (simp [undef]; done))) (by repeat' first | refine And.intro ?_ ?_ | exact trivial | exact (fun h => Bool.noConfusion (show false = true from h)) | exact (fun _ _ => rfl)) (fun h k => newer_trans h k) (pickD_stable _ ⟨vIs_st, vSlo_st, vIs_st, vIs_st, vTab_st, vIs_st, vIs_st, vIs_st, vIs_st, vIs_st, vIs_st, vIs_st, vIs_st, vIs_st, trivial⟩) (Below.refl _ w76).drew (Below.refl _ _) ?_ ?_)
              ·refine ⟨.inr ?_, .inr ?_, .inr ?_, .inr ?_, .inr ?_, .inr ?_, .inr ?_, .inr ?_, .inr ?_, .inr ?_, .inr ?_, .inr ?_, .inr ?_, .inr ?_, trivial⟩
               ·intro a W hG hR hO hp; have h8 := hO.slot 8 (by kernel_rfl); have c0 := keep_cell x0 hG; have c1 := keep_cell x1 hG; refine kY (v := smV s) hG rfl ?_; simp [slotOf] at h8; simp [execOp, go_sem, h8, c0, c1]
               ·intro a W hG hR hO hp
                have h167 : slotOf a 167 = smV s := hp.1
                refine wp_enters (f := 19) (args := #[smV s]) ?_ ((lawSlope s W (HOK.out.1.next (newer_trans H77.out.1 hG)) HFW.out).mono ?_)
                ·simp [slotOf] at h167
                 simp [go_sem, h167]
                ·rintro e w' ⟨s2, rfl, h1, h2, hb⟩
                 exact ⟨_, rfl, _, rfl, ⟨s2, rfl, h1, h2⟩, hb, below_next hG hb⟩
               ·exact fun a W hG _ hO _ => kM 1 rfl (hO.slot 1 (by kernel_rfl)) rfl hG
               ·exact fun a W hG _ hO _ => kM 2 rfl (hO.slot 2 (by kernel_rfl)) rfl hG
               ·intro a W hG hR hO hp
                have h170 : slotOf a 170 = .slice (some ⟨gt, 0, none⟩) uts.length cU := hp.1
                refine wp_enters (f := 52) (args := #[.slice (some ⟨gt, 0, none⟩) uts.length cU]) ?_ ((table_any _ _ _ W (HTT.out.1.next hG) HTT.out.2.1).mono ?_)
                ·simp [slotOf] at h170
                 simp [go_sem, h170]
                ·rintro e w' ⟨t2, A9, c9, rfl, h1, h2, hb⟩
                 exact ⟨_, rfl, _, rfl, ⟨t2, A9, c9, rfl, h2.ok, few_map h1 HTT.out.2.1, h1.trans HTT.out.2.2⟩, hb, below_next hG hb⟩
               ·intro a W hG hR hO hp
                have h168 := hp.1
                have h169 : slotOf a 169 = vi f := hp.2.1
                have h171 := hp.2.2.1
                obtain ⟨s2, h168, hd2, hs2⟩ := h168
                obtain ⟨t2, A9, c9, h171, ht2, hf2, hm2⟩ := h171
                have hpv := HPV.out s2 t2 A9 c9 W hd2 hs2 ht2 hf2 hm2
                refine wp_enters (f := 51) (args := #[smV s2, vi f, .slice A9 t2.length c9]) ?_ (hpv.mono ?_)
                ·simp [slotOf] at h168 h169 h171
                 simp [go_sem, h168, h169, h171]
                ·rintro e w' ⟨rfl, hb⟩
                 exact ⟨_, rfl, _, rfl, rfl, hb, below_next hG hb⟩
               ·intro a W hG hR hO hp; have h8 := hO.slot 8 (by kernel_rfl); have c0 := keep_cell x0 hG; have c1 := keep_cell x1 hG; refine kY (v := smV s) hG rfl ?_; simp [slotOf] at h8; simp [execOp, go_sem, h8, c0, c1]
               ·exact fun a W hG _ hO _ => kM 1 rfl (hO.slot 1 (by kernel_rfl)) rfl hG
               ·exact fun a W hG _ hO _ => kM 2 rfl (hO.slot 2 (by kernel_rfl)) rfl hG
               ·intro a W hG hR hO hp
                have h173 : slotOf a 173 = smV s := hp.1
                have h174 : slotOf a 174 = vi f := hp.2.1
                have h175 : slotOf a 175 = .slice (some ⟨gt, 0, none⟩) uts.length cU := hp.2.2.1
                refine wp_enters (f := 53) (args := #[smV s, vi f, .slice (some ⟨gt, 0, none⟩) uts.length cU]) ?_ ((HPR.out _ _ _ W (newer_trans H77.out.1 hG) (HTT.out.1.next hG) HTT.out.2.1 HTT.out.2.2).mono ?_)
                ·simp [slotOf] at h173 h174 h175
                 simp [go_sem, h173, h174, h175]
                ·rintro e w' ⟨rfl, hb⟩
                 exact ⟨_, rfl, _, rfl, rfl, hb, below_next hG hb⟩
               ·intro a W hG hR hO hp; have h172 : slotOf a 172 = .bool false := hp.1; have h176 : slotOf a 176 = .bool false := hp.2.1; refine kY (v := .bool true) hG rfl ?_; simp [slotOf] at h172 h176; simp [execOp, go_sem, h172, h176]
               ·exact fun a W hG _ _ hp => kM 177 rfl hp.1 rfl hG
               ·intro a W hG hR hO hp
                refine wp_enters (f := 17) (args := #[]) ?_ ((wakes_any W).mono ?_)
                ·skip
                 simp [go_sem]
                ·rintro e w' ⟨rfl, hb⟩
                 exact ⟨_, rfl, _, rfl, rfl, hb, below_next hG hb⟩
               ·intro a W hG hR hO hp; have h178 : slotOf a 178 = .bool true := hp.1; have h179 : slotOf a 179 = .bool true := hp.2.1; refine kY (v := .bool true) hG rfl ?_; simp [slotOf] at h178 h179; simp [execOp, go_sem, h178, h179]
              ·intro wz29 hG hR
               rintro _ rfl _ - _ rfl _ rfl _ - _ rfl _ rfl _ rfl _ rfl _ rfl _ rfl _ rfl _ rfl _ rfl
               change wpList _ _ _ _ _ _
               simp only [Act.put, List.setIfInBounds_toArray, List.set_cons_zero, List.set_cons_succ, List.drop_succ_cons, List.drop_zero]
               have H78 := Lib.hid (And.intro ((newer_trans H77.out.1 hG)) (And.intro ((H77.out.2.1.below hG H77.out.2.1.lt)) ((H77.out.2.2.next hG))))
               clear hG hR H77 x0 x1
               go_wp2_with fail
               go_ret
               exact ⟨rfl, H78.out.1⟩
             | true =>
              have x0 := H77.out.2.1.at 0 (v := .slice s.a s.cs.length s.c) rfl
              have x1 := H77.out.2.1.at 1 (v := vi s.least) rfl
              refine wp_words (by kernel_rfl) (region_told_u 14 (by kernel_rfl) (by kernel_rfl) [false, false, false, false, false, false, false, false, false, false, false, false, false, false] (fun W => Below w76.heap.size w76 W) newer [vIs (smV s), vSlo s.sd, vIs (vi f), vIs (.slice (some ⟨gt, 0, none⟩) uts.length cU), vTab DD, vIs (.bool true), vIs (smV s), vIs (vi f), vIs (.slice (some ⟨gt, 0, none⟩) uts.length cU), vIs (.bool true), vIs (.bool true), vIs (.bool true), vIs (.bool true), vIs (.bool true)] (by repeat' first | refine And.intro ?_ ?_ | exact trivial | exact rfl | (intro v W h; obtain rfl : v = _ := h; first | rfl | (simp; done) | (simp [undef]; done))) (by repeat' first | refine And.intro ?_ ?_ | exact trivial | exact (fun h => Bool.noConfusion (show false = true from h)) | exact (fun _ _ => rfl)) (fun h k => newer_trans h k) (pickD_stable _ ⟨vIs_st, vSlo_st, vIs_st, vIs_st, vTab_st, vIs_st, vIs_st, vIs_st, vIs_st, vIs_st, vIs_st, vIs_st, vIs_st, vIs_st, trivial⟩) (Below.refl _ w76).drew (Below.refl _ _) ?_ ?_)
              ·refine ⟨.inr ?_, .inr ?_, .inr ?_, .inr ?_, .inr ?_, .inr ?_, .inr ?_, .inr ?_, .inr ?_, .inr ?_, .inr ?_, .inr ?_, .inr ?_, .inr ?_, trivial⟩
               ·intro a W hG hR hO hp; have h8 := hO.slot 8 (by kernel_rfl); have c0 := keep_cell x0 hG; have c1 := keep_cell x1 hG; refine kY (v := smV s) hG rfl ?_; simp [slotOf] at h8; simp [execOp, go_sem, h8, c0, c1]
               ·intro a W hG hR hO hp
                have h167 : slotOf a 167 = smV s := hp.1
                refine wp_enters (f := 19) (args := #[smV s]) ?_ ((lawSlope s W (HOK.out.1.next (newer_trans H77.out.1 hG)) HFW.out).mono ?_)
                ·simp [slotOf] at h167
                 simp [go_sem, h167]
                ·rintro e w' ⟨s2, rfl, h1, h2, hb⟩
                 exact ⟨_, rfl, _, rfl, ⟨s2, rfl, h1, h2⟩, hb, below_next hG hb⟩
               ·exact fun a W hG _ hO _ => kM 1 rfl (hO.slot 1 (by kernel_rfl)) rfl hG
               ·exact fun a W hG _ hO _ => kM 2 rfl (hO.slot 2 (by kernel_rfl)) rfl hG
               ·intro a W hG hR hO hp
                have h170 : slotOf a 170 = .slice (some ⟨gt, 0, none⟩) uts.length cU := hp.1
                refine wp_enters (f := 52) (args := #[.slice (some ⟨gt, 0, none⟩) uts.length cU]) ?_ ((table_any _ _ _ W (HTT.out.1.next hG) HTT.out.2.1).mono ?_)
                ·simp [slotOf] at h170
                 simp [go_sem, h170]
                ·rintro e w' ⟨t2, A9, c9, rfl, h1, h2, hb⟩
                 exact ⟨_, rfl, _, rfl, ⟨t2, A9, c9, rfl, h2.ok, few_map h1 HTT.out.2.1, h1.trans HTT.out.2.2⟩, hb, below_next hG hb⟩
               ·intro a W hG hR hO hp
                have h168 := hp.1
                have h169 : slotOf a 169 = vi f := hp.2.1
                have h171 := hp.2.2.1
                obtain ⟨s2, h168, hd2, hs2⟩ := h168
                obtain ⟨t2, A9, c9, h171, ht2, hf2, hm2⟩ := h171
                have hpv := HPV.out s2 t2 A9 c9 W hd2 hs2 ht2 hf2 hm2
                refine wp_enters (f := 51) (args := #[smV s2, vi f, .slice A9 t2.length c9]) ?_ (hpv.mono ?_)
                ·simp [slotOf] at h168 h169 h171
                 simp [go_sem, h168, h169, h171]
                ·rintro e w' ⟨rfl, hb⟩
                 exact ⟨_, rfl, _, rfl, rfl, hb, below_next hG hb⟩
               ·intro a W hG hR hO hp; have h8 := hO.slot 8 (by kernel_rfl); have c0 := keep_cell x0 hG; have c1 := keep_cell x1 hG; refine kY (v := smV s) hG rfl ?_; simp [slotOf] at h8; simp [execOp, go_sem, h8, c0, c1]
               ·exact fun a W hG _ hO _ => kM 1 rfl (hO.slot 1 (by kernel_rfl)) rfl hG
               ·exact fun a W hG _ hO _ => kM 2 rfl (hO.slot 2 (by kernel_rfl)) rfl hG
               ·intro a W hG hR hO hp
                have h173 : slotOf a 173 = smV s := hp.1
                have h174 : slotOf a 174 = vi f := hp.2.1
                have h175 : slotOf a 175 = .slice (some ⟨gt, 0, none⟩) uts.length cU := hp.2.2.1
                refine wp_enters (f := 53) (args := #[smV s, vi f, .slice (some ⟨gt, 0, none⟩) uts.length cU]) ?_ ((HPR.out _ _ _ W (newer_trans H77.out.1 hG) (HTT.out.1.next hG) HTT.out.2.1 HTT.out.2.2).mono ?_)
                ·simp [slotOf] at h173 h174 h175
                 simp [go_sem, h173, h174, h175]
                ·rintro e w' ⟨rfl, hb⟩
                 exact ⟨_, rfl, _, rfl, rfl, hb, below_next hG hb⟩
               ·intro a W hG hR hO hp; have h172 : slotOf a 172 = .bool true := hp.1; have h176 : slotOf a 176 = .bool true := hp.2.1; refine kY (v := .bool true) hG rfl ?_; simp [slotOf] at h172 h176; simp [execOp, go_sem, h172, h176]
               ·exact fun a W hG _ _ hp => kM 177 rfl hp.1 rfl hG
               ·intro a W hG hR hO hp
                refine wp_enters (f := 17) (args := #[]) ?_ ((wakes_any W).mono ?_)
                ·skip
                 simp [go_sem]
                ·rintro e w' ⟨rfl, hb⟩
                 exact ⟨_, rfl, _, rfl, rfl, hb, below_next hG hb⟩
               ·intro a W hG hR hO hp; have h178 : slotOf a 178 = .bool true := hp.1; have h179 : slotOf a 179 = .bool true := hp.2.1; refine kY (v := .bool true) hG rfl ?_; simp [slotOf] at h178 h179; simp [execOp, go_sem, h178, h179]
              ·intro wz29 hG hR
               rintro _ rfl _ - _ rfl _ rfl _ - _ rfl _ rfl _ rfl _ rfl _ rfl _ rfl _ rfl _ rfl _ rfl
               change wpList _ _ _ _ _ _
               simp only [Act.put, List.setIfInBounds_toArray, List.set_cons_zero, List.set_cons_succ, List.drop_succ_cons, List.drop_zero]
               have H79 := Lib.hid (And.intro ((newer_trans H77.out.1 hG)) (And.intro ((H77.out.2.1.below hG H77.out.2.1.lt)) ((H77.out.2.2.next hG))))
               clear hG hR H77 x0 x1
               go_wp2_with fail
               go_ret
               exact ⟨rfl, H79.out.1⟩
       | some lw =>
        have hen : enoughN s.sd f = 10 := by unfold enoughN; rw [if_pos HAK.out, hlw]; rfl
        obtain rfl : br = false := by cases br with | false => rfl | true => have := hbd.1 rfl; rw [hlw] at this; cases this
        have HPD : Hid (∀ (W : World) (e : Ending) (w3 : World), proofOut s.sd f W e w3 -> e = .returned (.tuple #[.slice none 0 0, vi 10]) /\ newer W w3) := Lib.hid (fun W e w3 h => by unfold proofOut at h; rw [hen, if_neg (by decide)] at h; exact h)
        clear hen hlw hbd
        have x0 := H11.out.2.at 0 (v := .slice s.a s.cs.length s.c) rfl
        have x1 := H11.out.2.at 1 (v := vi s.least) rfl
        go_wp2_with fail
        refine (HPC.out _ H11.out.1).mono ?_
        rintro e w80 ⟨s4, rfl, hc4, hb⟩
        have HC4 := Lib.hid (hc4 _ (newer_refl _))
        clear hc4
        have H81 := Lib.hid (And.intro ((newer_trans H11.out.1 hb)) ((H11.out.2.below hb H11.out.2.lt)))
        clear hb HPC H11 x0 x1
        go_wp2_with fail
        refine (HC4.out).mono ?_
        intro e w82 hpo
        obtain ⟨rfl, hb⟩ := HPD.out _ _ _ hpo
        have H83 := Lib.hid (And.intro ((newer_trans H81.out.1 hb)) ((H81.out.2.below hb H81.out.2.lt)))
        clear hb hpo HC4 HPD H81
        have x0 := H83.out.2.at 0 (v := .slice s.a s.cs.length s.c) rfl
        have x1 := H83.out.2.at 1 (v := vi s.least) rfl
        go_wp2_with fail
        refine (HRI.out _ H83.out.1).mono ?_
        rintro e w84 ⟨rfl, hb⟩
        have H85 := Lib.hid (And.intro ((newer_trans H83.out.1 hb)) ((H83.out.2.below hb H83.out.2.lt)))
        clear hb HRI H83 x0 x1
        go_wp2_with fail
        refine (HIN.out _).mono ?_
        rintro e w86 ⟨rfl, hb⟩
        have H87 := Lib.hid (And.intro ((newer_trans H85.out.1 hb)) ((H85.out.2.below hb H85.out.2.lt)))
        clear hb HIN H85
        cases fw with
        | false =>
         have x0 := H87.out.2.at 0 (v := .slice s.a s.cs.length s.c) rfl
         have x1 := H87.out.2.at 1 (v := vi s.least) rfl
         go_upto_region 20 with fail
         refine wp_words (by kernel_rfl) (region_told_u 24 (by kernel_rfl) (by kernel_rfl) [false, false, false, false, false, false, false, false, false, false, false, false, false, false, false, true, true, true, true, true, true, true, true, false] (fun W => Below w86.heap.size w86 W) newer [vIs (vi 10), vIs (.bool true), vIs (.bool true), vIs (vi 10), vIs (.bool false), vIs (.bool false), vIs (.slice none 0 0), vIs (.int .i64 (0 : Nat)), vIs (.bool false), vIs (.bool false), vIs (.bool false), vIs (.bool false), vIs (smV s), vIs (.bool false), vIs (.bool false), vIs (undef), vIs (undef), vIs (undef), vIs (undef), vIs (undef), vIs (undef), vIs (undef), vIs (undef), vIs (.bool false)] (by repeat' first | refine And.intro ?_ ?_ | exact trivial | exact rfl | (intro v W h; obtain rfl : v = _ := h; first | rfl | (simp; done) | (simp [undef]; done))) (by repeat' first | refine And.intro ?_ ?_ | exact trivial | exact (fun h => Bool.noConfusion (show false = true from h)) | exact (fun _ _ => rfl)) (fun h k => newer_trans h k) (pickD_stable _ (by repeat' first | refine And.intro ?_ ?_ | exact trivial | exact vIs_st)) (Below.refl _ w86).drew (Below.refl _ _) ?_ ?_)
         ·refine ⟨.inr ?_, .inr ?_, .inr ?_, .inr ?_, .inr ?_, .inr ?_, .inr ?_, .inr ?_, .inr ?_, .inr ?_, .inr ?_, .inr ?_, .inr ?_, .inr ?_, .inr ?_, .inl rfl, .inl rfl, .inl rfl, .inl rfl, .inl rfl, .inl rfl, .inl rfl, .inl rfl, .inr ?_, trivial⟩
          ·exact fun a W hG _ hO _ => kM 20 rfl (hO.slot 20 (by kernel_rfl)) rfl hG
          ·intro a W hG hR hO hp; have h103 : slotOf a 103 = vi 10 := hp.1; refine kY (v := .bool true) hG rfl ?_; simp [slotOf] at h103; simp [execOp, go_sem, h103]
          ·exact fun a W hG _ _ hp => kM 104 rfl hp.1 rfl hG
          ·exact fun a W hG _ hO _ => kM 20 rfl (hO.slot 20 (by kernel_rfl)) rfl hG
          ·intro a W hG hR hO hp; have h106 : slotOf a 106 = vi 10 := hp.1; refine kY (v := .bool false) hG rfl ?_; simp [slotOf] at h106; simp [execOp, go_sem, h106]
          ·exact fun a W hG _ _ hp => kM 107 rfl hp.1 rfl hG
          ·exact fun a W hG _ hO _ => kM 19 rfl (hO.slot 19 (by kernel_rfl)) rfl hG
          ·intro a W hG hR hO hp; have h109 : slotOf a 109 = .slice none 0 0 := hp.1; refine kY (v := .int .i64 (0 : Nat)) hG rfl ?_; simp [slotOf] at h109; simp [go_sem, h109]
          ·intro a W hG hR hO hp; have h110 : slotOf a 110 = .int .i64 (0 : Nat) := hp.1; refine kY (v := .bool false) hG rfl ?_; simp [slotOf] at h110; simp [execOp, go_sem, h110]
          ·intro a W hG hR hO hp; have h108 : slotOf a 108 = .bool false := hp.1; have h111 : slotOf a 111 = .bool false := hp.2.1; refine kY (v := .bool false) hG rfl ?_; simp [slotOf] at h108 h111; simp [execOp, go_sem, h108, h111]
          ·intro a W hG hR hO hp; have h105 : slotOf a 105 = .bool true := hp.1; have h112 : slotOf a 112 = .bool false := hp.2.1; refine kY (v := .bool false) hG rfl ?_; simp [slotOf] at h105 h112; simp [execOp, go_sem, h105, h112]
          ·exact fun a W hG _ _ hp => kM 113 rfl hp.1 rfl hG
          ·intro a W hG hR hO hp; have h8 := hO.slot 8 (by kernel_rfl); have c0 := keep_cell x0 hG; have c1 := keep_cell x1 hG; refine kY (v := smV s) hG rfl ?_; simp [slotOf] at h8; simp [execOp, go_sem, h8, c0, c1]
          ·intro a W hG hR hO hp
           have h115 : slotOf a 115 = smV s := hp.1
           refine wp_enters (f := 24) (args := #[smV s]) ?_ ((HFE.out W (newer_trans H87.out.1 hG)).mono ?_)
           ·simp [slotOf] at h115
            simp [go_sem, h115]
           ·rintro e w' ⟨rfl, hb⟩
            exact ⟨_, rfl, _, rfl, rfl, hb, below_next hG hb⟩
          ·exact fun a W hG _ _ hp => kM 116 rfl hp.1 rfl hG
          ·intro a W hG hR hO hp; have h117 : slotOf a 117 = .bool false := hp.1; have h125 : slotOf a 125 = undef := hp.2.1; refine kY (v := .bool false) hG rfl ?_; simp [slotOf] at h117 h125; simp [execOp, go_sem, h117, h125]
         ·intro wz20 hG hR
          rintro _ rfl _ rfl _ rfl _ rfl _ rfl _ rfl _ rfl _ rfl _ rfl _ rfl _ rfl _ rfl _ rfl _ rfl _ rfl _ rfl _ rfl _ rfl _ rfl _ rfl _ rfl _ rfl _ rfl _ rfl
          change wpList _ _ _ _ _ _
          simp only [Act.put, List.setIfInBounds_toArray, List.set_cons_zero, List.set_cons_succ, List.drop_succ_cons, List.drop_zero]
          have H88 := Lib.hid (And.intro ((newer_trans H87.out.1 hG)) ((H87.out.2.below hG H87.out.2.lt)))
          clear hG hR HFE HBE H87 x0 x1
          have x0 := H88.out.2.at 0 (v := .slice s.a s.cs.length s.c) rfl
          have x1 := H88.out.2.at 1 (v := vi s.least) rfl
          have HTT := Lib.hid (And.intro (HOK.out.2.next H88.out.1) (And.intro HTF.out (show ts.map Rw.d = ts.map Rw.d from rfl)))
          obtain ⟨DD, hDD⟩ : ∃ D, D = ts.map Rw.d := ⟨_, rfl⟩
          have HTT : Hid (TbOk ts A wz20 /\ TbFew ts /\ ts.map Rw.d = DD) := Lib.hid ⟨HTT.out.1, HTT.out.2.1, hDD.symm⟩
          clear hDD
          obtain ⟨p, hp⟩ : ∃ p, p = provO s.sd f DD := ⟨_, rfl⟩
          have HPV := Lib.hid (HPVQ.out DD p hp.symm).1
          have HPR := Lib.hid (HPVQ.out DD p hp.symm).2
          clear hp
          cases p with
          | false =>
           have x0 := H88.out.2.at 0 (v := .slice s.a s.cs.length s.c) rfl
           have x1 := H88.out.2.at 1 (v := vi s.least) rfl
           go_upto_region 29 with fail
           refine wp_words (by kernel_rfl) (region_told_u 14 (by kernel_rfl) (by kernel_rfl) [false, false, false, false, false, false, false, false, false, false, false, false, false, false] (fun W => Below wz20.heap.size wz20 W) newer [vIs (smV s), vSlo s.sd, vIs (vi f), vIs (.slice A ts.length cA), vTab DD, vIs (.bool false), vIs (smV s), vIs (vi f), vIs (.slice A ts.length cA), vIs (.bool false), vIs (.bool true), vIs (.bool true), vIs (.bool true), vIs (.bool true)] (by repeat' first | refine And.intro ?_ ?_ | exact trivial | exact rfl | (intro v W h; obtain rfl : v = _ := h; first | rfl | (simp; done) | (simp [undef]; done))) (by repeat' first | refine And.intro ?_ ?_ | exact trivial | exact (fun h => Bool.noConfusion (show false = true from h)) | exact (fun _ _ => rfl)) (fun h k => newer_trans h k) (pickD_stable _ ⟨vIs_st, vSlo_st, vIs_st, vIs_st, vTab_st, vIs_st, vIs_st, vIs_st, vIs_st, vIs_st, vIs_st, vIs_st, vIs_st, vIs_st, trivial⟩) (Below.refl _ wz20).drew (Below.refl _ _) ?_ ?_)
           ·refine ⟨.inr ?_, .inr ?_, .inr ?_, .inr ?_, .inr ?_, .inr ?_, .inr ?_, .inr ?_, .inr ?_, .inr ?_, .inr ?_, .inr ?_, .inr ?_, .inr ?_, trivial⟩
            ·intro a W hG hR hO hp; have h8 := hO.slot 8 (by kernel_rfl); have c0 := keep_cell x0 hG; have c1 := keep_cell x1 hG; refine kY (v := smV s) hG rfl ?_; simp [slotOf] at h8; simp [execOp, go_sem, h8, c0, c1]
            ·intro a W hG hR hO hp
             have h167 : slotOf a 167 = smV s := hp.1
             refine wp_enters (f := 19) (args := #[smV s]) ?_ ((lawSlope s W (HOK.out.1.next (newer_trans H88.out.1 hG)) HFW.out).mono ?_)
             ·simp [slotOf] at h167
              simp [go_sem, h167]
             ·rintro e w' ⟨s2, rfl, h1, h2, hb⟩
              exact ⟨_, rfl, _, rfl, ⟨s2, rfl, h1, h2⟩, hb, below_next hG hb⟩
            ·exact fun a W hG _ hO _ => kM 1 rfl (hO.slot 1 (by kernel_rfl)) rfl hG
            ·exact fun a W hG _ hO _ => kM 2 rfl (hO.slot 2 (by kernel_rfl)) rfl hG
            ·intro a W hG hR hO hp
             have h170 : slotOf a 170 = .slice A ts.length cA := hp.1
             refine wp_enters (f := 52) (args := #[.slice A ts.length cA]) ?_ ((table_any _ _ _ W (HTT.out.1.next hG) HTT.out.2.1).mono ?_)
             ·simp [slotOf] at h170
              simp [go_sem, h170]
             ·rintro e w' ⟨t2, A9, c9, rfl, h1, h2, hb⟩
              exact ⟨_, rfl, _, rfl, ⟨t2, A9, c9, rfl, h2.ok, few_map h1 HTT.out.2.1, h1.trans HTT.out.2.2⟩, hb, below_next hG hb⟩
            ·intro a W hG hR hO hp
             have h168 := hp.1
             have h169 : slotOf a 169 = vi f := hp.2.1
             have h171 := hp.2.2.1
             obtain ⟨s2, h168, hd2, hs2⟩ := h168
             obtain ⟨t2, A9, c9, h171, ht2, hf2, hm2⟩ := h171
             have hpv := HPV.out s2 t2 A9 c9 W hd2 hs2 ht2 hf2 hm2
             refine wp_enters (f := 51) (args := #[smV s2, vi f, .slice A9 t2.length c9]) ?_ (hpv.mono ?_)
             ·simp [slotOf] at h168 h169 h171
              simp [go_sem, h168, h169, h171]
             ·rintro e w' ⟨rfl, hb⟩
              exact ⟨_, rfl, _, rfl, rfl, hb, below_next hG hb⟩
            ·intro a W hG hR hO hp; have h8 := hO.slot 8 (by kernel_rfl); have c0 := keep_cell x0 hG; have c1 := keep_cell x1 hG; refine kY (v := smV s) hG rfl ?_; simp [slotOf] at h8; simp [execOp, go_sem, h8, c0, c1]
            ·exact fun a W hG _ hO _ => kM 1 rfl (hO.slot 1 (by kernel_rfl)) rfl hG
            ·exact fun a W hG _ hO _ => kM 2 rfl (hO.slot 2 (by kernel_rfl)) rfl hG
            ·intro a W hG hR hO hp
             have h173 : slotOf a 173 = smV s := hp.1
             have h174 : slotOf a 174 = vi f := hp.2.1
             have h175 : slotOf a 175 = .slice A ts.length cA := hp.2.2.1
             refine wp_enters (f := 53) (args := #[smV s, vi f, .slice A ts.length cA]) ?_ ((HPR.out _ _ _ W (newer_trans H88.out.1 hG) (HTT.out.1.next hG) HTT.out.2.1 HTT.out.2.2).mono ?_)
             ·simp [slotOf] at h173 h174 h175
              simp [go_sem, h173, h174, h175]
             ·rintro e w' ⟨rfl, hb⟩
              exact ⟨_, rfl, _, rfl, rfl, hb, below_next hG hb⟩
            ·intro a W hG hR hO hp; have h172 : slotOf a 172 = .bool false := hp.1; have h176 : slotOf a 176 = .bool false := hp.2.1; refine kY (v := .bool true) hG rfl ?_; simp [slotOf] at h172 h176; simp [execOp, go_sem, h172, h176]
            ·exact fun a W hG _ _ hp => kM 177 rfl hp.1 rfl hG
            ·intro a W hG hR hO hp
             refine wp_enters (f := 17) (args := #[]) ?_ ((wakes_any W).mono ?_)
             ·skip
              simp [go_sem]
             ·rintro e w' ⟨rfl, hb⟩
              exact ⟨_, rfl, _, rfl, rfl, hb, below_next hG hb⟩
            ·intro a W hG hR hO hp; have h178 : slotOf a 178 = .bool true := hp.1; have h179 : slotOf a 179 = .bool true := hp.2.1; refine kY (v := .bool true) hG rfl ?_; simp [slotOf] at h178 h179; simp [execOp, go_sem, h178, h179]
           ·intro wz29 hG hR
            rintro _ rfl _ - _ rfl _ rfl _ - _ rfl _ rfl _ rfl _ rfl _ rfl _ rfl _ rfl _ rfl _ rfl
            change wpList _ _ _ _ _ _
            simp only [Act.put, List.setIfInBounds_toArray, List.set_cons_zero, List.set_cons_succ, List.drop_succ_cons, List.drop_zero]
            have H89 := Lib.hid (And.intro ((newer_trans H88.out.1 hG)) ((H88.out.2.below hG H88.out.2.lt)))
            clear hG hR H88 x0 x1
            go_wp2_with fail
            go_ret
            exact ⟨rfl, H89.out.1⟩
          | true =>
           have x0 := H88.out.2.at 0 (v := .slice s.a s.cs.length s.c) rfl
           have x1 := H88.out.2.at 1 (v := vi s.least) rfl
           go_upto_region 29 with fail
           refine wp_words (by kernel_rfl) (region_told_u 14 (by kernel_rfl) (by kernel_rfl) [false, false, false, false, false, false, false, false, false, false, false, false, false, false] (fun W => Below wz20.heap.size wz20 W) newer [vIs (smV s), vSlo s.sd, vIs (vi f), vIs (.slice A ts.length cA), vTab DD, vIs (.bool true), vIs (smV s), vIs (vi f), vIs (.slice A ts.length cA), vIs (.bool true), vIs (.bool true), vIs (.bool true), vIs (.bool true), vIs (.bool true)] (by repeat' first | refine And.intro ?_ ?_ | exact trivial | exact rfl | (intro v W h; obtain rfl : v = _ := h; first | rfl | (simp; done) | (simp [undef]; done))) (by repeat' first | refine And.intro ?_ ?_ | exact trivial | exact (fun h => Bool.noConfusion (show false = true from h)) | exact (fun _ _ => rfl)) (fun h k => newer_trans h k) (pickD_stable _ ⟨vIs_st, vSlo_st, vIs_st, vIs_st, vTab_st, vIs_st, vIs_st, vIs_st, vIs_st, vIs_st, vIs_st, vIs_st, vIs_st, vIs_st, trivial⟩) (Below.refl _ wz20).drew (Below.refl _ _) ?_ ?_)
           ·refine ⟨.inr ?_, .inr ?_, .inr ?_, .inr ?_, .inr ?_, .inr ?_, .inr ?_, .inr ?_, .inr ?_, .inr ?_, .inr ?_, .inr ?_, .inr ?_, .inr ?_, trivial⟩
            ·intro a W hG hR hO hp; have h8 := hO.slot 8 (by kernel_rfl); have c0 := keep_cell x0 hG; have c1 := keep_cell x1 hG; refine kY (v := smV s) hG rfl ?_; simp [slotOf] at h8; simp [execOp, go_sem, h8, c0, c1]
            ·intro a W hG hR hO hp
             have h167 : slotOf a 167 = smV s := hp.1
             refine wp_enters (f := 19) (args := #[smV s]) ?_ ((lawSlope s W (HOK.out.1.next (newer_trans H88.out.1 hG)) HFW.out).mono ?_)
             ·simp [slotOf] at h167
              simp [go_sem, h167]
             ·rintro e w' ⟨s2, rfl, h1, h2, hb⟩
              exact ⟨_, rfl, _, rfl, ⟨s2, rfl, h1, h2⟩, hb, below_next hG hb⟩
            ·exact fun a W hG _ hO _ => kM 1 rfl (hO.slot 1 (by kernel_rfl)) rfl hG
            ·exact fun a W hG _ hO _ => kM 2 rfl (hO.slot 2 (by kernel_rfl)) rfl hG
            ·intro a W hG hR hO hp
             have h170 : slotOf a 170 = .slice A ts.length cA := hp.1
             refine wp_enters (f := 52) (args := #[.slice A ts.length cA]) ?_ ((table_any _ _ _ W (HTT.out.1.next hG) HTT.out.2.1).mono ?_)
             ·simp [slotOf] at h170
              simp [go_sem, h170]
             ·rintro e w' ⟨t2, A9, c9, rfl, h1, h2, hb⟩
              exact ⟨_, rfl, _, rfl, ⟨t2, A9, c9, rfl, h2.ok, few_map h1 HTT.out.2.1, h1.trans HTT.out.2.2⟩, hb, below_next hG hb⟩
            ·intro a W hG hR hO hp
             have h168 := hp.1
             have h169 : slotOf a 169 = vi f := hp.2.1
             have h171 := hp.2.2.1
             obtain ⟨s2, h168, hd2, hs2⟩ := h168
             obtain ⟨t2, A9, c9, h171, ht2, hf2, hm2⟩ := h171
             have hpv := HPV.out s2 t2 A9 c9 W hd2 hs2 ht2 hf2 hm2
             refine wp_enters (f := 51) (args := #[smV s2, vi f, .slice A9 t2.length c9]) ?_ (hpv.mono ?_)
             ·simp [slotOf] at h168 h169 h171
              simp [go_sem, h168, h169, h171]
             ·rintro e w' ⟨rfl, hb⟩
              exact ⟨_, rfl, _, rfl, rfl, hb, below_next hG hb⟩
            ·intro a W hG hR hO hp; have h8 := hO.slot 8 (by kernel_rfl); have c0 := keep_cell x0 hG; have c1 := keep_cell x1 hG; refine kY (v := smV s) hG rfl ?_; simp [slotOf] at h8; simp [execOp, go_sem, h8, c0, c1]
            ·exact fun a W hG _ hO _ => kM 1 rfl (hO.slot 1 (by kernel_rfl)) rfl hG
            ·exact fun a W hG _ hO _ => kM 2 rfl (hO.slot 2 (by kernel_rfl)) rfl hG
            ·intro a W hG hR hO hp
             have h173 : slotOf a 173 = smV s := hp.1
             have h174 : slotOf a 174 = vi f := hp.2.1
             have h175 : slotOf a 175 = .slice A ts.length cA := hp.2.2.1
             refine wp_enters (f := 53) (args := #[smV s, vi f, .slice A ts.length cA]) ?_ ((HPR.out _ _ _ W (newer_trans H88.out.1 hG) (HTT.out.1.next hG) HTT.out.2.1 HTT.out.2.2).mono ?_)
             ·simp [slotOf] at h173 h174 h175
              simp [go_sem, h173, h174, h175]
             ·rintro e w' ⟨rfl, hb⟩
              exact ⟨_, rfl, _, rfl, rfl, hb, below_next hG hb⟩
            ·intro a W hG hR hO hp; have h172 : slotOf a 172 = .bool true := hp.1; have h176 : slotOf a 176 = .bool true := hp.2.1; refine kY (v := .bool true) hG rfl ?_; simp [slotOf] at h172 h176; simp [execOp, go_sem, h172, h176]
            ·exact fun a W hG _ _ hp => kM 177 rfl hp.1 rfl hG
            ·intro a W hG hR hO hp
             refine wp_enters (f := 17) (args := #[]) ?_ ((wakes_any W).mono ?_)
             ·skip
              simp [go_sem]
             ·rintro e w' ⟨rfl, hb⟩
              exact ⟨_, rfl, _, rfl, rfl, hb, below_next hG hb⟩
            ·intro a W hG hR hO hp; have h178 : slotOf a 178 = .bool true := hp.1; have h179 : slotOf a 179 = .bool true := hp.2.1; refine kY (v := .bool true) hG rfl ?_; simp [slotOf] at h178 h179; simp [execOp, go_sem, h178, h179]
           ·intro wz29 hG hR
            rintro _ rfl _ - _ rfl _ rfl _ - _ rfl _ rfl _ rfl _ rfl _ rfl _ rfl _ rfl _ rfl _ rfl
            change wpList _ _ _ _ _ _
            simp only [Act.put, List.setIfInBounds_toArray, List.set_cons_zero, List.set_cons_succ, List.drop_succ_cons, List.drop_zero]
            have H90 := Lib.hid (And.intro ((newer_trans H88.out.1 hG)) ((H88.out.2.below hG H88.out.2.lt)))
            clear hG hR H88 x0 x1
            go_wp2_with fail
            go_ret
            exact ⟨rfl, H90.out.1⟩
        | true =>
         have x0 := H87.out.2.at 0 (v := .slice s.a s.cs.length s.c) rfl
         have x1 := H87.out.2.at 1 (v := vi s.least) rfl
         go_upto_region 20 with fail
         refine wp_words (by kernel_rfl) (region_told_u 24 (by kernel_rfl) (by kernel_rfl) [false, false, false, false, false, false, false, false, false, false, false, false, false, false, false, false, false, false, false, false, false, false, false, false] (fun W => Below w86.heap.size w86 W) newer [vIs (vi 10), vIs (.bool true), vIs (.bool true), vIs (vi 10), vIs (.bool false), vIs (.bool false), vIs (.slice none 0 0), vIs (.int .i64 (0 : Nat)), vIs (.bool false), vIs (.bool false), vIs (.bool false), vIs (.bool false), vIs (smV s), vIs (.bool true), vIs (.bool true), vIs (vi 10), vIs (.bool false), vIs (smV s), vIs (smV s), vAll s, vIs (vi f), vIs (.bool false), vIs (.bool false), vIs (.bool false)] (by repeat' first | refine And.intro ?_ ?_ | exact trivial | exact rfl | (intro v W h; obtain rfl : v = _ := h; first | rfl | (simp; done) | (simp [undef]; done))) (by repeat' first | refine And.intro ?_ ?_ | exact trivial | exact (fun h => Bool.noConfusion (show false = true from h)) | exact (fun _ _ => rfl)) (fun h k => newer_trans h k) (pickD_stable _ ⟨vIs_st, vIs_st, vIs_st, vIs_st, vIs_st, vIs_st, vIs_st, vIs_st, vIs_st, vIs_st, vIs_st, vIs_st, vIs_st, vIs_st, vIs_st, vIs_st, vIs_st, vIs_st, vIs_st, vAll_st, vIs_st, vIs_st, vIs_st, vIs_st, trivial⟩) (Below.refl _ w86).drew (Below.refl _ _) ?_ ?_)
         ·refine ⟨.inr ?_, .inr ?_, .inr ?_, .inr ?_, .inr ?_, .inr ?_, .inr ?_, .inr ?_, .inr ?_, .inr ?_, .inr ?_, .inr ?_, .inr ?_, .inr ?_, .inr ?_, .inr ?_, .inr ?_, .inr ?_, .inr ?_, .inr ?_, .inr ?_, .inr ?_, .inr ?_, .inr ?_, trivial⟩
          ·exact fun a W hG _ hO _ => kM 20 rfl (hO.slot 20 (by kernel_rfl)) rfl hG
          ·intro a W hG hR hO hp; have h103 : slotOf a 103 = vi 10 := hp.1; refine kY (v := .bool true) hG rfl ?_; simp [slotOf] at h103; simp [execOp, go_sem, h103]
          ·exact fun a W hG _ _ hp => kM 104 rfl hp.1 rfl hG
          ·exact fun a W hG _ hO _ => kM 20 rfl (hO.slot 20 (by kernel_rfl)) rfl hG
          ·intro a W hG hR hO hp; have h106 : slotOf a 106 = vi 10 := hp.1; refine kY (v := .bool false) hG rfl ?_; simp [slotOf] at h106; simp [execOp, go_sem, h106]
          ·exact fun a W hG _ _ hp => kM 107 rfl hp.1 rfl hG
          ·exact fun a W hG _ hO _ => kM 19 rfl (hO.slot 19 (by kernel_rfl)) rfl hG
          ·intro a W hG hR hO hp; have h109 : slotOf a 109 = .slice none 0 0 := hp.1; refine kY (v := .int .i64 (0 : Nat)) hG rfl ?_; simp [slotOf] at h109; simp [go_sem, h109]
          ·intro a W hG hR hO hp; have h110 : slotOf a 110 = .int .i64 (0 : Nat) := hp.1; refine kY (v := .bool false) hG rfl ?_; simp [slotOf] at h110; simp [execOp, go_sem, h110]
          ·intro a W hG hR hO hp; have h108 : slotOf a 108 = .bool false := hp.1; have h111 : slotOf a 111 = .bool false := hp.2.1; refine kY (v := .bool false) hG rfl ?_; simp [slotOf] at h108 h111; simp [execOp, go_sem, h108, h111]
          ·intro a W hG hR hO hp; have h105 : slotOf a 105 = .bool true := hp.1; have h112 : slotOf a 112 = .bool false := hp.2.1; refine kY (v := .bool false) hG rfl ?_; simp [slotOf] at h105 h112; simp [execOp, go_sem, h105, h112]
          ·exact fun a W hG _ _ hp => kM 113 rfl hp.1 rfl hG
          ·intro a W hG hR hO hp; have h8 := hO.slot 8 (by kernel_rfl); have c0 := keep_cell x0 hG; have c1 := keep_cell x1 hG; refine kY (v := smV s) hG rfl ?_; simp [slotOf] at h8; simp [execOp, go_sem, h8, c0, c1]
          ·intro a W hG hR hO hp
           have h115 : slotOf a 115 = smV s := hp.1
           refine wp_enters (f := 24) (args := #[smV s]) ?_ ((HFE.out W (newer_trans H87.out.1 hG)).mono ?_)
           ·simp [slotOf] at h115
            simp [go_sem, h115]
           ·rintro e w' ⟨rfl, hb⟩
            exact ⟨_, rfl, _, rfl, rfl, hb, below_next hG hb⟩
          ·exact fun a W hG _ _ hp => kM 116 rfl hp.1 rfl hG
          ·exact fun a W hG _ hO _ => kM 20 rfl (hO.slot 20 (by kernel_rfl)) rfl hG
          ·intro a W hG hR hO hp; have h118 : slotOf a 118 = vi 10 := hp.1; refine kY (v := .bool false) hG rfl ?_; simp [slotOf] at h118; simp [execOp, go_sem, h118]
          ·intro a W hG hR hO hp; have h8 := hO.slot 8 (by kernel_rfl); have c0 := keep_cell x0 hG; have c1 := keep_cell x1 hG; refine kY (v := smV s) hG rfl ?_; simp [slotOf] at h8; simp [execOp, go_sem, h8, c0, c1]
          ·intro a W hG hR hO hp; have h8 := hO.slot 8 (by kernel_rfl); have c0 := keep_cell x0 hG; have c1 := keep_cell x1 hG; refine kY (v := smV s) hG rfl ?_; simp [slotOf] at h8; simp [execOp, go_sem, h8, c0, c1]
          ·intro a W hG hR hO hp
           have h121 : slotOf a 121 = smV s := hp.1
           refine wp_enters (f := 28) (args := #[smV s]) ?_ ((all_in s W (HOK.out.1.next (newer_trans H87.out.1 hG)) HSD.out.1).mono ?_)
           ·simp [slotOf] at h121
            simp [go_sem, h121]
           ·rintro e w' ⟨us, A9, c9, rfl, h1, hb⟩
            exact ⟨_, rfl, _, rfl, ⟨us, A9, c9, rfl, h1⟩, hb, below_next hG hb⟩
          ·exact fun a W hG _ hO _ => kM 1 rfl (hO.slot 1 (by kernel_rfl)) rfl hG
          ·intro a W hG hR hO hp
           have h120 : slotOf a 120 = smV s := hp.1
           have h122 := hp.2.1
           have h123 : slotOf a 123 = vi f := hp.2.2.1
           obtain ⟨us, A9, c9, h122, ha⟩ := h122
           refine wp_enters (f := 33) (args := #[smV s, .slice A9 us.length c9, vi f]) ?_ ((HBE.out us A9 c9 W (newer_trans H87.out.1 hG) ha).mono ?_)
           ·simp [slotOf] at h120 h122 h123
            simp [go_sem, h120, h122, h123]
           ·rintro e w' ⟨rfl, hb⟩
            exact ⟨_, rfl, _, rfl, rfl, hb, below_next hG hb⟩
          ·intro a W hG hR hO hp; have h119 : slotOf a 119 = .bool false := hp.1; have h124 : slotOf a 124 = .bool false := hp.2.1; refine kY (v := .bool false) hG rfl ?_; simp [slotOf] at h119 h124; simp [execOp, go_sem, h119, h124]
          ·intro a W hG hR hO hp; have h117 : slotOf a 117 = .bool true := hp.1; have h125 : slotOf a 125 = .bool false := hp.2.1; refine kY (v := .bool false) hG rfl ?_; simp [slotOf] at h117 h125; simp [execOp, go_sem, h117, h125]
         ·intro wz20 hG hR
          rintro _ rfl _ rfl _ rfl _ rfl _ rfl _ rfl _ rfl _ rfl _ rfl _ rfl _ rfl _ rfl _ rfl _ rfl _ rfl _ rfl _ rfl _ rfl _ rfl _ - _ rfl _ rfl _ rfl _ rfl
          change wpList _ _ _ _ _ _
          simp only [Act.put, List.setIfInBounds_toArray, List.set_cons_zero, List.set_cons_succ, List.drop_succ_cons, List.drop_zero]
          have H91 := Lib.hid (And.intro ((newer_trans H87.out.1 hG)) ((H87.out.2.below hG H87.out.2.lt)))
          clear hG hR HFE HBE H87 x0 x1
          have x0 := H91.out.2.at 0 (v := .slice s.a s.cs.length s.c) rfl
          have x1 := H91.out.2.at 1 (v := vi s.least) rfl
          have HTT := Lib.hid (And.intro (HOK.out.2.next H91.out.1) (And.intro HTF.out (show ts.map Rw.d = ts.map Rw.d from rfl)))
          obtain ⟨DD, hDD⟩ : ∃ D, D = ts.map Rw.d := ⟨_, rfl⟩
          have HTT : Hid (TbOk ts A wz20 /\ TbFew ts /\ ts.map Rw.d = DD) := Lib.hid ⟨HTT.out.1, HTT.out.2.1, hDD.symm⟩
          clear hDD
          obtain ⟨p, hp⟩ : ∃ p, p = provO s.sd f DD := ⟨_, rfl⟩
          have HPV := Lib.hid (HPVQ.out DD p hp.symm).1
          have HPR := Lib.hid (HPVQ.out DD p hp.symm).2
          clear hp
          cases p with
          | false =>
           have x0 := H91.out.2.at 0 (v := .slice s.a s.cs.length s.c) rfl
           have x1 := H91.out.2.at 1 (v := vi s.least) rfl
           go_upto_region 29 with fail
           refine wp_words (by kernel_rfl) (region_told_u 14 (by kernel_rfl) (by kernel_rfl) [false, false, false, false, false, false, false, false, false, false, false, false, false, false] (fun W => Below wz20.heap.size wz20 W) newer [vIs (smV s), vSlo s.sd, vIs (vi f), vIs (.slice A ts.length cA), vTab DD, vIs (.bool false), vIs (smV s), vIs (vi f), vIs (.slice A ts.length cA), vIs (.bool false), vIs (.bool true), vIs (.bool true), vIs (.bool true), vIs (.bool true)] (by repeat' first | refine And.intro ?_ ?_ | exact trivial | exact rfl | (intro v W h; obtain rfl : v = _ := h; first | rfl | (simp; done) | (simp [undef]; done))) (by repeat' first | refine And.intro ?_ ?_ | exact trivial | exact (fun h => Bool.noConfusion (show false = true from h)) | exact (fun _ _ => rfl)) (fun h k => newer_trans h k) (pickD_stable _ ⟨vIs_st, vSlo_st, vIs_st, vIs_st, vTab_st, vIs_st, vIs_st, vIs_st, vIs_st, vIs_st, vIs_st, vIs_st, vIs_st, vIs_st, trivial⟩) (Below.refl _ wz20).drew (Below.refl _ _) ?_ ?_)
           ·refine ⟨.inr ?_, .inr ?_, .inr ?_, .inr ?_, .inr ?_, .inr ?_, .inr ?_, .inr ?_, .inr ?_, .inr ?_, .inr ?_, .inr ?_, .inr ?_, .inr ?_, trivial⟩
            ·intro a W hG hR hO hp; have h8 := hO.slot 8 (by kernel_rfl); have c0 := keep_cell x0 hG; have c1 := keep_cell x1 hG; refine kY (v := smV s) hG rfl ?_; simp [slotOf] at h8; simp [execOp, go_sem, h8, c0, c1]
            ·intro a W hG hR hO hp
             have h167 : slotOf a 167 = smV s := hp.1
             refine wp_enters (f := 19) (args := #[smV s]) ?_ ((lawSlope s W (HOK.out.1.next (newer_trans H91.out.1 hG)) HFW.out).mono ?_)
             ·simp [slotOf] at h167
              simp [go_sem, h167]
             ·rintro e w' ⟨s2, rfl, h1, h2, hb⟩
              exact ⟨_, rfl, _, rfl, ⟨s2, rfl, h1, h2⟩, hb, below_next hG hb⟩
            ·exact fun a W hG _ hO _ => kM 1 rfl (hO.slot 1 (by kernel_rfl)) rfl hG
            ·exact fun a W hG _ hO _ => kM 2 rfl (hO.slot 2 (by kernel_rfl)) rfl hG
            ·intro a W hG hR hO hp
             have h170 : slotOf a 170 = .slice A ts.length cA := hp.1
             refine wp_enters (f := 52) (args := #[.slice A ts.length cA]) ?_ ((table_any _ _ _ W (HTT.out.1.next hG) HTT.out.2.1).mono ?_)
             ·simp [slotOf] at h170
              simp [go_sem, h170]
             ·rintro e w' ⟨t2, A9, c9, rfl, h1, h2, hb⟩
              exact ⟨_, rfl, _, rfl, ⟨t2, A9, c9, rfl, h2.ok, few_map h1 HTT.out.2.1, h1.trans HTT.out.2.2⟩, hb, below_next hG hb⟩
            ·intro a W hG hR hO hp
             have h168 := hp.1
             have h169 : slotOf a 169 = vi f := hp.2.1
             have h171 := hp.2.2.1
             obtain ⟨s2, h168, hd2, hs2⟩ := h168
             obtain ⟨t2, A9, c9, h171, ht2, hf2, hm2⟩ := h171
             have hpv := HPV.out s2 t2 A9 c9 W hd2 hs2 ht2 hf2 hm2
             refine wp_enters (f := 51) (args := #[smV s2, vi f, .slice A9 t2.length c9]) ?_ (hpv.mono ?_)
             ·simp [slotOf] at h168 h169 h171
              simp [go_sem, h168, h169, h171]
             ·rintro e w' ⟨rfl, hb⟩
              exact ⟨_, rfl, _, rfl, rfl, hb, below_next hG hb⟩
            ·intro a W hG hR hO hp; have h8 := hO.slot 8 (by kernel_rfl); have c0 := keep_cell x0 hG; have c1 := keep_cell x1 hG; refine kY (v := smV s) hG rfl ?_; simp [slotOf] at h8; simp [execOp, go_sem, h8, c0, c1]
            ·exact fun a W hG _ hO _ => kM 1 rfl (hO.slot 1 (by kernel_rfl)) rfl hG
            ·exact fun a W hG _ hO _ => kM 2 rfl (hO.slot 2 (by kernel_rfl)) rfl hG
            ·intro a W hG hR hO hp
             have h173 : slotOf a 173 = smV s := hp.1
             have h174 : slotOf a 174 = vi f := hp.2.1
             have h175 : slotOf a 175 = .slice A ts.length cA := hp.2.2.1
             refine wp_enters (f := 53) (args := #[smV s, vi f, .slice A ts.length cA]) ?_ ((HPR.out _ _ _ W (newer_trans H91.out.1 hG) (HTT.out.1.next hG) HTT.out.2.1 HTT.out.2.2).mono ?_)
             ·simp [slotOf] at h173 h174 h175
              simp [go_sem, h173, h174, h175]
             ·rintro e w' ⟨rfl, hb⟩
              exact ⟨_, rfl, _, rfl, rfl, hb, below_next hG hb⟩
            ·intro a W hG hR hO hp; have h172 : slotOf a 172 = .bool false := hp.1; have h176 : slotOf a 176 = .bool false := hp.2.1; refine kY (v := .bool true) hG rfl ?_; simp [slotOf] at h172 h176; simp [execOp, go_sem, h172, h176]
            ·exact fun a W hG _ _ hp => kM 177 rfl hp.1 rfl hG
            ·intro a W hG hR hO hp
             refine wp_enters (f := 17) (args := #[]) ?_ ((wakes_any W).mono ?_)
             ·skip
              simp [go_sem]
             ·rintro e w' ⟨rfl, hb⟩
              exact ⟨_, rfl, _, rfl, rfl, hb, below_next hG hb⟩
            ·intro a W hG hR hO hp; have h178 : slotOf a 178 = .bool true := hp.1; have h179 : slotOf a 179 = .bool true := hp.2.1; refine kY (v := .bool true) hG rfl ?_; simp [slotOf] at h178 h179; simp [execOp, go_sem, h178, h179]
           ·intro wz29 hG hR
            rintro _ rfl _ - _ rfl _ rfl _ - _ rfl _ rfl _ rfl _ rfl _ rfl _ rfl _ rfl _ rfl _ rfl
            change wpList _ _ _ _ _ _
            simp only [Act.put, List.setIfInBounds_toArray, List.set_cons_zero, List.set_cons_succ, List.drop_succ_cons, List.drop_zero]
            have H92 := Lib.hid (And.intro ((newer_trans H91.out.1 hG)) ((H91.out.2.below hG H91.out.2.lt)))
            clear hG hR H91 x0 x1
            go_wp2_with fail
            go_ret
            exact ⟨rfl, H92.out.1⟩
          | true =>
           have x0 := H91.out.2.at 0 (v := .slice s.a s.cs.length s.c) rfl
           have x1 := H91.out.2.at 1 (v := vi s.least) rfl
           go_upto_region 29 with fail
           refine wp_words (by kernel_rfl) (region_told_u 14 (by kernel_rfl) (by kernel_rfl) [false, false, false, false, false, false, false, false, false, false, false, false, false, false] (fun W => Below wz20.heap.size wz20 W) newer [vIs (smV s), vSlo s.sd, vIs (vi f), vIs (.slice A ts.length cA), vTab DD, vIs (.bool true), vIs (smV s), vIs (vi f), vIs (.slice A ts.length cA), vIs (.bool true), vIs (.bool true), vIs (.bool true), vIs (.bool true), vIs (.bool true)] (by repeat' first | refine And.intro ?_ ?_ | exact trivial | exact rfl | (intro v W h; obtain rfl : v = _ := h; first | rfl | (simp; done) | (simp [undef]; done))) (by repeat' first | refine And.intro ?_ ?_ | exact trivial | exact (fun h => Bool.noConfusion (show false = true from h)) | exact (fun _ _ => rfl)) (fun h k => newer_trans h k) (pickD_stable _ ⟨vIs_st, vSlo_st, vIs_st, vIs_st, vTab_st, vIs_st, vIs_st, vIs_st, vIs_st, vIs_st, vIs_st, vIs_st, vIs_st, vIs_st, trivial⟩) (Below.refl _ wz20).drew (Below.refl _ _) ?_ ?_)
           ·refine ⟨.inr ?_, .inr ?_, .inr ?_, .inr ?_, .inr ?_, .inr ?_, .inr ?_, .inr ?_, .inr ?_, .inr ?_, .inr ?_, .inr ?_, .inr ?_, .inr ?_, trivial⟩
            ·intro a W hG hR hO hp; have h8 := hO.slot 8 (by kernel_rfl); have c0 := keep_cell x0 hG; have c1 := keep_cell x1 hG; refine kY (v := smV s) hG rfl ?_; simp [slotOf] at h8; simp [execOp, go_sem, h8, c0, c1]
            ·intro a W hG hR hO hp
             have h167 : slotOf a 167 = smV s := hp.1
             refine wp_enters (f := 19) (args := #[smV s]) ?_ ((lawSlope s W (HOK.out.1.next (newer_trans H91.out.1 hG)) HFW.out).mono ?_)
             ·simp [slotOf] at h167
              simp [go_sem, h167]
             ·rintro e w' ⟨s2, rfl, h1, h2, hb⟩
              exact ⟨_, rfl, _, rfl, ⟨s2, rfl, h1, h2⟩, hb, below_next hG hb⟩
            ·exact fun a W hG _ hO _ => kM 1 rfl (hO.slot 1 (by kernel_rfl)) rfl hG
            ·exact fun a W hG _ hO _ => kM 2 rfl (hO.slot 2 (by kernel_rfl)) rfl hG
            ·intro a W hG hR hO hp
             have h170 : slotOf a 170 = .slice A ts.length cA := hp.1
             refine wp_enters (f := 52) (args := #[.slice A ts.length cA]) ?_ ((table_any _ _ _ W (HTT.out.1.next hG) HTT.out.2.1).mono ?_)
             ·simp [slotOf] at h170
              simp [go_sem, h170]
             ·rintro e w' ⟨t2, A9, c9, rfl, h1, h2, hb⟩
              exact ⟨_, rfl, _, rfl, ⟨t2, A9, c9, rfl, h2.ok, few_map h1 HTT.out.2.1, h1.trans HTT.out.2.2⟩, hb, below_next hG hb⟩
            ·intro a W hG hR hO hp
             have h168 := hp.1
             have h169 : slotOf a 169 = vi f := hp.2.1
             have h171 := hp.2.2.1
             obtain ⟨s2, h168, hd2, hs2⟩ := h168
             obtain ⟨t2, A9, c9, h171, ht2, hf2, hm2⟩ := h171
             have hpv := HPV.out s2 t2 A9 c9 W hd2 hs2 ht2 hf2 hm2
             refine wp_enters (f := 51) (args := #[smV s2, vi f, .slice A9 t2.length c9]) ?_ (hpv.mono ?_)
             ·simp [slotOf] at h168 h169 h171
              simp [go_sem, h168, h169, h171]
             ·rintro e w' ⟨rfl, hb⟩
              exact ⟨_, rfl, _, rfl, rfl, hb, below_next hG hb⟩
            ·intro a W hG hR hO hp; have h8 := hO.slot 8 (by kernel_rfl); have c0 := keep_cell x0 hG; have c1 := keep_cell x1 hG; refine kY (v := smV s) hG rfl ?_; simp [slotOf] at h8; simp [execOp, go_sem, h8, c0, c1]
            ·exact fun a W hG _ hO _ => kM 1 rfl (hO.slot 1 (by kernel_rfl)) rfl hG
            ·exact fun a W hG _ hO _ => kM 2 rfl (hO.slot 2 (by kernel_rfl)) rfl hG
            ·intro a W hG hR hO hp
             have h173 : slotOf a 173 = smV s := hp.1
             have h174 : slotOf a 174 = vi f := hp.2.1
             have h175 : slotOf a 175 = .slice A ts.length cA := hp.2.2.1
             refine wp_enters (f := 53) (args := #[smV s, vi f, .slice A ts.length cA]) ?_ ((HPR.out _ _ _ W (newer_trans H91.out.1 hG) (HTT.out.1.next hG) HTT.out.2.1 HTT.out.2.2).mono ?_)
             ·simp [slotOf] at h173 h174 h175
              simp [go_sem, h173, h174, h175]
             ·rintro e w' ⟨rfl, hb⟩
              exact ⟨_, rfl, _, rfl, rfl, hb, below_next hG hb⟩
            ·intro a W hG hR hO hp; have h172 : slotOf a 172 = .bool true := hp.1; have h176 : slotOf a 176 = .bool true := hp.2.1; refine kY (v := .bool true) hG rfl ?_; simp [slotOf] at h172 h176; simp [execOp, go_sem, h172, h176]
            ·exact fun a W hG _ _ hp => kM 177 rfl hp.1 rfl hG
            ·intro a W hG hR hO hp
             refine wp_enters (f := 17) (args := #[]) ?_ ((wakes_any W).mono ?_)
             ·skip
              simp [go_sem]
             ·rintro e w' ⟨rfl, hb⟩
              exact ⟨_, rfl, _, rfl, rfl, hb, below_next hG hb⟩
            ·intro a W hG hR hO hp; have h178 : slotOf a 178 = .bool true := hp.1; have h179 : slotOf a 179 = .bool true := hp.2.1; refine kY (v := .bool true) hG rfl ?_; simp [slotOf] at h178 h179; simp [execOp, go_sem, h178, h179]
           ·intro wz29 hG hR
            rintro _ rfl _ - _ rfl _ rfl _ - _ rfl _ rfl _ rfl _ rfl _ rfl _ rfl _ rfl _ rfl _ rfl
            change wpList _ _ _ _ _ _
            simp only [Act.put, List.setIfInBounds_toArray, List.set_cons_zero, List.set_cons_succ, List.drop_succ_cons, List.drop_zero]
            have H93 := Lib.hid (And.intro ((newer_trans H91.out.1 hG)) ((H91.out.2.below hG H91.out.2.lt)))
            clear hG hR H91 x0 x1
            go_wp2_with fail
            go_ret
            exact ⟨rfl, H93.out.1⟩
end
set_option maxRecDepth 100000 in
set_option maxHeartbeats 1000000 in
theorem slopeProofs_lifted (os : Os) (started : os.Started) (H : Type) (enc : TypeId × Value -> H) :
  ReturnsInHanded {} Try.checked os 13 .any (Rows.slopeProofsSpec.pre6 enc Try.prog Try.f13 Rows.slopeProofsRow.domain false) (Rows.slopeProofsSpec.post enc Try.prog Try.f13 false true false false) := by
 refine returnsInHanded_of_change (C := Try.checked) Try.own started (by kernel_rfl) Try.func13
  (ChangeSpec.witness6 (enc := enc) (C := Try.checked) false ⟨#[], #[.agg #[.slice none 0 0, .int .i64 0], .int .i64 0, .slice none 0 0, .bool false, .int .u8 0, .int .u8 0, .int .u8 0, .int .i8 0], []⟩ 8 (by kernel_rfl) (by kernel_rfl) (by kernel_rfl) (by kernel_rfl)) ?_
 intro W base args ds gs before hval0 hW hcnd _
 have hval : ∀ (j : Nat) t v, Try.f13.params[j]? = some t -> args[j]? = some v -> Value.okWide Try.prog W .any base t v := hval0
 have hW' := hW
 obtain ⟨p, q, hA0, hV, rfl, hfz, hnd⟩ := hW
 have hA : DataW.TrodAll enc Try.prog W 0 (fun _ => true) true Try.f13.params.toList args.toList ds p := hA0
 rw [Try.params13] at hA hval
 obtain ⟨v0, vs0, d0, ds0, p0, q0, hargs, rfl, rfl, h0, r0⟩ := trodAll_cons hA
 obtain ⟨v1, vs1, d1, ds1, p1, q1, rfl, rfl, rfl, h1, r1⟩ := trodAll_cons r0
 obtain ⟨v2, vs2, d2, ds2, p2, q2, rfl, rfl, rfl, h2, r2⟩ := trodAll_cons r1
 obtain ⟨v3, vs3, d3, ds3, p3, q3, rfl, rfl, rfl, h3, r3⟩ := trodAll_cons r2
 obtain ⟨v4, vs4, d4, ds4, p4, q4, rfl, rfl, rfl, h4, r4⟩ := trodAll_cons r3
 obtain ⟨v5, vs5, d5, ds5, p5, q5, rfl, rfl, rfl, h5, r5⟩ := trodAll_cons r4
 obtain ⟨v6, vs6, d6, ds6, p6, q6, rfl, rfl, rfl, h6, r6⟩ := trodAll_cons r5
 obtain ⟨v7, vs7, d7, ds7, p7, q7, rfl, rfl, rfl, h7, r7⟩ := trodAll_cons r6
 obtain ⟨rfl, rfl, rfl⟩ := trodAll_nil r7
 obtain rfl : args = #[v0, v1, v2, v3, v4, v5, v6, v7] := by cases args; simp_all
 obtain ⟨rfl, rfl⟩ := trodVars_none hV
 obtain ⟨c0, rfl, hs0⟩ := okWide_struct Try.underlying24 (hval 0 24 v0 rfl rfl)
 have k0 := h0
 have lt0 : ∀ x ∈ p0, x.block < W.heap.size := by obtain ⟨m, hm⟩ := k0; exact DataW.trod_lt m _ _ _ hm
 obtain ⟨g0, e0, hrow0⟩ : ∃ p : Sm, c0.toList = (smC p).toList /\ SmOk p W := by
  obtain ⟨fuel, hf⟩ := h0
  exact slope_open hf
 obtain rfl : c0 = smC g0 := Array.toList_inj.1 e0
 obtain ⟨a1, rfl, rfl, rfl, w1⟩ := open_int Try.underlying3 (hval 1 3 v1 rfl rfl) h1
 obtain ⟨a2, len2, cap2, rfl⟩ := okWide_slice Try.underlying87 (hval 2 87 v2 rfl rfl)
 have k2 := h2
 have lt2 : ∀ x ∈ p2, x.block < W.heap.size := by obtain ⟨m, hm⟩ := k2; exact DataW.trod_lt m _ _ _ hm
 obtain ⟨D2, l2, dp2, e2, hl2, hrow2⟩ : ∃ (D : Option Addr) (l : List Rw) (dp : Nat), (Value.slice a2 len2 cap2).cells.toList = [.slice D l.length dp] /\ l.length <= maxLen /\ TbOk l D W := by
  obtain ⟨fuel, hf⟩ := h2
  exact table_open hf
 simp [Value.cells] at e2
 obtain ⟨rfl, rfl, rfl⟩ := e2
 obtain ⟨a3, rfl, rfl, rfl⟩ := open_bool Try.underlying4 (hval 3 4 v3 rfl rfl) h3
 obtain ⟨a4, rfl, rfl, rfl, w4⟩ := open_int Try.underlying5 (hval 4 5 v4 rfl rfl) h4
 obtain ⟨a5, rfl, rfl, rfl, w5⟩ := open_int Try.underlying5 (hval 5 5 v5 rfl rfl) h5
 obtain ⟨a6, rfl, rfl, rfl, w6⟩ := open_int Try.underlying5 (hval 6 5 v6 rfl rfl) h6
 obtain ⟨a7, rfl, rfl, rfl, w7⟩ := open_int Try.underlying88 (hval 7 88 v7 rfl rfl) h7
 have hb4 := bounds_u8 w4
 have hb5 := bounds_u8 w5
 have hb6 := bounds_u8 w6
 have hb7 := bounds_i8 w7
 clear hA0 hval0
 refine (slopeProofs_walk g0 a1 l2 a2 cap2 a3 a4 a5 a6 a7 W hb4.1 hb4.2 hb5.1 hb5.2 hb6.1 hb6.2 hb7.1 hb7.2 hrow0 hrow2).mono fun e W' ⟨he, bel⟩ => ?_
 subst he
 exact ⟨_, rfl, _, _, _, [], _, [], hW', trodAll_mk1 (shut_bool Try.underlying4 _), (trodAll_cons_mk (Below.trod Try.laidOut (by kernel_rfl) (of_decide_eq_true (by kernel_rfl)) k0 bel lt0) (trodAll_cons_mk (shut_int Try.underlying3 w1) (trodAll_cons_mk (Below.trod Try.laidOut (by kernel_rfl) (of_decide_eq_true (by kernel_rfl)) k2 bel lt2) (trodAll_cons_mk (shut_bool Try.underlying4 a3) (trodAll_cons_mk (shut_int Try.underlying5 w4) (trodAll_cons_mk (shut_int Try.underlying5 w5) (trodAll_cons_mk (shut_int Try.underlying5 w6) (trodAll_cons_mk (shut_int Try.underlying88 w7) trodAll_mk0)))))))), rfl, bel.frame _, fun h => by cases h⟩
theorem slopeProofs_holds : Rows.SlopeProofsSaid :=
 OpenClaim.holds_of_wide 13 Try.f13 rfl rfl rfl rfl rfl rfl rfl ⟨rfl, rfl, rfl, rfl, rfl⟩ rfl rfl rfl rfl rfl (by kernel_rfl) Try.func13 (by kernel_rfl)
  (of_decide_eq_true (by kernel_rfl)) (by unfold Func.isWrapper; first | (rw [if_pos (by decide +kernel)]; kernel_rfl) | (rw [if_neg (by decide +kernel)]; exact ⟨rfl, rfl⟩))
  (fun os started H enc _ => slopeProofs_lifted os started H enc)
end

#print axioms slopeProofs_holds

end Go.Proofs.Ytkenokpobbichaa
