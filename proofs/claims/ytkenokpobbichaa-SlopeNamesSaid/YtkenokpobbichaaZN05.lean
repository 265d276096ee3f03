/- What the last text of this chain needs: CD. -/
import Derived.Test.YtkenokpobbichaaZN04
namespace Go.Proofs.Ytkenokpobbichaa
section
open Go.RowKit Go.Shelf Go.Deep
abbrev vU : Value -> World -> Prop := vIs undef
def tN (D : List (List (List Int))) (r k b : Nat) : Int := iAt ((D.getD r []).getD k []) b
def cS (s : Sd) (f : Int) : Nat -> Nat -> Int := cF (hAt false s) (dAt s) f
theorem cS_is {s : Sd} {f : Int} {k j : Nat} {b : Bd} (h : bedAt s.cols k j = some b) : cS s f k j = costB f (some false) b := by
 have e := hT_at (some false) s h
 simp only [hT] at e
 unfold cS cF costB
 rw [e]
 simp only [dAt, h]
instance instCellT (c : Nat -> Nat -> Int) (big : Int) (n K : Nat) (t : Nat -> Nat -> Nat -> Int) (r k b : Nat) : Decidable (cellT c big n K t r k b) := by
 unfold cellT
 infer_instance
def provB (s : Sd) (f : Int) (D : List (List (List Int))) : Bool := goodB s.K fun r => goodB s.cols.length fun k => goodB s.n fun b => decide (cellT (cS s f) bigN s.n s.K (tN D) r k b)
theorem provB_iff {s : Sd} {f : Int} {D : List (List (List Int))} : provB s f D = true ↔ provesT (cS s f) bigN s.n s.cols.length s.K (tN D) := by
 unfold provB provesT
 simp only [goodB_iff, decide_eq_true_eq]
 exact ⟨fun h r k b hr hk hb => h r hr k hk b hb, fun h r hr k hk b hb => h r k b hr hk hb⟩
def provO (s : Sd) (f : Int) (D : List (List (List Int))) : Bool := decide (askedN s f = 0) && (shT s.n s.cols.length s.least D && provB s f D)
theorem shT_parts {n cols : Nat} {K : Int} {D : List (List (List Int))} (h : shT n cols K D = true) : (D.length : Int) = K /\ ∀ r ∈ D, r.length = cols /\ ∀ l ∈ r, l.length = n /\ ∀ v ∈ l, -bigN <= v /\ v <= bigN := by
 unfold shT at h
 rw [Bool.and_eq_true, decide_eq_true_eq, List.all_eq_true] at h
 refine ⟨h.1, fun r hr => ?_⟩
 have h2 := h.2 r hr
 unfold shR at h2
 rw [Bool.and_eq_true, decide_eq_true_eq, List.all_eq_true] at h2
 refine ⟨h2.1, fun l hl => ?_⟩
 have h3 := h2.2 l hl
 unfold shL at h3
 rw [Bool.and_eq_true, decide_eq_true_eq, List.all_eq_true] at h3
 refine ⟨h3.1, fun v hv => ?_⟩
 have h4 := h3.2 v hv
 simpa [inB] using h4
theorem cS_bd {s : Sd} (hs : SdOk s) {f : Int} (f0 : 0 <= f) (f1 : f <= 10001) (k b : Nat) : -1300100000 <= cS s f k b /\ cS s f k b <= 1300100000 := cF_bd (hd_ok hs false) f0 f1 k b
theorem behind_bd {n : Nat} {row : Nat -> Int} {b : Nat} (hb : b < n) (h : ∀ x, x < n -> -bigN <= row x /\ row x <= bigN) : -bigN <= behindN bigN n row b /\ behindN bigN n row b <= bigN := by
 unfold behindN
 have h1 := (minL_le ((nearL n b).map row) bigN).1
 have h2 : -bigN <= minL bigN ((nearL n b).map row) := minL_bd (fun x hx => by
  obtain ⟨y, hy, rfl⟩ := List.mem_map.1 hx
  exact (h y ((mem_near hb).1 hy).1).1) (by decide)
 exact ⟨h2, h1⟩
structure PvJ (s : Sm) (f : Int) (w : World) (lb : Nat) (W : World) : Prop where
 nw : newer w W
 sx : Whole W w.heap.size 37 (smC s)
 lx : Whole W lb 115 (lkC s f (some false))
theorem PvJ.next {s : Sm} {f : Int} {w W W' : World} {lb : Nat} (h : PvJ s f w lb W) (hb : newer W W') : PvJ s f w lb W' := ⟨newer_trans h.nw hb, h.sx.below hb h.sx.lt, h.lx.below hb h.lx.lt⟩
theorem inAll {w : World} {A : Option Addr} {l : List Int} (h : Row intL 1 w w.heap.size A l) (hn : l ≠ []) : ∃ b off, A = some ⟨b, off, none⟩ /\ ∀ k c, l[k]? = some c -> ∀ W, newer w W -> W.cell? ⟨b, off + k, none⟩ = some (.int .i64 c) := by
 obtain ⟨b, off, e, hb, hc⟩ := h hn
 exact ⟨b, off, e, fun k c hk W hW => keep_cell (by simpa using hc k c hk 0 _ rfl) hW⟩
theorem lnAll {w : World} {A : Option Addr} {l : List Ln} (h : Row lnL 1 w w.heap.size A l) (hn : l ≠ []) : ∃ b off, A = some ⟨b, off, none⟩ /\ ∀ k c, l[k]? = some c -> ∀ W, newer w W -> W.cell? ⟨b, off + k, none⟩ = some (.slice c.a c.l.length c.c) := by
 obtain ⟨b, off, e, hb, hc⟩ := h hn
 exact ⟨b, off, e, fun k c hk W hW => keep_cell (by simpa using hc k c hk 0 _ rfl) hW⟩
theorem rwAll {w : World} {A : Option Addr} {l : List Rw} (h : Row rwL 1 w w.heap.size A l) (hn : l ≠ []) : ∃ b off, A = some ⟨b, off, none⟩ /\ ∀ k c, l[k]? = some c -> ∀ W, newer w W -> W.cell? ⟨b, off + k, none⟩ = some (.slice c.a c.ls.length c.c) := by
 obtain ⟨b, off, e, hb, hc⟩ := h hn
 exact ⟨b, off, e, fun k c hk W hW => keep_cell (by simpa using hc k c hk 0 _ rfl) hW⟩
theorem tN_row {ts : List Rw} {r k : Nat} {x : Rw} {y : Ln} (hx : ts[r]? = some x) (hy : x.ls[k]? = some y) : tN (ts.map Rw.d) r k = iAt y.l := by
 funext b
 unfold tN
 rw [List.getD_eq_getElem?_getD, List.getD_eq_getElem?_getD, List.getElem?_map, hx]
 simp [Rw.d, hy]
theorem tb_shape {ts : List Rw} {n cols : Nat} {K : Int} (h : shT n cols K (ts.map Rw.d) = true) : (ts.length : Int) = K /\ ∀ x ∈ ts, x.ls.length = cols /\ ∀ y ∈ x.ls, y.l.length = n /\ ∀ v ∈ y.l, -bigN <= v /\ v <= bigN := by
 have h1 := shT_parts h
 refine ⟨by simpa using h1.1, fun x hx => ?_⟩
 have h2 := h1.2 _ (List.mem_map.2 ⟨x, hx, rfl⟩)
 refine ⟨by simpa [Rw.d] using h2.1, fun y hy => h2.2 _ (List.mem_map.2 ⟨y, hy, rfl⟩)⟩
theorem tb_at {ts : List Rw} {n cols : Nat} {K : Int} (h : shT n cols K (ts.map Rw.d) = true) {r k : Nat} (hr : r < ts.length) (hk : k < cols) : ∃ x y, ts[r]? = some x /\ x.ls[k]? = some y /\ x.ls.length = cols /\ y.l.length = n /\ (∀ b, b < n -> -bigN <= iAt y.l b /\ iAt y.l b <= bigN) /\ tN (ts.map Rw.d) r k = iAt y.l := by
 obtain ⟨h1, h2⟩ := tb_shape h
 obtain ⟨x, hx⟩ := get_of_lt hr
 obtain ⟨e1, h3⟩ := h2 x (List.mem_of_getElem? hx)
 obtain ⟨y, hy⟩ := get_of_lt (l := x.ls) (k := k) (by omega)
 obtain ⟨e2, h4⟩ := h3 y (List.mem_of_getElem? hy)
 refine ⟨x, y, hx, hy, e1, e2, fun b hb => ?_, tN_row hx hy⟩
 obtain ⟨v, hv⟩ := get_of_lt (l := y.l) (k := b) (by omega)
 rw [iAt_of hv]
 exact h4 v (List.mem_of_getElem? hv)
set_option maxRecDepth 100000 in
set_option maxHeartbeats 2000000 in
theorem prove_any (s : Sm) (f : Int) (ts : List Rw) (A : Option Addr) (c : Nat) (w : World) (hok : SmOk s w) (few : SmFew s) (ht : TbOk ts A w) (tfe : TbFew ts) : Calls Try.prog 51 #[smV s, vi f, .slice A ts.length c] w fun e w' => e = .returned (.bool (provO s.sd f (ts.map Rw.d))) /\ newer w w' := by
 have hnw := newer_allocH w (.cells (smC s) 37)
 have hxb := Whole.made w 37 (smC s)
 obtain ⟨w1, hw1⟩ : ∃ x, x = w.alloc (.cells (smC s) 37) := ⟨_, rfl⟩
 rw [<- hw1] at hnw hxb
 have HW := Lib.hid hw1
 have HA : Hid (Calls Try.prog 72 #[smV s, vi f] w1 fun e w' => e = .returned (vi (askedN s.sd f)) /\ newer w1 w') := Lib.hid (asked_any s f w1 (hok.next hnw) few)
 have H1 := Lib.hid (And.intro hnw hxb)
 have HOK := Lib.hid (And.intro hok ht)
 have HZ : Hid (askedN s.sd f = 0 -> SdOk s.sd /\ 0 <= f /\ f <= 10000) := Lib.hid asked_zero
 obtain ⟨R, hR⟩ : ∃ R, R = provO s.sd f (ts.map Rw.d) := ⟨_, rfl⟩
 rw [<- hR]
 unfold provO at hR
 have x0 := hxb.at 0 (v := .slice s.a s.cs.length s.c) rfl
 have x1 := hxb.at 1 (v := vi s.least) rfl
 obtain ⟨a, ha⟩ : ∃ a, a = askedN s.sd f := ⟨_, rfl⟩
 rw [<- ha] at HA HZ hR
 have HR := Lib.hid hR
 have HTF := Lib.hid tfe
 have HFEW := Lib.hid few
 clear ha hok few ht hw1 hnw hxb hR tfe
 by_cases hz : a = 0
 case neg =>
  have hb1 : (a == 0) = false := by simpa using hz
  have hb2 : (a != 0) = true := by simpa using hz
  have HE : Hid (R = false) := Lib.hid (by rw [HR.out, decide_eq_false hz, Bool.false_and])
  clear hz
  go_enter Try.func51, Try.ntmps51
  go_upto_region 1 with fail
  rw [<- HW.out]
  go_wp2_with fail
  refine (HA.out).mono ?_
  rintro e w2 ⟨rfl, hb⟩
  have HN := Lib.hid (newer_trans H1.out.1 hb)
  clear H1 hb x0 x1
  go_wp2_with fail
  go_ret
  exact ⟨by rw [HE.out] <;> rfl, HN.out⟩
 case pos =>
 subst hz
 obtain ⟨hs, f0, f1⟩ := HZ.out rfl
 have HS := Lib.hid (And.intro hs (And.intro f0 f1))
 have HSH : Hid (∀ W, newer w W -> Calls Try.prog 85 #[lkV s f (some false), .slice A ts.length c] W fun e w' => e = .returned (.bool (shT s.sd.n s.cs.length s.least (ts.map Rw.d))) /\ newer W w') := Lib.hid (fun W hW => shaped_any s f (some false) ts A c W (HOK.out.1.next hW) hs (HOK.out.2.next hW) HTF.out)
 have HR1 : Hid (R = (shT s.sd.n s.cs.length s.least (ts.map Rw.d) && provB s.sd f (ts.map Rw.d))) := Lib.hid (by rw [HR.out, sd_len]; simp [Sm.sd])
 obtain ⟨q, hq⟩ : ∃ q, q = shT s.sd.n s.cs.length s.least (ts.map Rw.d) := ⟨_, rfl⟩
 rw [<- hq] at HSH HR1
 have HQ := Lib.hid hq
 clear hq hs f0 f1 HZ HR
 go_enter Try.func51, Try.ntmps51
 go_upto_region 1 with fail
 rw [<- HW.out]
 go_wp2_with fail
 refine (HA.out).mono ?_
 rintro e w2 ⟨rfl, hb⟩
 have H2 := Lib.hid (And.intro (newer_trans H1.out.1 hb) (H1.out.2.below hb H1.out.2.lt))
 clear H1 hb x0 x1 HA
 have x0 := H2.out.2.at 0 (v := .slice s.a s.cs.length s.c) rfl
 have x1 := H2.out.2.at 1 (v := vi s.least) rfl
 go_wp2_with fail
 refine (below_any s f w2).mono ?_
 rintro e w3 ⟨rfl, hb⟩
 have HF : Hid (newer w (w3.alloc (.cells (lkC s f (some false)) 115)) /\ Whole (w3.alloc (.cells (lkC s f (some false)) 115)) w.heap.size 37 (smC s) /\ Whole (w3.alloc (.cells (lkC s f (some false)) 115)) w3.heap.size 115 (lkC s f (some false))) := Lib.hid (by
  have e1 := newer_allocH w3 (.cells (lkC s f (some false)) 115)
  have e2 := newer_trans hb e1
  exact ⟨newer_trans H2.out.1 e2, H2.out.2.below e2 H2.out.2.lt, Whole.made _ _ _⟩)
 clear H2 hb x0 x1
 obtain ⟨lb, hlb⟩ : ∃ lb, lb = w3.heap.size := ⟨_, rfl⟩
 go_upto_region 4 with fail
 rw [<- hlb] at HF ⊢
 refine genQ (fun X => newer w X /\ Whole X w.heap.size 37 (smC s) /\ Whole X lb 115 (lkC s f (some false))) HF.out ?_
 clear HF hlb
 rintro w4 ⟨p1, p2, p3⟩
 have H4 := Lib.hid (And.intro p1 (And.intro p2 p3))
 have x1 := p2.at 1 (v := vi s.least) rfl
 have x0 := p2.at 0 (v := .slice s.a s.cs.length s.c) rfl
 have l0 := p3.at 0 (v := .slice s.a s.cs.length s.c) rfl
 have l1 := p3.at 1 (v := vi s.least) rfl
 have l2 := p3.at 2 (v := vi f) rfl
 have l3 := p3.at 3 (v := .func (.func (trF (some false))) #[] #[]) rfl
 clear p1 p2 p3
 go_wp2_with fail
 refine (HSH.out w4 H4.out.1).mono ?_
 rintro e w5 ⟨rfl, hb⟩
 have H5 : Hid (PvJ s f w lb w5) := Lib.hid ⟨newer_trans H4.out.1 hb, H4.out.2.1.below hb H4.out.2.1.lt, H4.out.2.2.below hb H4.out.2.2.lt⟩
 clear H4 hb x0 x1 l0 l1 l2 l3 HSH
 cases q with
 | false =>
  have HE : Hid (R = false) := Lib.hid (by rw [HR1.out, Bool.false_and])
  go_wp2_with fail
  go_ret
  exact ⟨by rw [HE.out] <;> rfl, H5.out.nw⟩
 | true =>
 have x0 := H5.out.sx.at 0 (v := .slice s.a s.cs.length s.c) rfl
 have x1 := H5.out.sx.at 1 (v := vi s.least) rfl
 obtain ⟨n, hn⟩ : ∃ n, n = s.sd.n := ⟨_, rfl⟩
 obtain ⟨K, hK⟩ : ∃ K, K = s.sd.K := ⟨_, rfl⟩
 obtain ⟨D, hD⟩ : ∃ D, D = ts.map Rw.d := ⟨_, rfl⟩
 obtain ⟨cF_, hcF⟩ : ∃ g, g = cS s.sd f := ⟨_, rfl⟩
 have HR2 : Hid (R = true ↔ ∀ r k b, r < K -> k < s.cs.length -> b < n -> cellT cF_ bigN n K (tN D) r k b) := Lib.hid (by
  rw [HR1.out, Bool.true_and, provB_iff, hn, hK, hD, hcF, <- sd_len]
  exact Iff.rfl)
 have HTB : Hid (∀ r k, r < ts.length -> k < s.cs.length -> ∃ x y, ts[r]? = some x /\ x.ls[k]? = some y /\ x.ls.length = s.cs.length /\ y.l.length = n /\ (∀ b, b < n -> -bigN <= iAt y.l b /\ iAt y.l b <= bigN) /\ tN D r k = iAt y.l) := Lib.hid (fun r k hr hk => by
  rw [hn, hD]
  exact tb_at HQ.out.symm hr hk)
 have HCO : Hid (∀ (k b : Nat) W, k < s.cs.length -> b < n -> newer w W -> Calls Try.prog 84 #[lkV s f (some false), vi k, vi b] W fun e w' => e = .returned (vi (cF_ k b)) /\ newer W w') := Lib.hid (fun k b W hk hb hW => by
  obtain ⟨x, bd, g1, g2, g3, g4, g5⟩ := sm_bed HS.out.1 hk (hn ▸ hb)
  rw [hcF, cS_is g4]
  exact cost_any s f (some false) k b x bd W (HOK.out.1.next hW) g1 g2 g5 HS.out.2.1 (by have := HS.out.2.2; omega))
 have HCB : Hid (∀ k b : Nat, -1300100000 <= cF_ k b /\ cF_ k b <= 1300100000) := Lib.hid (fun k b => by
  rw [hcF]
  exact cS_bd HS.out.1 HS.out.2.1 (by have := HS.out.2.2; omega) k b)
 have HBH : Hid (∀ (r k b : Nat) (x : Rw) (y : Ln) W, ts[r]? = some x -> x.ls[k]? = some y -> y.l.length = n -> b < n -> newer w W -> Calls Try.prog 82 #[lkV s f (some false), .slice y.a y.l.length y.c, vi b] W fun e w' => e = .returned (vi (behindN bigN n (iAt y.l) b)) /\ newer W w') := Lib.hid (fun r k b x y W hx hy hl hb hW => by
  rw [hn] at hb hl ⊢
  have h := HOK.out.2.next hW
  exact behind_any s f (some false) y.l y.a y.c b W (HOK.out.1.next hW) HS.out.1 hb hl (h.nums x (List.mem_of_getElem? hx) y (List.mem_of_getElem? hy)))
 have HN1 : Hid (1 <= n /\ (K : Int) = s.least /\ 1 <= K /\ 1 <= s.cs.length /\ ts.length = K) := Lib.hid (by
  have e1 := HS.out.1.beds
  have e2 := HS.out.1.least
  have e3 := HS.out.1.cols
  have e4 := (tb_shape HQ.out.symm).1
  rw [sd_len] at e3
  have e5 : s.sd.least = s.least := rfl
  have e6 : s.sd.K = s.sd.least.toNat := rfl
  rw [e5] at e2 e6
  rw [hn, hK]
  omega)
 have hA := HOK.out.2.rows
 obtain ⟨ta, tf, rfl, hct⟩ := rwAll hA (by intro h; have := HN1.out; rw [h] at this; simp at this; omega)
 have HCT := Lib.hid hct
 have HLS : Hid (∀ (r : Nat) (x : Rw), ts[r]? = some x -> x.ls.length = s.cs.length -> ∃ b off, x.a = some ⟨b, off, none⟩ /\ ∀ k c, x.ls[k]? = some c -> ∀ W, newer w W -> W.cell? ⟨b, off + k, none⟩ = some (.slice c.a c.l.length c.c)) := Lib.hid (fun r x hx hl => lnAll (HOK.out.2.lss x (List.mem_of_getElem? hx)) (by intro h; have := HN1.out; rw [h] at hl; simp at hl; omega))
 have HNM : Hid (∀ (r k : Nat) (x : Rw) (y : Ln), ts[r]? = some x -> x.ls[k]? = some y -> y.l.length = n -> ∃ b off, y.a = some ⟨b, off, none⟩ /\ ∀ k c, y.l[k]? = some c -> ∀ W, newer w W -> W.cell? ⟨b, off + k, none⟩ = some (.int .i64 c)) := Lib.hid (fun r k x y hx hy hl => inAll (HOK.out.2.nums x (List.mem_of_getElem? hx) y (List.mem_of_getElem? hy)) (by intro h; have := HN1.out; rw [h] at hl; simp at hl; omega))
 have HTL : Hid (ts.length <= 4 /\ s.cs.length <= 12 /\ n <= 5) := Lib.hid (by
  have e1 := HS.out.1.beds
  have e2 := HS.out.1.least
  have e3 := HS.out.1.cols
  have e4 := HN1.out
  have e5 : s.sd.least = s.least := rfl
  rw [sd_len] at e3
  omega)
 have hl1 : 1 <= s.least := HS.out.1.least.1
 have hl4 : s.least <= 4 := HS.out.1.least.2
 clear hn hK hD hcF hA hct HQ HR1 HFEW HTF HS
 go_wp2_with fail
 go_loopw [30] (fun s30 wr => ∃ r : Nat, s30 = vi r /\ r <= ts.length /\ (∀ r' k b, r' < r -> k < s.cs.length -> b < n -> cellT cF_ bigN n K (tN D) r' k b) /\ PvJ s f w lb wr) (fun s30 _ => ts.length - (intOf s30).toNat)
 case atStart => exact ⟨0, rfl, Nat.zero_le _, fun r' k b h => absurd h (by omega), H5.out⟩
 case round =>
  obtain ⟨r, rfl, hr, hdone, hj⟩ := hrel
  clear H5 x0 x1
  have HD1 := Lib.hid hdone
  have HJ1 := Lib.hid hj
  clear hdone hj
  by_cases hlt : r < ts.length
  case neg =>
   have HE : Hid (R = true) := Lib.hid (by
    rw [HR2.out]
    intro r k b h1 h2 h3
    have := HN1.out
    exact HD1.out r k b (by omega) h2 h3)
   have hltI : ¬ ((r : Int) < ts.length) := by omega
   go_wp2_with fail
   go_ret
   exact ⟨by rw [HE.out] <;> rfl, HJ1.out.nw⟩
  case pos =>
  have hltI : (r : Int) < ts.length := by omega
  have hrb : (r : Int) <= 3 := by have := HTL.out; omega
  have x0 := HJ1.out.sx.at 0 (v := .slice s.a s.cs.length s.c) rfl
  have x1 := HJ1.out.sx.at 1 (v := vi s.least) rfl
  go_wp2_with fail
  go_loopw [36] (fun s36 wr => ∃ k : Nat, s36 = vi k /\ k <= s.cs.length /\ (∀ k' b, k' < k -> b < n -> cellT cF_ bigN n K (tN D) r k' b) /\ PvJ s f w lb wr) (fun s36 _ => s.cs.length - (intOf s36).toNat)
  case atStart => exact ⟨0, rfl, Nat.zero_le _, fun k' b h => absurd h (by omega), HJ1.out⟩
  case round =>
   obtain ⟨k, rfl, hk, hdone, hj⟩ := hrel
   clear HJ1 x0 x1
   have HD2 := Lib.hid hdone
   have HJ2 := Lib.hid hj
   clear hdone hj
   by_cases hltk : k < s.cs.length
   case neg =>
    have hltkI : ¬ ((k : Int) < s.cs.length) := by omega
    go_wp2_with fail
    refine ⟨⟨r + 1, by simp, by omega, ?_, HJ2.out⟩, ?_⟩
    ·intro r' k' b h1 h2 h3
     by_cases e : r' = r
     ·subst e
      exact HD2.out k' b (by omega) h3
     ·exact HD1.out r' k' b (by omega) h2 h3
    ·simp [intOf]
     omega
   case pos =>
   have hltkI : (k : Int) < s.cs.length := by omega
   have hkb : (k : Int) <= 11 := by have := HTL.out; omega
   obtain ⟨x, y, hx, hy, hxl, hyl, hyb, hty⟩ := HTB.out r k hlt hltk
   obtain ⟨xa, xo, hxa, hxc⟩ := HLS.out r x hx hxl
   obtain ⟨ya, yo, hya, hyc⟩ := HNM.out r k x y hx hy hyl
   have ct := HCT.out r x hx wr HJ2.out.nw
   rw [hxa] at ct
   have cx := hxc k y hy wr HJ2.out.nw
   have hxI : (k : Int) < x.ls.length := by omega
   have HXY := Lib.hid (And.intro hx (And.intro hy (And.intro hxl (And.intro hyl (And.intro hyb (And.intro hty (And.intro hxa (And.intro hxc (And.intro hya hyc)))))))))
   rw [hya] at cx
   rw [hyl] at cx
   rw [hxl] at ct
   clear hx hy hxl hyl hyb hty hxa hxc hya hyc
   go_wp2_with fail
   go_loopw [47] (fun s47 wr => ∃ b : Nat, s47 = vi b /\ b <= n /\ (∀ b', b' < b -> cellT cF_ bigN n K (tN D) r k b') /\ PvJ s f w lb wr) (fun s47 _ => n - (intOf s47).toNat)
   case atStart => exact ⟨0, rfl, Nat.zero_le _, fun b' h => absurd h (by omega), HJ2.out⟩
   case round =>
    obtain ⟨b, rfl, hb, hdone, hj⟩ := hrel
    clear HJ2 ct cx
    have HD3 := Lib.hid hdone
    have HJ3 := Lib.hid hj
    clear hdone hj
    by_cases hltb : b < n
    case neg =>
     have hltbI : ¬ ((b : Int) < n) := by omega
     go_wp2_with fail
     refine ⟨⟨k + 1, by simp, by omega, ?_, HJ3.out⟩, ?_⟩
     ·intro k' b h1 h3
      by_cases e : k' = k
      ·subst e
       exact HD3.out b (by omega)
      ·exact HD2.out k' b (by omega) h3
     ·simp [intOf]
      omega
    case pos =>
    have hltbI : (b : Int) < n := by omega
    have hbb : (b : Int) <= 4 := by have := HTL.out; omega
    obtain ⟨cv, hcv⟩ : ∃ cv, cv = cF_ k b := ⟨_, rfl⟩
    obtain ⟨v, hv⟩ : ∃ v, v = tN D r k b := ⟨_, rfl⟩
    obtain ⟨b1, hb1⟩ : ∃ b1, b1 = behindN bigN n (tN D (r - 1) (k - 1)) b := ⟨_, rfl⟩
    obtain ⟨b2, hb2⟩ : ∃ b2, b2 = behindN bigN n (tN D r (k - 1)) b := ⟨_, rfl⟩
    have HC : Hid (∀ W, newer w W -> Calls Try.prog 84 #[lkV s f (some false), vi k, vi b] W fun e w' => e = .returned (vi cv) /\ newer W w') := Lib.hid (fun W hW => by rw [hcv]; exact HCO.out k b W hltk hltb hW)
    have HCE : Hid (cellT cF_ bigN n K (tN D) r k b ↔ ((r = 0 -> v <= cv) /\ (0 < r -> 0 < k -> v <= cv + b1) /\ (r = K - 1 -> 0 < k -> v <= cv + b2) /\ (r = K - 1 -> K - 1 <= k -> 0 <= v))) := Lib.hid (by
     rw [hcv, hv, hb1, hb2]
     exact Iff.rfl)
    have hcb := HCB.out k b
    have hvb := HXY.out.2.2.2.2.1 b hltb
    rw [<- HXY.out.2.2.2.2.2.1, <- hv] at hvb
    rw [<- hcv] at hcb
    have HYC : Hid (y.l[b]? = some v) := Lib.hid (by
     obtain ⟨u, hu⟩ := get_of_lt (l := y.l) (k := b) (by have := HXY.out.2.2.2.1; omega)
     rw [hv, HXY.out.2.2.2.2.2.1, iAt_of hu]
     exact hu)
    have HP1 : Hid (0 < r -> 0 < k -> (-bigN <= b1 /\ b1 <= bigN) /\ ∃ (x1 : Rw) (y1 : Ln) (p1 o1 : Nat), (∀ W, newer w W -> W.cell? ⟨ta, tf + (r - 1), none⟩ = some (.slice (some ⟨p1, o1, none⟩) s.cs.length x1.c)) /\ (∀ W, newer w W -> W.cell? ⟨p1, o1 + (k - 1), none⟩ = some (.slice y1.a y1.l.length y1.c)) /\ ∀ W, newer w W -> Calls Try.prog 82 #[lkV s f (some false), .slice y1.a y1.l.length y1.c, vi b] W fun e w' => e = .returned (vi b1) /\ newer W w') := Lib.hid (fun h0 h1 => by
     obtain ⟨x1, y1, g1, g2, g3, g4, g5, g6⟩ := HTB.out (r - 1) (k - 1) (by omega) (by omega)
     obtain ⟨p1, o1, k1, k2⟩ := HLS.out (r - 1) x1 g1 g3
     rw [hb1, g6]
     refine ⟨behind_bd hltb g5, x1, y1, p1, o1, fun W hW => ?_, fun W hW => k2 (k - 1) y1 g2 W hW, fun W hW => HBH.out (r - 1) (k - 1) b x1 y1 W g1 g2 g4 hltb hW⟩
     have h := HCT.out (r - 1) x1 g1 W hW
     rw [k1, g3] at h
     exact h)
    have HP2 : Hid (0 < k -> (-bigN <= b2 /\ b2 <= bigN) /\ ∃ (y1 : Ln), (∀ W, newer w W -> W.cell? ⟨xa, xo + (k - 1), none⟩ = some (.slice y1.a y1.l.length y1.c)) /\ ∀ W, newer w W -> Calls Try.prog 82 #[lkV s f (some false), .slice y1.a y1.l.length y1.c, vi b] W fun e w' => e = .returned (vi b2) /\ newer W w') := Lib.hid (fun h1 => by
     obtain ⟨x1, y1, g1, g2, g3, g4, g5, g6⟩ := HTB.out r (k - 1) hlt (by omega)
     obtain ⟨q1, q2, q3, q4, q5, q6, q7, q8, _⟩ := HXY.out
     obtain rfl : x = x1 := by rw [q1] at g1; injection g1
     rw [hb2, g6]
     exact ⟨behind_bd hltb g5, y1, fun W hW => q8 (k - 1) y1 g2 W hW, fun W hW => HBH.out r (k - 1) b x y1 W g1 g2 g4 hltb hW⟩)
    have HXC : Hid (∀ W, newer w W -> W.cell? ⟨ta, tf + r, none⟩ = some (.slice (some ⟨xa, xo, none⟩) s.cs.length x.c)) := Lib.hid (fun W hW => by
     obtain ⟨q1, q2, q3, q4, q5, q6, q7, _⟩ := HXY.out
     have h := HCT.out r x q1 W hW
     rw [q7, q3] at h
     exact h)
    have HFAIL : Hid (¬ cellT cF_ bigN n K (tN D) r k b -> R = false) := Lib.hid (fun h => by
     cases hR : R with
     | false => rfl
     | true => exact absurd (HR2.out.1 hR r k b (by have := HN1.out; omega) hltk hltb) h)
    have HON : Hid (cellT cF_ bigN n K (tN D) r k b -> ∀ b', b' < b + 1 -> cellT cF_ bigN n K (tN D) r k b') := Lib.hid (fun h b' hb' => by
     by_cases e : b' = b
     ·subst e
      exact h
     ·exact HD3.out b' (by omega))
    have hvc := HXY.out.2.2.2.2.2.2.2.2.2 b v HYC.out wr HJ3.out.nw
    clear hcv hv hb1 hb2 HTB HLS HNM HCT HBH HCO HCB HR2 HYC HD3 HD2 HD1
    have x1 := HJ3.out.sx.at 1 (v := vi s.least) rfl
    have l0 := HJ3.out.lx.at 0 (v := .slice s.a s.cs.length s.c) rfl
    have l1 := HJ3.out.lx.at 1 (v := vi s.least) rfl
    have l2 := HJ3.out.lx.at 2 (v := vi f) rfl
    have l3 := HJ3.out.lx.at 3 (v := .func (.func (trF (some false))) #[] #[]) rfl
    go_wp2_with fail
    refine (HC.out wr HJ3.out.nw).mono ?_
    rintro e w6 ⟨rfl, hb⟩
    have HJ4 := Lib.hid (HJ3.out.next hb)
    clear hb HJ3 x1 l0 l1 l2 l3 hvc HC
    go_upto_region 17 with fail
    have x1 := HJ4.out.sx.at 1 (v := vi s.least) rfl
    have l0 := HJ4.out.lx.at 0 (v := .slice s.a s.cs.length s.c) rfl
    have l1 := HJ4.out.lx.at 1 (v := vi s.least) rfl
    have l2 := HJ4.out.lx.at 2 (v := vi f) rfl
    have l3 := HJ4.out.lx.at 3 (v := .func (.func (trF (some false))) #[] #[]) rfl
    by_cases q0 : r = 0
    case pos =>
     have e0 : ((r : Int) == 0) = true := by rw [beq_iff_eq]; omega
     have e2 : ¬ (0 < r) := by omega
     by_cases qk : 0 < k
     case pos =>
      by_cases q1 : cv < v
      case pos =>
       have HE : Hid (R = false) := Lib.hid (HFAIL.out (by rw [HCE.out]; have := HN1.out; omega))
       clear HFAIL HON HCE
       clear HP1 HP2 q0
       refine wp_words (by kernel_rfl) (region_told_u 72 (by kernel_rfl) (by kernel_rfl) [false, false, false, false, false, false, false, false, true, true, true, true, true, true, true, true, true, true, true, true, true, true, true, true, true, true, true, true, true, true, true, true, false, false, true, true, true, true, true, true, true, true, true, true, true, true, true, true, true, true, true, true, true, true, true, true, true, true, false, false, true, true, true, true, true, true, true, true, true, true, true, true] (fun W => Below w6.heap.size w6 W) newer [vIs (vi r), vIs (.bool true), vIs (.bool true), vIs (vi v), vIs (vi cv), vIs (.bool true), vIs (.bool true), vIs (.bool true), vU, vU, vU, vU, vU, vU, vU, vU, vU, vU, vU, vU, vU, vU, vU, vU, vU, vU, vU, vU, vU, vU, vU, vU, vIs (.bool true), vIs (.bool true), vU, vU, vU, vU, vU, vU, vU, vU, vU, vU, vU, vU, vU, vU, vU, vU, vU, vU, vU, vU, vU, vU, vU, vU, vIs (.bool true), vIs (.bool true), vU, vU, vU, vU, vU, vU, vU, vU, vU, vU, vU, vU] (by repeat' first | refine And.intro ?_ ?_ | exact trivial | exact rfl | (intro v W h; obtain rfl : v = _ := h; first | rfl | (simp; done) | (simp [undef]; done))) (by repeat' first | refine And.intro ?_ ?_ | exact trivial | exact (fun h => Bool.noConfusion (show false = true from h)) | exact (fun _ _ => rfl)) (fun h k => newer_trans h k) (pickD_stable _ (by repeat' first | refine And.intro ?_ ?_ | exact trivial | exact vIs_st)) (Below.refl _ w6).drew (Below.refl _ _) ?_ ?_)
       ·refine ⟨.inr ?_, .inr ?_, .inr ?_, .inr ?_, .inr ?_, .inr ?_, .inr ?_, .inr ?_, .inl rfl, .inl rfl, .inl rfl, .inl rfl, .inl rfl, .inl rfl, .inl rfl, .inl rfl, .inl rfl, .inl rfl, .inl rfl, .inl rfl, .inl rfl, .inl rfl, .inl rfl, .inl rfl, .inl rfl, .inl rfl, .inl rfl, .inl rfl, .inl rfl, .inl rfl, .inl rfl, .inl rfl, .inr ?_, .inr ?_, .inl rfl, .inl rfl, .inl rfl, .inl rfl, .inl rfl, .inl rfl, .inl rfl, .inl rfl, .inl rfl, .inl rfl, .inl rfl, .inl rfl, .inl rfl, .inl rfl, .inl rfl, .inl rfl, .inl rfl, .inl rfl, .inl rfl, .inl rfl, .inl rfl, .inl rfl, .inl rfl, .inl rfl, .inr ?_, .inr ?_, .inl rfl, .inl rfl, .inl rfl, .inl rfl, .inl rfl, .inl rfl, .inl rfl, .inl rfl, .inl rfl, .inl rfl, .inl rfl, .inl rfl, trivial⟩
        ·exact fun a W hG _ hO _ => kM 9 rfl (hO.slot 9 (by kernel_rfl)) rfl hG
        ·intro a W hG hR hO hp; have h56 : slotOf a 56 = vi r := hp.1; refine kY (v := .bool true) hG rfl ?_; simp [slotOf] at h56; simp [execOp, go_sem, h56, e0]
        ·exact fun a W hG _ _ hp => kM 57 rfl hp.1 rfl hG
        ·exact fun a W hG _ hO _ => kM 12 rfl (hO.slot 12 (by kernel_rfl)) rfl hG
        ·exact fun a W hG _ hO _ => kM 13 rfl (hO.slot 13 (by kernel_rfl)) rfl hG
        ·intro a W hG hR hO hp; have h59 : slotOf a 59 = vi v := hp.1; have h60 : slotOf a 60 = vi cv := hp.2.1; refine kY (v := .bool true) hG rfl ?_; simp [slotOf] at h59 h60; simp [execOp, go_sem, h59, h60, q1]
        ·intro a W hG hR hO hp; have h58 : slotOf a 58 = .bool true := hp.1; have h61 : slotOf a 61 = .bool true := hp.2.1; refine kY (v := .bool true) hG rfl ?_; simp [slotOf] at h58 h61; simp [execOp, go_sem, h58, h61]
        ·exact fun a W hG _ _ hp => kM 62 rfl hp.1 rfl hG
        ·intro a W hG hR hO hp; have h63 : slotOf a 63 = .bool true := hp.1; have h87 : slotOf a 87 = undef := hp.2.1; refine kY (v := .bool true) hG rfl ?_; simp [slotOf] at h63 h87; simp [execOp, go_sem, h63, h87]
        ·exact fun a W hG _ _ hp => kM 88 rfl hp.1 rfl hG
        ·intro a W hG hR hO hp; have h89 : slotOf a 89 = .bool true := hp.1; have h113 : slotOf a 113 = undef := hp.2.1; refine kY (v := .bool true) hG rfl ?_; simp [slotOf] at h89 h113; simp [execOp, go_sem, h89, h113]
        ·exact fun a W hG _ _ hp => kM 114 rfl hp.1 rfl hG
       ·intro wz hG hR
        rintro _ rfl _ rfl _ rfl _ rfl _ rfl _ rfl _ rfl _ rfl _ rfl _ rfl _ rfl _ rfl _ rfl _ rfl _ rfl _ rfl _ rfl _ rfl _ rfl _ rfl _ rfl _ rfl _ rfl _ rfl _ rfl _ rfl _ rfl _ rfl _ rfl _ rfl _ rfl _ rfl _ rfl _ rfl _ rfl _ rfl _ rfl _ rfl _ rfl _ rfl _ rfl _ rfl _ rfl _ rfl _ rfl _ rfl _ rfl _ rfl _ rfl _ rfl _ rfl _ rfl _ rfl _ rfl _ rfl _ rfl _ rfl _ rfl _ rfl _ rfl _ rfl _ rfl _ rfl _ rfl _ rfl _ rfl _ rfl _ rfl _ rfl _ rfl _ rfl _ rfl
        change wpList _ _ _ _ _ _
        simp only [Act.put, List.setIfInBounds_toArray, List.set_cons_zero, List.set_cons_succ]
        have HN := Lib.hid (HJ4.out.next hG)
        clear hG hR HJ4 x1 l0 l1 l2 l3 e0 e2 qk
        go_wp2_with fail
        go_ret
        exact ⟨by rw [HE.out] <;> rfl, HN.out.nw⟩
      case neg =>
       by_cases ql : (r : Int) = s.least - 1
       case pos =>
        have e1 : ((r : Int) == s.least - 1) = true := by have := HN1.out; rw [beq_iff_eq]; omega
        by_cases q3 : cv + b2 < v
        case pos =>
         have HE : Hid (R = false) := Lib.hid (HFAIL.out (by rw [HCE.out]; have := HN1.out; omega))
         clear HFAIL HON HCE
         obtain ⟨hbd2, Y2, c3, HB2⟩ := HP2.out (by omega)
         have HB2 := Lib.hid HB2
         have hbd2 : -1000000000000000 <= b2 /\ b2 <= 1000000000000000 := hbd2
         have hw2 : IntKind.i64.wrap (cv + b2) = cv + b2 := IntWalk.i64_in _ (by omega)
         have hr3 : (r : Int) < ts.length := by omega
         obtain ⟨k1, hk⟩ : ∃ k1, k1 = k - 1 := ⟨_, rfl⟩
         have hk1 : IntKind.i64.wrap ((k : Int) - 1) = k1 := by rw [IntWalk.i64_in _ (by omega)]; omega
         have hk2 : (k1 : Int) < s.cs.length := by omega
         rw [<- hk] at c3
         have HC3 := Lib.hid c3
         clear c3
         clear HP1 HP2 q0 ql
         refine wp_words (by kernel_rfl) (region_told_u 72 (by kernel_rfl) (by kernel_rfl) [false, false, false, false, false, false, false, false, false, false, false, true, true, false, false, true, true, true, true, true, true, true, true, true, true, true, true, true, true, true, true, false, false, false, false, false, false, false, false, false, false, false, false, false, false, false, false, false, false, false, false, false, false, false, false, false, false, false, false, false, true, true, true, true, true, true, true, true, true, true, true, true] (fun W => Below w6.heap.size w6 W) newer [vIs (vi r), vIs (.bool true), vIs (.bool true), vIs (vi v), vIs (vi cv), vIs (.bool false), vIs (.bool false), vIs (.bool false), vIs (vi r), vIs (.bool false), vIs (.bool false), vU, vU, vIs (.bool false), vIs (.bool false), vU, vU, vU, vU, vU, vU, vU, vU, vU, vU, vU, vU, vU, vU, vU, vU, vIs (.bool false), vIs (.bool false), vIs (.bool false), vIs (vi r), vIs (vi (s.least - 1)), vIs (.bool true), vIs (.bool true), vIs (vi k), vIs (.bool true), vIs (.bool true), vIs (.bool true), vIs (vi v), vIs (vi cv), vIs (lkV s f (some false)), vIs (.slice (some ⟨ta, tf, none⟩) ts.length c), vIs (vi r), vIs (.pointer (some ⟨ta, tf + r, none⟩)), vIs (.slice (some ⟨xa, xo, none⟩) s.cs.length x.c), vIs (vi k), vIs (vi k1), vIs (.pointer (some ⟨xa, xo + k1, none⟩)), vIs (.slice Y2.a Y2.l.length Y2.c), vIs (vi b), vIs (vi b2), vIs (vi (cv + b2)), vIs (.bool true), vIs (.bool true), vIs (.bool true), vIs (.bool true), vU, vU, vU, vU, vU, vU, vU, vU, vU, vU, vU, vU] (by repeat' first | refine And.intro ?_ ?_ | exact trivial | exact rfl | (intro v W h; obtain rfl : v = _ := h; first | rfl | (simp; done) | (simp [undef]; done))) (by repeat' first | refine And.intro ?_ ?_ | exact trivial | exact (fun h => Bool.noConfusion (show false = true from h)) | exact (fun _ _ => rfl)) (fun h k => newer_trans h k) (pickD_stable _ (by repeat' first | refine And.intro ?_ ?_ | exact trivial | exact vIs_st)) (Below.refl _ w6).drew (Below.refl _ _) ?_ ?_)
         ·refine ⟨.inr ?_, .inr ?_, .inr ?_, .inr ?_, .inr ?_, .inr ?_, .inr ?_, .inr ?_, .inr ?_, .inr ?_, .inr ?_, .inl rfl, .inl rfl, .inr ?_, .inr ?_, .inl rfl, .inl rfl, .inl rfl, .inl rfl, .inl rfl, .inl rfl, .inl rfl, .inl rfl, .inl rfl, .inl rfl, .inl rfl, .inl rfl, .inl rfl, .inl rfl, .inl rfl, .inl rfl, .inr ?_, .inr ?_, .inr ?_, .inr ?_, .inr ?_, .inr ?_, .inr ?_, .inr ?_, .inr ?_, .inr ?_, .inr ?_, .inr ?_, .inr ?_, .inr ?_, .inr ?_, .inr ?_, .inr ?_, .inr ?_, .inr ?_, .inr ?_, .inr ?_, .inr ?_, .inr ?_, .inr ?_, .inr ?_, .inr ?_, .inr ?_, .inr ?_, .inr ?_, .inl rfl, .inl rfl, .inl rfl, .inl rfl, .inl rfl, .inl rfl, .inl rfl, .inl rfl, .inl rfl, .inl rfl, .inl rfl, .inl rfl, trivial⟩
          ·exact fun a W hG _ hO _ => kM 9 rfl (hO.slot 9 (by kernel_rfl)) rfl hG
          ·intro a W hG hR hO hp; have h56 : slotOf a 56 = vi r := hp.1; refine kY (v := .bool true) hG rfl ?_; simp [slotOf] at h56; simp [execOp, go_sem, h56, e0]
          ·exact fun a W hG _ _ hp => kM 57 rfl hp.1 rfl hG
          ·exact fun a W hG _ hO _ => kM 12 rfl (hO.slot 12 (by kernel_rfl)) rfl hG
          ·exact fun a W hG _ hO _ => kM 13 rfl (hO.slot 13 (by kernel_rfl)) rfl hG
          ·intro a W hG hR hO hp; have h59 : slotOf a 59 = vi v := hp.1; have h60 : slotOf a 60 = vi cv := hp.2.1; refine kY (v := .bool false) hG rfl ?_; simp [slotOf] at h59 h60; simp [execOp, go_sem, h59, h60, q1]
          ·intro a W hG hR hO hp; have h58 : slotOf a 58 = .bool true := hp.1; have h61 : slotOf a 61 = .bool false := hp.2.1; refine kY (v := .bool false) hG rfl ?_; simp [slotOf] at h58 h61; simp [execOp, go_sem, h58, h61]
          ·exact fun a W hG _ _ hp => kM 62 rfl hp.1 rfl hG
          ·exact fun a W hG _ hO _ => kM 9 rfl (hO.slot 9 (by kernel_rfl)) rfl hG
          ·intro a W hG hR hO hp; have h64 : slotOf a 64 = vi r := hp.1; refine kY (v := .bool false) hG rfl ?_; simp [slotOf] at h64; simp [execOp, go_sem, h64, e2]
          ·exact fun a W hG _ _ hp => kM 65 rfl hp.1 rfl hG
          ·intro a W hG hR hO hp; have h66 : slotOf a 66 = .bool false := hp.1; have h68 : slotOf a 68 = undef := hp.2.1; refine kY (v := .bool false) hG rfl ?_; simp [slotOf] at h66 h68; simp [execOp, go_sem, h66, h68]
          ·exact fun a W hG _ _ hp => kM 69 rfl hp.1 rfl hG
          ·intro a W hG hR hO hp; have h70 : slotOf a 70 = .bool false := hp.1; have h86 : slotOf a 86 = undef := hp.2.1; refine kY (v := .bool false) hG rfl ?_; simp [slotOf] at h70 h86; simp [execOp, go_sem, h70, h86]
          ·intro a W hG hR hO hp; have h63 : slotOf a 63 = .bool false := hp.1; have h87 : slotOf a 87 = .bool false := hp.2.1; refine kY (v := .bool false) hG rfl ?_; simp [slotOf] at h63 h87; simp [execOp, go_sem, h63, h87]
          ·exact fun a W hG _ _ hp => kM 88 rfl hp.1 rfl hG
          ·exact fun a W hG _ hO _ => kM 9 rfl (hO.slot 9 (by kernel_rfl)) rfl hG
          ·exact fun a W hG _ hO _ => kM 8 rfl (hO.slot 8 (by kernel_rfl)) rfl hG
          ·intro a W hG hR hO hp; have h90 : slotOf a 90 = vi r := hp.1; have h91 : slotOf a 91 = vi (s.least - 1) := hp.2.1; refine kY (v := .bool true) hG rfl ?_; simp [slotOf] at h90 h91; simp [execOp, go_sem, h90, h91, e1]
          ·exact fun a W hG _ _ hp => kM 92 rfl hp.1 rfl hG
          ·exact fun a W hG _ hO _ => kM 10 rfl (hO.slot 10 (by kernel_rfl)) rfl hG
          ·intro a W hG hR hO hp; have h94 : slotOf a 94 = vi k := hp.1; refine kY (v := .bool true) hG rfl ?_; simp [slotOf] at h94; simp [execOp, go_sem, h94, qk]
          ·intro a W hG hR hO hp; have h93 : slotOf a 93 = .bool true := hp.1; have h95 : slotOf a 95 = .bool true := hp.2.1; refine kY (v := .bool true) hG rfl ?_; simp [slotOf] at h93 h95; simp [execOp, go_sem, h93, h95]
          ·exact fun a W hG _ _ hp => kM 96 rfl hp.1 rfl hG
          ·exact fun a W hG _ hO _ => kM 12 rfl (hO.slot 12 (by kernel_rfl)) rfl hG
          ·exact fun a W hG _ hO _ => kM 13 rfl (hO.slot 13 (by kernel_rfl)) rfl hG
          ·intro a W hG hR hO hp; have h7 := hO.slot 7 (by kernel_rfl); have c0 := keep_cell l0 hG; have c1 := keep_cell l1 hG; have c2 := keep_cell l2 hG; have c3 := keep_cell l3 hG; refine kY (v := lkV s f (some false)) hG rfl ?_; simp [slotOf] at h7; simp [execOp, go_sem, h7, c0, c1, c2, c3]
          ·exact fun a W hG _ hO _ => kM 2 rfl (hO.slot 2 (by kernel_rfl)) rfl hG
          ·exact fun a W hG _ hO _ => kM 9 rfl (hO.slot 9 (by kernel_rfl)) rfl hG
          ·intro a W hG hR hO hp; have h101 : slotOf a 101 = .slice (some ⟨ta, tf, none⟩) ts.length c := hp.1; have h102 : slotOf a 102 = vi r := hp.2.1; refine kY (v := .pointer (some ⟨ta, tf + r, none⟩)) hG rfl ?_; simp [slotOf] at h101 h102; simp [execOp, go_sem, h101, h102, hr3]
          ·intro a W hG hR hO hp; have h103 : slotOf a 103 = .pointer (some ⟨ta, tf + r, none⟩) := hp.1; have c0 := HXC.out W (newer_trans HJ4.out.nw hG); refine kY (v := .slice (some ⟨xa, xo, none⟩) s.cs.length x.c) hG rfl ?_; simp [slotOf] at h103; simp [execOp, go_sem, h103, c0]
          ·exact fun a W hG _ hO _ => kM 10 rfl (hO.slot 10 (by kernel_rfl)) rfl hG
          ·intro a W hG hR hO hp; have h105 : slotOf a 105 = vi k := hp.1; refine kY (v := vi k1) hG rfl ?_; simp [slotOf] at h105; simp [execOp, go_sem, h105, hk1]
          ·intro a W hG hR hO hp; have h104 : slotOf a 104 = .slice (some ⟨xa, xo, none⟩) s.cs.length x.c := hp.1; have h106 : slotOf a 106 = vi k1 := hp.2.1; refine kY (v := .pointer (some ⟨xa, xo + k1, none⟩)) hG rfl ?_; simp [slotOf] at h104 h106; simp [execOp, go_sem, h104, h106, hk2]
          ·intro a W hG hR hO hp; have h107 : slotOf a 107 = .pointer (some ⟨xa, xo + k1, none⟩) := hp.1; have c0 := HC3.out W (newer_trans HJ4.out.nw hG); refine kY (v := .slice Y2.a Y2.l.length Y2.c) hG rfl ?_; simp [slotOf] at h107; simp [execOp, go_sem, h107, c0]
          ·exact fun a W hG _ hO _ => kM 11 rfl (hO.slot 11 (by kernel_rfl)) rfl hG
          ·intro a W hG hR hO hp
           have h100 : slotOf a 100 = lkV s f (some false) := hp.1
           have h108 : slotOf a 108 = .slice Y2.a Y2.l.length Y2.c := hp.2.1
           have h109 : slotOf a 109 = vi b := hp.2.2.1
           refine wp_enters (f := 82) (args := #[lkV s f (some false), .slice Y2.a Y2.l.length Y2.c, vi b]) ?_ ((HB2.out W (newer_trans HJ4.out.nw hG)).mono ?_)
           ·simp [slotOf] at h100 h108 h109
            simp [go_sem, h100, h108, h109]
           ·rintro e w' ⟨rfl, hb⟩
            exact ⟨_, rfl, _, rfl, rfl, hb, below_next hG hb⟩
          ·intro a W hG hR hO hp; have h99 : slotOf a 99 = vi cv := hp.1; have h110 : slotOf a 110 = vi b2 := hp.2.1; refine kY (v := vi (cv + b2)) hG rfl ?_; simp [slotOf] at h99 h110; simp [execOp, go_sem, h99, h110, hw2]
          ·intro a W hG hR hO hp; have h98 : slotOf a 98 = vi v := hp.1; have h111 : slotOf a 111 = vi (cv + b2) := hp.2.1; refine kY (v := .bool true) hG rfl ?_; simp [slotOf] at h98 h111; simp [execOp, go_sem, h98, h111, q3]
          ·intro a W hG hR hO hp; have h97 : slotOf a 97 = .bool true := hp.1; have h112 : slotOf a 112 = .bool true := hp.2.1; refine kY (v := .bool true) hG rfl ?_; simp [slotOf] at h97 h112; simp [execOp, go_sem, h97, h112]
          ·intro a W hG hR hO hp; have h89 : slotOf a 89 = .bool false := hp.1; have h113 : slotOf a 113 = .bool true := hp.2.1; refine kY (v := .bool true) hG rfl ?_; simp [slotOf] at h89 h113; simp [execOp, go_sem, h89, h113]
          ·exact fun a W hG _ _ hp => kM 114 rfl hp.1 rfl hG
         ·intro wz hG hR
          rintro _ rfl _ rfl _ rfl _ rfl _ rfl _ rfl _ rfl _ rfl _ rfl _ rfl _ rfl _ rfl _ rfl _ rfl _ rfl _ rfl _ rfl _ rfl _ rfl _ rfl _ rfl _ rfl _ rfl _ rfl _ rfl _ rfl _ rfl _ rfl _ rfl _ rfl _ rfl _ rfl _ rfl _ rfl _ rfl _ rfl _ rfl _ rfl _ rfl _ rfl _ rfl _ rfl _ rfl _ rfl _ rfl _ rfl _ rfl _ rfl _ rfl _ rfl _ rfl _ rfl _ rfl _ rfl _ rfl _ rfl _ rfl _ rfl _ rfl _ rfl _ rfl _ rfl _ rfl _ rfl _ rfl _ rfl _ rfl _ rfl _ rfl _ rfl _ rfl _ rfl
          change wpList _ _ _ _ _ _
          simp only [Act.put, List.setIfInBounds_toArray, List.set_cons_zero, List.set_cons_succ]
          have HN := Lib.hid (HJ4.out.next hG)
          clear hG hR HJ4 x1 l0 l1 l2 l3 e0 e2 qk e1
          go_wp2_with fail
          go_ret
          exact ⟨by rw [HE.out] <;> rfl, HN.out.nw⟩
        case neg =>
         have e4 : s.least - 1 <= (k : Int) := by have := HN1.out; omega
         by_cases q4 : v < 0
         case pos =>
          have HE : Hid (R = false) := Lib.hid (HFAIL.out (by rw [HCE.out]; have := HN1.out; omega))
          clear HFAIL HON HCE
          obtain ⟨hbd2, Y2, c3, HB2⟩ := HP2.out (by omega)
          have HB2 := Lib.hid HB2
          have hbd2 : -1000000000000000 <= b2 /\ b2 <= 1000000000000000 := hbd2
          have hw2 : IntKind.i64.wrap (cv + b2) = cv + b2 := IntWalk.i64_in _ (by omega)
          have hr3 : (r : Int) < ts.length := by omega
          obtain ⟨k1, hk⟩ : ∃ k1, k1 = k - 1 := ⟨_, rfl⟩
          have hk1 : IntKind.i64.wrap ((k : Int) - 1) = k1 := by rw [IntWalk.i64_in _ (by omega)]; omega
          have hk2 : (k1 : Int) < s.cs.length := by omega
          rw [<- hk] at c3
          have HC3 := Lib.hid c3
          clear c3
          clear HP1 HP2 q0 ql
          refine wp_words (by kernel_rfl) (region_told_u 72 (by kernel_rfl) (by kernel_rfl) [false, false, false, false, false, false, false, false, false, false, false, true, true, false, false, true, true, true, true, true, true, true, true, true, true, true, true, true, true, true, true, false, false, false, false, false, false, false, false, false, false, false, false, false, false, false, false, false, false, false, false, false, false, false, false, false, false, false, false, false, false, false, false, false, false, false, false, false, false, false, false, false] (fun W => Below w6.heap.size w6 W) newer [vIs (vi r), vIs (.bool true), vIs (.bool true), vIs (vi v), vIs (vi cv), vIs (.bool false), vIs (.bool false), vIs (.bool false), vIs (vi r), vIs (.bool false), vIs (.bool false), vU, vU, vIs (.bool false), vIs (.bool false), vU, vU, vU, vU, vU, vU, vU, vU, vU, vU, vU, vU, vU, vU, vU, vU, vIs (.bool false), vIs (.bool false), vIs (.bool false), vIs (vi r), vIs (vi (s.least - 1)), vIs (.bool true), vIs (.bool true), vIs (vi k), vIs (.bool true), vIs (.bool true), vIs (.bool true), vIs (vi v), vIs (vi cv), vIs (lkV s f (some false)), vIs (.slice (some ⟨ta, tf, none⟩) ts.length c), vIs (vi r), vIs (.pointer (some ⟨ta, tf + r, none⟩)), vIs (.slice (some ⟨xa, xo, none⟩) s.cs.length x.c), vIs (vi k), vIs (vi k1), vIs (.pointer (some ⟨xa, xo + k1, none⟩)), vIs (.slice Y2.a Y2.l.length Y2.c), vIs (vi b), vIs (vi b2), vIs (vi (cv + b2)), vIs (.bool false), vIs (.bool false), vIs (.bool false), vIs (.bool false), vIs (vi r), vIs (vi (s.least - 1)), vIs (.bool true), vIs (.bool true), vIs (vi k), vIs (vi (s.least - 1)), vIs (.bool true), vIs (.bool true), vIs (.bool true), vIs (vi v), vIs (.bool true), vIs (.bool true)] (by repeat' first | refine And.intro ?_ ?_ | exact trivial | exact rfl | (intro v W h; obtain rfl : v = _ := h; first | rfl | (simp; done) | (simp [undef]; done))) (by repeat' first | refine And.intro ?_ ?_ | exact trivial | exact (fun h => Bool.noConfusion (show false = true from h)) | exact (fun _ _ => rfl)) (fun h k => newer_trans h k) (pickD_stable _ (by repeat' first | refine And.intro ?_ ?_ | exact trivial | exact vIs_st)) (Below.refl _ w6).drew (Below.refl _ _) ?_ ?_)
          ·refine ⟨.inr ?_, .inr ?_, .inr ?_, .inr ?_, .inr ?_, .inr ?_, .inr ?_, .inr ?_, .inr ?_, .inr ?_, .inr ?_, .inl rfl, .inl rfl, .inr ?_, .inr ?_, .inl rfl, .inl rfl, .inl rfl, .inl rfl, .inl rfl, .inl rfl, .inl rfl, .inl rfl, .inl rfl, .inl rfl, .inl rfl, .inl rfl, .inl rfl, .inl rfl, .inl rfl, .inl rfl, .inr ?_, .inr ?_, .inr ?_, .inr ?_, .inr ?_, .inr ?_, .inr ?_, .inr ?_, .inr ?_, .inr ?_, .inr ?_, .inr ?_, .inr ?_, .inr ?_, .inr ?_, .inr ?_, .inr ?_, .inr ?_, .inr ?_, .inr ?_, .inr ?_, .inr ?_, .inr ?_, .inr ?_, .inr ?_, .inr ?_, .inr ?_, .inr ?_, .inr ?_, .inr ?_, .inr ?_, .inr ?_, .inr ?_, .inr ?_, .inr ?_, .inr ?_, .inr ?_, .inr ?_, .inr ?_, .inr ?_, .inr ?_, trivial⟩
           ·exact fun a W hG _ hO _ => kM 9 rfl (hO.slot 9 (by kernel_rfl)) rfl hG
           ·intro a W hG hR hO hp; have h56 : slotOf a 56 = vi r := hp.1; refine kY (v := .bool true) hG rfl ?_; simp [slotOf] at h56; simp [execOp, go_sem, h56, e0]
           ·exact fun a W hG _ _ hp => kM 57 rfl hp.1 rfl hG
           ·exact fun a W hG _ hO _ => kM 12 rfl (hO.slot 12 (by kernel_rfl)) rfl hG
           ·exact fun a W hG _ hO _ => kM 13 rfl (hO.slot 13 (by kernel_rfl)) rfl hG
           ·intro a W hG hR hO hp; have h59 : slotOf a 59 = vi v := hp.1; have h60 : slotOf a 60 = vi cv := hp.2.1; refine kY (v := .bool false) hG rfl ?_; simp [slotOf] at h59 h60; simp [execOp, go_sem, h59, h60, q1]
           ·intro a W hG hR hO hp; have h58 : slotOf a 58 = .bool true := hp.1; have h61 : slotOf a 61 = .bool false := hp.2.1; refine kY (v := .bool false) hG rfl ?_; simp [slotOf] at h58 h61; simp [execOp, go_sem, h58, h61]
           ·exact fun a W hG _ _ hp => kM 62 rfl hp.1 rfl hG
           ·exact fun a W hG _ hO _ => kM 9 rfl (hO.slot 9 (by kernel_rfl)) rfl hG
           ·intro a W hG hR hO hp; have h64 : slotOf a 64 = vi r := hp.1; refine kY (v := .bool false) hG rfl ?_; simp [slotOf] at h64; simp [execOp, go_sem, h64, e2]
           ·exact fun a W hG _ _ hp => kM 65 rfl hp.1 rfl hG
           ·intro a W hG hR hO hp; have h66 : slotOf a 66 = .bool false := hp.1; have h68 : slotOf a 68 = undef := hp.2.1; refine kY (v := .bool false) hG rfl ?_; simp [slotOf] at h66 h68; simp [execOp, go_sem, h66, h68]
           ·exact fun a W hG _ _ hp => kM 69 rfl hp.1 rfl hG
           ·intro a W hG hR hO hp; have h70 : slotOf a 70 = .bool false := hp.1; have h86 : slotOf a 86 = undef := hp.2.1; refine kY (v := .bool false) hG rfl ?_; simp [slotOf] at h70 h86; simp [execOp, go_sem, h70, h86]
           ·intro a W hG hR hO hp; have h63 : slotOf a 63 = .bool false := hp.1; have h87 : slotOf a 87 = .bool false := hp.2.1; refine kY (v := .bool false) hG rfl ?_; simp [slotOf] at h63 h87; simp [execOp, go_sem, h63, h87]
           ·exact fun a W hG _ _ hp => kM 88 rfl hp.1 rfl hG
           ·exact fun a W hG _ hO _ => kM 9 rfl (hO.slot 9 (by kernel_rfl)) rfl hG
           ·exact fun a W hG _ hO _ => kM 8 rfl (hO.slot 8 (by kernel_rfl)) rfl hG
           ·intro a W hG hR hO hp; have h90 : slotOf a 90 = vi r := hp.1; have h91 : slotOf a 91 = vi (s.least - 1) := hp.2.1; refine kY (v := .bool true) hG rfl ?_; simp [slotOf] at h90 h91; simp [execOp, go_sem, h90, h91, e1]
           ·exact fun a W hG _ _ hp => kM 92 rfl hp.1 rfl hG
           ·exact fun a W hG _ hO _ => kM 10 rfl (hO.slot 10 (by kernel_rfl)) rfl hG
           ·intro a W hG hR hO hp; have h94 : slotOf a 94 = vi k := hp.1; refine kY (v := .bool true) hG rfl ?_; simp [slotOf] at h94; simp [execOp, go_sem, h94, qk]
           ·intro a W hG hR hO hp; have h93 : slotOf a 93 = .bool true := hp.1; have h95 : slotOf a 95 = .bool true := hp.2.1; refine kY (v := .bool true) hG rfl ?_; simp [slotOf] at h93 h95; simp [execOp, go_sem, h93, h95]
           ·exact fun a W hG _ _ hp => kM 96 rfl hp.1 rfl hG
           ·exact fun a W hG _ hO _ => kM 12 rfl (hO.slot 12 (by kernel_rfl)) rfl hG
           ·exact fun a W hG _ hO _ => kM 13 rfl (hO.slot 13 (by kernel_rfl)) rfl hG
           ·intro a W hG hR hO hp; have h7 := hO.slot 7 (by kernel_rfl); have c0 := keep_cell l0 hG; have c1 := keep_cell l1 hG; have c2 := keep_cell l2 hG; have c3 := keep_cell l3 hG; refine kY (v := lkV s f (some false)) hG rfl ?_; simp [slotOf] at h7; simp [execOp, go_sem, h7, c0, c1, c2, c3]
           ·exact fun a W hG _ hO _ => kM 2 rfl (hO.slot 2 (by kernel_rfl)) rfl hG
           ·exact fun a W hG _ hO _ => kM 9 rfl (hO.slot 9 (by kernel_rfl)) rfl hG
           ·intro a W hG hR hO hp; have h101 : slotOf a 101 = .slice (some ⟨ta, tf, none⟩) ts.length c := hp.1; have h102 : slotOf a 102 = vi r := hp.2.1; refine kY (v := .pointer (some ⟨ta, tf + r, none⟩)) hG rfl ?_; simp [slotOf] at h101 h102; simp [execOp, go_sem, h101, h102, hr3]
           ·intro a W hG hR hO hp; have h103 : slotOf a 103 = .pointer (some ⟨ta, tf + r, none⟩) := hp.1; have c0 := HXC.out W (newer_trans HJ4.out.nw hG); refine kY (v := .slice (some ⟨xa, xo, none⟩) s.cs.length x.c) hG rfl ?_; simp [slotOf] at h103; simp [execOp, go_sem, h103, c0]
           ·exact fun a W hG _ hO _ => kM 10 rfl (hO.slot 10 (by kernel_rfl)) rfl hG
           ·intro a W hG hR hO hp; have h105 : slotOf a 105 = vi k := hp.1; refine kY (v := vi k1) hG rfl ?_; simp [slotOf] at h105; simp [execOp, go_sem, h105, hk1]
           ·intro a W hG hR hO hp; have h104 : slotOf a 104 = .slice (some ⟨xa, xo, none⟩) s.cs.length x.c := hp.1; have h106 : slotOf a 106 = vi k1 := hp.2.1; refine kY (v := .pointer (some ⟨xa, xo + k1, none⟩)) hG rfl ?_; simp [slotOf] at h104 h106; simp [execOp, go_sem, h104, h106, hk2]
           ·intro a W hG hR hO hp; have h107 : slotOf a 107 = .pointer (some ⟨xa, xo + k1, none⟩) := hp.1; have c0 := HC3.out W (newer_trans HJ4.out.nw hG); refine kY (v := .slice Y2.a Y2.l.length Y2.c) hG rfl ?_; simp [slotOf] at h107; simp [execOp, go_sem, h107, c0]
           ·exact fun a W hG _ hO _ => kM 11 rfl (hO.slot 11 (by kernel_rfl)) rfl hG
           ·intro a W hG hR hO hp
            have h100 : slotOf a 100 = lkV s f (some false) := hp.1
            have h108 : slotOf a 108 = .slice Y2.a Y2.l.length Y2.c := hp.2.1
            have h109 : slotOf a 109 = vi b := hp.2.2.1
            refine wp_enters (f := 82) (args := #[lkV s f (some false), .slice Y2.a Y2.l.length Y2.c, vi b]) ?_ ((HB2.out W (newer_trans HJ4.out.nw hG)).mono ?_)
            ·simp [slotOf] at h100 h108 h109
             simp [go_sem, h100, h108, h109]
            ·rintro e w' ⟨rfl, hb⟩
             exact ⟨_, rfl, _, rfl, rfl, hb, below_next hG hb⟩
           ·intro a W hG hR hO hp; have h99 : slotOf a 99 = vi cv := hp.1; have h110 : slotOf a 110 = vi b2 := hp.2.1; refine kY (v := vi (cv + b2)) hG rfl ?_; simp [slotOf] at h99 h110; simp [execOp, go_sem, h99, h110, hw2]
           ·intro a W hG hR hO hp; have h98 : slotOf a 98 = vi v := hp.1; have h111 : slotOf a 111 = vi (cv + b2) := hp.2.1; refine kY (v := .bool false) hG rfl ?_; simp [slotOf] at h98 h111; simp [execOp, go_sem, h98, h111, q3]
           ·intro a W hG hR hO hp; have h97 : slotOf a 97 = .bool true := hp.1; have h112 : slotOf a 112 = .bool false := hp.2.1; refine kY (v := .bool false) hG rfl ?_; simp [slotOf] at h97 h112; simp [execOp, go_sem, h97, h112]
           ·intro a W hG hR hO hp; have h89 : slotOf a 89 = .bool false := hp.1; have h113 : slotOf a 113 = .bool false := hp.2.1; refine kY (v := .bool false) hG rfl ?_; simp [slotOf] at h89 h113; simp [execOp, go_sem, h89, h113]
           ·exact fun a W hG _ _ hp => kM 114 rfl hp.1 rfl hG
           ·exact fun a W hG _ hO _ => kM 9 rfl (hO.slot 9 (by kernel_rfl)) rfl hG
           ·exact fun a W hG _ hO _ => kM 8 rfl (hO.slot 8 (by kernel_rfl)) rfl hG
           ·intro a W hG hR hO hp; have h116 : slotOf a 116 = vi r := hp.1; have h117 : slotOf a 117 = vi (s.least - 1) := hp.2.1; refine kY (v := .bool true) hG rfl ?_; simp [slotOf] at h116 h117; simp [execOp, go_sem, h116, h117, e1]
           ·exact fun a W hG _ _ hp => kM 118 rfl hp.1 rfl hG
           ·exact fun a W hG _ hO _ => kM 10 rfl (hO.slot 10 (by kernel_rfl)) rfl hG
           ·exact fun a W hG _ hO _ => kM 8 rfl (hO.slot 8 (by kernel_rfl)) rfl hG
           ·intro a W hG hR hO hp; have h120 : slotOf a 120 = vi k := hp.1; have h121 : slotOf a 121 = vi (s.least - 1) := hp.2.1; refine kY (v := .bool true) hG rfl ?_; simp [slotOf] at h120 h121; simp [execOp, go_sem, h120, h121, e4]
           ·intro a W hG hR hO hp; have h119 : slotOf a 119 = .bool true := hp.1; have h122 : slotOf a 122 = .bool true := hp.2.1; refine kY (v := .bool true) hG rfl ?_; simp [slotOf] at h119 h122; simp [execOp, go_sem, h119, h122]
           ·exact fun a W hG _ _ hp => kM 123 rfl hp.1 rfl hG
           ·exact fun a W hG _ hO _ => kM 12 rfl (hO.slot 12 (by kernel_rfl)) rfl hG
           ·intro a W hG hR hO hp; have h125 : slotOf a 125 = vi v := hp.1; refine kY (v := .bool true) hG rfl ?_; simp [slotOf] at h125; simp [execOp, go_sem, h125, q4]
           ·intro a W hG hR hO hp; have h124 : slotOf a 124 = .bool true := hp.1; have h126 : slotOf a 126 = .bool true := hp.2.1; refine kY (v := .bool true) hG rfl ?_; simp [slotOf] at h124 h126; simp [execOp, go_sem, h124, h126]
          ·intro wz hG hR
           rintro _ rfl _ rfl _ rfl _ rfl _ rfl _ rfl _ rfl _ rfl _ rfl _ rfl _ rfl _ rfl _ rfl _ rfl _ rfl _ rfl _ rfl _ rfl _ rfl _ rfl _ rfl _ rfl _ rfl _ rfl _ rfl _ rfl _ rfl _ rfl _ rfl _ rfl _ rfl _ rfl _ rfl _ rfl _ rfl _ rfl _ rfl _ rfl _ rfl _ rfl _ rfl _ rfl _ rfl _ rfl _ rfl _ rfl _ rfl _ rfl _ rfl _ rfl _ rfl _ rfl _ rfl _ rfl _ rfl _ rfl _ rfl _ rfl _ rfl _ rfl _ rfl _ rfl _ rfl _ rfl _ rfl _ rfl _ rfl _ rfl _ rfl _ rfl _ rfl _ rfl
           change wpList _ _ _ _ _ _
           simp only [Act.put, List.setIfInBounds_toArray, List.set_cons_zero, List.set_cons_succ]
           have HN := Lib.hid (HJ4.out.next hG)
           clear hG hR HJ4 x1 l0 l1 l2 l3 e0 e2 qk e1 e4
           go_wp2_with fail
           go_ret
           exact ⟨by rw [HE.out] <;> rfl, HN.out.nw⟩
         case neg =>
          have HE := Lib.hid (HON.out (HCE.out.2 (by have := HN1.out; omega)))
          clear HFAIL HON HCE
          obtain ⟨hbd2, Y2, c3, HB2⟩ := HP2.out (by omega)
          have HB2 := Lib.hid HB2
          have hbd2 : -1000000000000000 <= b2 /\ b2 <= 1000000000000000 := hbd2
          have hw2 : IntKind.i64.wrap (cv + b2) = cv + b2 := IntWalk.i64_in _ (by omega)
          have hr3 : (r : Int) < ts.length := by omega
          obtain ⟨k1, hk⟩ : ∃ k1, k1 = k - 1 := ⟨_, rfl⟩
          have hk1 : IntKind.i64.wrap ((k : Int) - 1) = k1 := by rw [IntWalk.i64_in _ (by omega)]; omega
          have hk2 : (k1 : Int) < s.cs.length := by omega
          rw [<- hk] at c3
          have HC3 := Lib.hid c3
          clear c3
          clear HP1 HP2 q0 ql
          refine wp_words (by kernel_rfl) (region_told_u 72 (by kernel_rfl) (by kernel_rfl) [false, false, false, false, false, false, false, false, false, false, false, true, true, false, false, true, true, true, true, true, true, true, true, true, true, true, true, true, true, true, true, false, false, false, false, false, false, false, false, false, false, false, false, false, false, false, false, false, false, false, false, false, false, false, false, false, false, false, false, false, false, false, false, false, false, false, false, false, false, false, false, false] (fun W => Below w6.heap.size w6 W) newer [vIs (vi r), vIs (.bool true), vIs (.bool true), vIs (vi v), vIs (vi cv), vIs (.bool false), vIs (.bool false), vIs (.bool false), vIs (vi r), vIs (.bool false), vIs (.bool false), vU, vU, vIs (.bool false), vIs (.bool false), vU, vU, vU, vU, vU, vU, vU, vU, vU, vU, vU, vU, vU, vU, vU, vU, vIs (.bool false), vIs (.bool false), vIs (.bool false), vIs (vi r), vIs (vi (s.least - 1)), vIs (.bool true), vIs (.bool true), vIs (vi k), vIs (.bool true), vIs (.bool true), vIs (.bool true), vIs (vi v), vIs (vi cv), vIs (lkV s f (some false)), vIs (.slice (some ⟨ta, tf, none⟩) ts.length c), vIs (vi r), vIs (.pointer (some ⟨ta, tf + r, none⟩)), vIs (.slice (some ⟨xa, xo, none⟩) s.cs.length x.c), vIs (vi k), vIs (vi k1), vIs (.pointer (some ⟨xa, xo + k1, none⟩)), vIs (.slice Y2.a Y2.l.length Y2.c), vIs (vi b), vIs (vi b2), vIs (vi (cv + b2)), vIs (.bool false), vIs (.bool false), vIs (.bool false), vIs (.bool false), vIs (vi r), vIs (vi (s.least - 1)), vIs (.bool true), vIs (.bool true), vIs (vi k), vIs (vi (s.least - 1)), vIs (.bool true), vIs (.bool true), vIs (.bool true), vIs (vi v), vIs (.bool false), vIs (.bool false)] (by repeat' first | refine And.intro ?_ ?_ | exact trivial | exact rfl | (intro v W h; obtain rfl : v = _ := h; first | rfl | (simp; done) | (simp [undef]; done))) (by repeat' first | refine And.intro ?_ ?_ | exact trivial | exact (fun h => Bool.noConfusion (show false = true from h)) | exact (fun _ _ => rfl)) (fun h k => newer_trans h k) (pickD_stable _ (by repeat' first | refine And.intro ?_ ?_ | exact trivial | exact vIs_st)) (Below.refl _ w6).drew (Below.refl _ _) ?_ ?_)
          ·refine ⟨.inr ?_, .inr ?_, .inr ?_, .inr ?_, .inr ?_, .inr ?_, .inr ?_, .inr ?_, .inr ?_, .inr ?_, .inr ?_, .inl rfl, .inl rfl, .inr ?_, .inr ?_, .inl rfl, .inl rfl, .inl rfl, .inl rfl, .inl rfl, .inl rfl, .inl rfl, .inl rfl, .inl rfl, .inl rfl, .inl rfl, .inl rfl, .inl rfl, .inl rfl, .inl rfl, .inl rfl, .inr ?_, .inr ?_, .inr ?_, .inr ?_, .inr ?_, .inr ?_, .inr ?_, .inr ?_, .inr ?_, .inr ?_, .inr ?_, .inr ?_, .inr ?_, .inr ?_, .inr ?_, .inr ?_, .inr ?_, .inr ?_, .inr ?_, .inr ?_, .inr ?_, .inr ?_, .inr ?_, .inr ?_, .inr ?_, .inr ?_, .inr ?_, .inr ?_, .inr ?_, .inr ?_, .inr ?_, .inr ?_, .inr ?_, .inr ?_, .inr ?_, .inr ?_, .inr ?_, .inr ?_, .inr ?_, .inr ?_, .inr ?_, trivial⟩
           ·exact fun a W hG _ hO _ => kM 9 rfl (hO.slot 9 (by kernel_rfl)) rfl hG
           ·intro a W hG hR hO hp; have h56 : slotOf a 56 = vi r := hp.1; refine kY (v := .bool true) hG rfl ?_; simp [slotOf] at h56; simp [execOp, go_sem, h56, e0]
           ·exact fun a W hG _ _ hp => kM 57 rfl hp.1 rfl hG
           ·exact fun a W hG _ hO _ => kM 12 rfl (hO.slot 12 (by kernel_rfl)) rfl hG
           ·exact fun a W hG _ hO _ => kM 13 rfl (hO.slot 13 (by kernel_rfl)) rfl hG
           ·intro a W hG hR hO hp; have h59 : slotOf a 59 = vi v := hp.1; have h60 : slotOf a 60 = vi cv := hp.2.1; refine kY (v := .bool false) hG rfl ?_; simp [slotOf] at h59 h60; simp [execOp, go_sem, h59, h60, q1]
           ·intro a W hG hR hO hp; have h58 : slotOf a 58 = .bool true := hp.1; have h61 : slotOf a 61 = .bool false := hp.2.1; refine kY (v := .bool false) hG rfl ?_; simp [slotOf] at h58 h61; simp [execOp, go_sem, h58, h61]
           ·exact fun a W hG _ _ hp => kM 62 rfl hp.1 rfl hG
           ·exact fun a W hG _ hO _ => kM 9 rfl (hO.slot 9 (by kernel_rfl)) rfl hG
           ·intro a W hG hR hO hp; have h64 : slotOf a 64 = vi r := hp.1; refine kY (v := .bool false) hG rfl ?_; simp [slotOf] at h64; simp [execOp, go_sem, h64, e2]
           ·exact fun a W hG _ _ hp => kM 65 rfl hp.1 rfl hG
           ·intro a W hG hR hO hp; have h66 : slotOf a 66 = .bool false := hp.1; have h68 : slotOf a 68 = undef := hp.2.1; refine kY (v := .bool false) hG rfl ?_; simp [slotOf] at h66 h68; simp [execOp, go_sem, h66, h68]
           ·exact fun a W hG _ _ hp => kM 69 rfl hp.1 rfl hG
           ·intro a W hG hR hO hp; have h70 : slotOf a 70 = .bool false := hp.1; have h86 : slotOf a 86 = undef := hp.2.1; refine kY (v := .bool false) hG rfl ?_; simp [slotOf] at h70 h86; simp [execOp, go_sem, h70, h86]
           ·intro a W hG hR hO hp; have h63 : slotOf a 63 = .bool false := hp.1; have h87 : slotOf a 87 = .bool false := hp.2.1; refine kY (v := .bool false) hG rfl ?_; simp [slotOf] at h63 h87; simp [execOp, go_sem, h63, h87]
           ·exact fun a W hG _ _ hp => kM 88 rfl hp.1 rfl hG
           ·exact fun a W hG _ hO _ => kM 9 rfl (hO.slot 9 (by kernel_rfl)) rfl hG
           ·exact fun a W hG _ hO _ => kM 8 rfl (hO.slot 8 (by kernel_rfl)) rfl hG
           ·intro a W hG hR hO hp; have h90 : slotOf a 90 = vi r := hp.1; have h91 : slotOf a 91 = vi (s.least - 1) := hp.2.1; refine kY (v := .bool true) hG rfl ?_; simp [slotOf] at h90 h91; simp [execOp, go_sem, h90, h91, e1]
           ·exact fun a W hG _ _ hp => kM 92 rfl hp.1 rfl hG
           ·exact fun a W hG _ hO _ => kM 10 rfl (hO.slot 10 (by kernel_rfl)) rfl hG
           ·intro a W hG hR hO hp; have h94 : slotOf a 94 = vi k := hp.1; refine kY (v := .bool true) hG rfl ?_; simp [slotOf] at h94; simp [execOp, go_sem, h94, qk]
           ·intro a W hG hR hO hp; have h93 : slotOf a 93 = .bool true := hp.1; have h95 : slotOf a 95 = .bool true := hp.2.1; refine kY (v := .bool true) hG rfl ?_; simp [slotOf] at h93 h95; simp [execOp, go_sem, h93, h95]
           ·exact fun a W hG _ _ hp => kM 96 rfl hp.1 rfl hG
           ·exact fun a W hG _ hO _ => kM 12 rfl (hO.slot 12 (by kernel_rfl)) rfl hG
           ·exact fun a W hG _ hO _ => kM 13 rfl (hO.slot 13 (by kernel_rfl)) rfl hG
           ·intro a W hG hR hO hp; have h7 := hO.slot 7 (by kernel_rfl); have c0 := keep_cell l0 hG; have c1 := keep_cell l1 hG; have c2 := keep_cell l2 hG; have c3 := keep_cell l3 hG; refine kY (v := lkV s f (some false)) hG rfl ?_; simp [slotOf] at h7; simp [execOp, go_sem, h7, c0, c1, c2, c3]
           ·exact fun a W hG _ hO _ => kM 2 rfl (hO.slot 2 (by kernel_rfl)) rfl hG
           ·exact fun a W hG _ hO _ => kM 9 rfl (hO.slot 9 (by kernel_rfl)) rfl hG
           ·intro a W hG hR hO hp; have h101 : slotOf a 101 = .slice (some ⟨ta, tf, none⟩) ts.length c := hp.1; have h102 : slotOf a 102 = vi r := hp.2.1; refine kY (v := .pointer (some ⟨ta, tf + r, none⟩)) hG rfl ?_; simp [slotOf] at h101 h102; simp [execOp, go_sem, h101, h102, hr3]
           ·intro a W hG hR hO hp; have h103 : slotOf a 103 = .pointer (some ⟨ta, tf + r, none⟩) := hp.1; have c0 := HXC.out W (newer_trans HJ4.out.nw hG); refine kY (v := .slice (some ⟨xa, xo, none⟩) s.cs.length x.c) hG rfl ?_; simp [slotOf] at h103; simp [execOp, go_sem, h103, c0]
           ·exact fun a W hG _ hO _ => kM 10 rfl (hO.slot 10 (by kernel_rfl)) rfl hG
           ·intro a W hG hR hO hp; have h105 : slotOf a 105 = vi k := hp.1; refine kY (v := vi k1) hG rfl ?_; simp [slotOf] at h105; simp [execOp, go_sem, h105, hk1]
           ·intro a W hG hR hO hp; have h104 : slotOf a 104 = .slice (some ⟨xa, xo, none⟩) s.cs.length x.c := hp.1; have h106 : slotOf a 106 = vi k1 := hp.2.1; refine kY (v := .pointer (some ⟨xa, xo + k1, none⟩)) hG rfl ?_; simp [slotOf] at h104 h106; simp [execOp, go_sem, h104, h106, hk2]
           ·intro a W hG hR hO hp; have h107 : slotOf a 107 = .pointer (some ⟨xa, xo + k1, none⟩) := hp.1; have c0 := HC3.out W (newer_trans HJ4.out.nw hG); refine kY (v := .slice Y2.a Y2.l.length Y2.c) hG rfl ?_; simp [slotOf] at h107; simp [execOp, go_sem, h107, c0]
           ·exact fun a W hG _ hO _ => kM 11 rfl (hO.slot 11 (by kernel_rfl)) rfl hG
           ·intro a W hG hR hO hp
            have h100 : slotOf a 100 = lkV s f (some false) := hp.1
            have h108 : slotOf a 108 = .slice Y2.a Y2.l.length Y2.c := hp.2.1
            have h109 : slotOf a 109 = vi b := hp.2.2.1
            refine wp_enters (f := 82) (args := #[lkV s f (some false), .slice Y2.a Y2.l.length Y2.c, vi b]) ?_ ((HB2.out W (newer_trans HJ4.out.nw hG)).mono ?_)
            ·simp [slotOf] at h100 h108 h109
             simp [go_sem, h100, h108, h109]
            ·rintro e w' ⟨rfl, hb⟩
             exact ⟨_, rfl, _, rfl, rfl, hb, below_next hG hb⟩
           ·intro a W hG hR hO hp; have h99 : slotOf a 99 = vi cv := hp.1; have h110 : slotOf a 110 = vi b2 := hp.2.1; refine kY (v := vi (cv + b2)) hG rfl ?_; simp [slotOf] at h99 h110; simp [execOp, go_sem, h99, h110, hw2]
           ·intro a W hG hR hO hp; have h98 : slotOf a 98 = vi v := hp.1; have h111 : slotOf a 111 = vi (cv + b2) := hp.2.1; refine kY (v := .bool false) hG rfl ?_; simp [slotOf] at h98 h111; simp [execOp, go_sem, h98, h111, q3]
           ·intro a W hG hR hO hp; have h97 : slotOf a 97 = .bool true := hp.1; have h112 : slotOf a 112 = .bool false := hp.2.1; refine kY (v := .bool false) hG rfl ?_; simp [slotOf] at h97 h112; simp [execOp, go_sem, h97, h112]
           ·intro a W hG hR hO hp; have h89 : slotOf a 89 = .bool false := hp.1; have h113 : slotOf a 113 = .bool false := hp.2.1; refine kY (v := .bool false) hG rfl ?_; simp [slotOf] at h89 h113; simp [execOp, go_sem, h89, h113]
           ·exact fun a W hG _ _ hp => kM 114 rfl hp.1 rfl hG
           ·exact fun a W hG _ hO _ => kM 9 rfl (hO.slot 9 (by kernel_rfl)) rfl hG
           ·exact fun a W hG _ hO _ => kM 8 rfl (hO.slot 8 (by kernel_rfl)) rfl hG
           ·intro a W hG hR hO hp; have h116 : slotOf a 116 = vi r := hp.1; have h117 : slotOf a 117 = vi (s.least - 1) := hp.2.1; refine kY (v := .bool true) hG rfl ?_; simp [slotOf] at h116 h117; simp [execOp, go_sem, h116, h117, e1]
           ·exact fun a W hG _ _ hp => kM 118 rfl hp.1 rfl hG
           ·exact fun a W hG _ hO _ => kM 10 rfl (hO.slot 10 (by kernel_rfl)) rfl hG
           ·exact fun a W hG _ hO _ => kM 8 rfl (hO.slot 8 (by kernel_rfl)) rfl hG
           ·intro a W hG hR hO hp; have h120 : slotOf a 120 = vi k := hp.1; have h121 : slotOf a 121 = vi (s.least - 1) := hp.2.1; refine kY (v := .bool true) hG rfl ?_; simp [slotOf] at h120 h121; simp [execOp, go_sem, h120, h121, e4]
           ·intro a W hG hR hO hp; have h119 : slotOf a 119 = .bool true := hp.1; have h122 : slotOf a 122 = .bool true := hp.2.1; refine kY (v := .bool true) hG rfl ?_; simp [slotOf] at h119 h122; simp [execOp, go_sem, h119, h122]
           ·exact fun a W hG _ _ hp => kM 123 rfl hp.1 rfl hG
           ·exact fun a W hG _ hO _ => kM 12 rfl (hO.slot 12 (by kernel_rfl)) rfl hG
           ·intro a W hG hR hO hp; have h125 : slotOf a 125 = vi v := hp.1; refine kY (v := .bool false) hG rfl ?_; simp [slotOf] at h125; simp [execOp, go_sem, h125, q4]
           ·intro a W hG hR hO hp; have h124 : slotOf a 124 = .bool true := hp.1; have h126 : slotOf a 126 = .bool false := hp.2.1; refine kY (v := .bool false) hG rfl ?_; simp [slotOf] at h124 h126; simp [execOp, go_sem, h124, h126]
          ·intro wz hG hR
           rintro _ rfl _ rfl _ rfl _ rfl _ rfl _ rfl _ rfl _ rfl _ rfl _ rfl _ rfl _ rfl _ rfl _ rfl _ rfl _ rfl _ rfl _ rfl _ rfl _ rfl _ rfl _ rfl _ rfl _ rfl _ rfl _ rfl _ rfl _ rfl _ rfl _ rfl _ rfl _ rfl _ rfl _ rfl _ rfl _ rfl _ rfl _ rfl _ rfl _ rfl _ rfl _ rfl _ rfl _ rfl _ rfl _ rfl _ rfl _ rfl _ rfl _ rfl _ rfl _ rfl _ rfl _ rfl _ rfl _ rfl _ rfl _ rfl _ rfl _ rfl _ rfl _ rfl _ rfl _ rfl _ rfl _ rfl _ rfl _ rfl _ rfl _ rfl _ rfl _ rfl
           change wpList _ _ _ _ _ _
           simp only [Act.put, List.setIfInBounds_toArray, List.set_cons_zero, List.set_cons_succ]
           have HN := Lib.hid (HJ4.out.next hG)
           clear hG hR HJ4 x1 l0 l1 l2 l3 e0 e2 qk e1 e4
           go_wp2_with fail
           refine ⟨⟨b + 1, by simp, by omega, HE.out, HN.out⟩, ?_⟩
           simp [intOf]
           omega
       case neg =>
        have e1 : ((r : Int) == s.least - 1) = false := by have := HN1.out; rw [beq_eq_false_iff_ne]; omega
        have HE := Lib.hid (HON.out (HCE.out.2 (by have := HN1.out; omega)))
        clear HFAIL HON HCE
        clear HP1 HP2 q0 ql
        refine wp_words (by kernel_rfl) (region_told_u 72 (by kernel_rfl) (by kernel_rfl) [false, false, false, false, false, false, false, false, false, false, false, true, true, false, false, true, true, true, true, true, true, true, true, true, true, true, true, true, true, true, true, false, false, false, false, false, false, false, true, true, false, false, true, true, true, true, true, true, true, true, true, true, true, true, true, true, true, false, false, false, false, false, false, false, true, true, true, false, false, true, true, false] (fun W => Below w6.heap.size w6 W) newer [vIs (vi r), vIs (.bool true), vIs (.bool true), vIs (vi v), vIs (vi cv), vIs (.bool false), vIs (.bool false), vIs (.bool false), vIs (vi r), vIs (.bool false), vIs (.bool false), vU, vU, vIs (.bool false), vIs (.bool false), vU, vU, vU, vU, vU, vU, vU, vU, vU, vU, vU, vU, vU, vU, vU, vU, vIs (.bool false), vIs (.bool false), vIs (.bool false), vIs (vi r), vIs (vi (s.least - 1)), vIs (.bool false), vIs (.bool false), vU, vU, vIs (.bool false), vIs (.bool false), vU, vU, vU, vU, vU, vU, vU, vU, vU, vU, vU, vU, vU, vU, vU, vIs (.bool false), vIs (.bool false), vIs (.bool false), vIs (vi r), vIs (vi (s.least - 1)), vIs (.bool false), vIs (.bool false), vU, vU, vU, vIs (.bool false), vIs (.bool false), vU, vU, vIs (.bool false)] (by repeat' first | refine And.intro ?_ ?_ | exact trivial | exact rfl | (intro v W h; obtain rfl : v = _ := h; first | rfl | (simp; done) | (simp [undef]; done))) (by repeat' first | refine And.intro ?_ ?_ | exact trivial | exact (fun h => Bool.noConfusion (show false = true from h)) | exact (fun _ _ => rfl)) (fun h k => newer_trans h k) (pickD_stable _ (by repeat' first | refine And.intro ?_ ?_ | exact trivial | exact vIs_st)) (Below.refl _ w6).drew (Below.refl _ _) ?_ ?_)
        ·refine ⟨.inr ?_, .inr ?_, .inr ?_, .inr ?_, .inr ?_, .inr ?_, .inr ?_, .inr ?_, .inr ?_, .inr ?_, .inr ?_, .inl rfl, .inl rfl, .inr ?_, .inr ?_, .inl rfl, .inl rfl, .inl rfl, .inl rfl, .inl rfl, .inl rfl, .inl rfl, .inl rfl, .inl rfl, .inl rfl, .inl rfl, .inl rfl, .inl rfl, .inl rfl, .inl rfl, .inl rfl, .inr ?_, .inr ?_, .inr ?_, .inr ?_, .inr ?_, .inr ?_, .inr ?_, .inl rfl, .inl rfl, .inr ?_, .inr ?_, .inl rfl, .inl rfl, .inl rfl, .inl rfl, .inl rfl, .inl rfl, .inl rfl, .inl rfl, .inl rfl, .inl rfl, .inl rfl, .inl rfl, .inl rfl, .inl rfl, .inl rfl, .inr ?_, .inr ?_, .inr ?_, .inr ?_, .inr ?_, .inr ?_, .inr ?_, .inl rfl, .inl rfl, .inl rfl, .inr ?_, .inr ?_, .inl rfl, .inl rfl, .inr ?_, trivial⟩
         ·exact fun a W hG _ hO _ => kM 9 rfl (hO.slot 9 (by kernel_rfl)) rfl hG
         ·intro a W hG hR hO hp; have h56 : slotOf a 56 = vi r := hp.1; refine kY (v := .bool true) hG rfl ?_; simp [slotOf] at h56; simp [execOp, go_sem, h56, e0]
         ·exact fun a W hG _ _ hp => kM 57 rfl hp.1 rfl hG
         ·exact fun a W hG _ hO _ => kM 12 rfl (hO.slot 12 (by kernel_rfl)) rfl hG
         ·exact fun a W hG _ hO _ => kM 13 rfl (hO.slot 13 (by kernel_rfl)) rfl hG
         ·intro a W hG hR hO hp; have h59 : slotOf a 59 = vi v := hp.1; have h60 : slotOf a 60 = vi cv := hp.2.1; refine kY (v := .bool false) hG rfl ?_; simp [slotOf] at h59 h60; simp [execOp, go_sem, h59, h60, q1]
         ·intro a W hG hR hO hp; have h58 : slotOf a 58 = .bool true := hp.1; have h61 : slotOf a 61 = .bool false := hp.2.1; refine kY (v := .bool false) hG rfl ?_; simp [slotOf] at h58 h61; simp [execOp, go_sem, h58, h61]
         ·exact fun a W hG _ _ hp => kM 62 rfl hp.1 rfl hG
         ·exact fun a W hG _ hO _ => kM 9 rfl (hO.slot 9 (by kernel_rfl)) rfl hG
         ·intro a W hG hR hO hp; have h64 : slotOf a 64 = vi r := hp.1; refine kY (v := .bool false) hG rfl ?_; simp [slotOf] at h64; simp [execOp, go_sem, h64, e2]
         ·exact fun a W hG _ _ hp => kM 65 rfl hp.1 rfl hG
         ·intro a W hG hR hO hp; have h66 : slotOf a 66 = .bool false := hp.1; have h68 : slotOf a 68 = undef := hp.2.1; refine kY (v := .bool false) hG rfl ?_; simp [slotOf] at h66 h68; simp [execOp, go_sem, h66, h68]
         ·exact fun a W hG _ _ hp => kM 69 rfl hp.1 rfl hG
         ·intro a W hG hR hO hp; have h70 : slotOf a 70 = .bool false := hp.1; have h86 : slotOf a 86 = undef := hp.2.1; refine kY (v := .bool false) hG rfl ?_; simp [slotOf] at h70 h86; simp [execOp, go_sem, h70, h86]
         ·intro a W hG hR hO hp; have h63 : slotOf a 63 = .bool false := hp.1; have h87 : slotOf a 87 = .bool false := hp.2.1; refine kY (v := .bool false) hG rfl ?_; simp [slotOf] at h63 h87; simp [execOp, go_sem, h63, h87]
         ·exact fun a W hG _ _ hp => kM 88 rfl hp.1 rfl hG
         ·exact fun a W hG _ hO _ => kM 9 rfl (hO.slot 9 (by kernel_rfl)) rfl hG
         ·exact fun a W hG _ hO _ => kM 8 rfl (hO.slot 8 (by kernel_rfl)) rfl hG
         ·intro a W hG hR hO hp; have h90 : slotOf a 90 = vi r := hp.1; have h91 : slotOf a 91 = vi (s.least - 1) := hp.2.1; refine kY (v := .bool false) hG rfl ?_; simp [slotOf] at h90 h91; simp [execOp, go_sem, h90, h91, e1]
         ·exact fun a W hG _ _ hp => kM 92 rfl hp.1 rfl hG
         ·intro a W hG hR hO hp; have h93 : slotOf a 93 = .bool false := hp.1; have h95 : slotOf a 95 = undef := hp.2.1; refine kY (v := .bool false) hG rfl ?_; simp [slotOf] at h93 h95; simp [execOp, go_sem, h93, h95]
         ·exact fun a W hG _ _ hp => kM 96 rfl hp.1 rfl hG
         ·intro a W hG hR hO hp; have h97 : slotOf a 97 = .bool false := hp.1; have h112 : slotOf a 112 = undef := hp.2.1; refine kY (v := .bool false) hG rfl ?_; simp [slotOf] at h97 h112; simp [execOp, go_sem, h97, h112]
         ·intro a W hG hR hO hp; have h89 : slotOf a 89 = .bool false := hp.1; have h113 : slotOf a 113 = .bool false := hp.2.1; refine kY (v := .bool false) hG rfl ?_; simp [slotOf] at h89 h113; simp [execOp, go_sem, h89, h113]
         ·exact fun a W hG _ _ hp => kM 114 rfl hp.1 rfl hG
         ·exact fun a W hG _ hO _ => kM 9 rfl (hO.slot 9 (by kernel_rfl)) rfl hG
         ·exact fun a W hG _ hO _ => kM 8 rfl (hO.slot 8 (by kernel_rfl)) rfl hG
         ·intro a W hG hR hO hp; have h116 : slotOf a 116 = vi r := hp.1; have h117 : slotOf a 117 = vi (s.least - 1) := hp.2.1; refine kY (v := .bool false) hG rfl ?_; simp [slotOf] at h116 h117; simp [execOp, go_sem, h116, h117, e1]
         ·exact fun a W hG _ _ hp => kM 118 rfl hp.1 rfl hG
         ·intro a W hG hR hO hp; have h119 : slotOf a 119 = .bool false := hp.1; have h122 : slotOf a 122 = undef := hp.2.1; refine kY (v := .bool false) hG rfl ?_; simp [slotOf] at h119 h122; simp [execOp, go_sem, h119, h122]
         ·exact fun a W hG _ _ hp => kM 123 rfl hp.1 rfl hG
         ·intro a W hG hR hO hp; have h124 : slotOf a 124 = .bool false := hp.1; have h126 : slotOf a 126 = undef := hp.2.1; refine kY (v := .bool false) hG rfl ?_; simp [slotOf] at h124 h126; simp [execOp, go_sem, h124, h126]
        ·intro wz hG hR
         rintro _ rfl _ rfl _ rfl _ rfl _ rfl _ rfl _ rfl _ rfl _ rfl _ rfl _ rfl _ rfl _ rfl _ rfl _ rfl _ rfl _ rfl _ rfl _ rfl _ rfl _ rfl _ rfl _ rfl _ rfl _ rfl _ rfl _ rfl _ rfl _ rfl _ rfl _ rfl _ rfl _ rfl _ rfl _ rfl _ rfl _ rfl _ rfl _ rfl _ rfl _ rfl _ rfl _ rfl _ rfl _ rfl _ rfl _ rfl _ rfl _ rfl _ rfl _ rfl _ rfl _ rfl _ rfl _ rfl _ rfl _ rfl _ rfl _ rfl _ rfl _ rfl _ rfl _ rfl _ rfl _ rfl _ rfl _ rfl _ rfl _ rfl _ rfl _ rfl _ rfl
         change wpList _ _ _ _ _ _
         simp only [Act.put, List.setIfInBounds_toArray, List.set_cons_zero, List.set_cons_succ]
         have HN := Lib.hid (HJ4.out.next hG)
         clear hG hR HJ4 x1 l0 l1 l2 l3 e0 e2 qk e1
         go_wp2_with fail
         refine ⟨⟨b + 1, by simp, by omega, HE.out, HN.out⟩, ?_⟩
         simp [intOf]
         omega
     case neg =>
      by_cases q1 : cv < v
      case pos =>
       have HE : Hid (R = false) := Lib.hid (HFAIL.out (by rw [HCE.out]; have := HN1.out; omega))
       clear HFAIL HON HCE
       clear HP1 HP2 q0
       refine wp_words (by kernel_rfl) (region_told_u 72 (by kernel_rfl) (by kernel_rfl) [false, false, false, false, false, false, false, false, true, true, true, true, true, true, true, true, true, true, true, true, true, true, true, true, true, true, true, true, true, true, true, true, false, false, true, true, true, true, true, true, true, true, true, true, true, true, true, true, true, true, true, true, true, true, true, true, true, true, false, false, true, true, true, true, true, true, true, true, true, true, true, true] (fun W => Below w6.heap.size w6 W) newer [vIs (vi r), vIs (.bool true), vIs (.bool true), vIs (vi v), vIs (vi cv), vIs (.bool true), vIs (.bool true), vIs (.bool true), vU, vU, vU, vU, vU, vU, vU, vU, vU, vU, vU, vU, vU, vU, vU, vU, vU, vU, vU, vU, vU, vU, vU, vU, vIs (.bool true), vIs (.bool true), vU, vU, vU, vU, vU, vU, vU, vU, vU, vU, vU, vU, vU, vU, vU, vU, vU, vU, vU, vU, vU, vU, vU, vU, vIs (.bool true), vIs (.bool true), vU, vU, vU, vU, vU, vU, vU, vU, vU, vU, vU, vU] (by repeat' first | refine And.intro ?_ ?_ | exact trivial | exact rfl | (intro v W h; obtain rfl : v = _ := h; first | rfl | (simp; done) | (simp [undef]; done))) (by repeat' first | refine And.intro ?_ ?_ | exact trivial | exact (fun h => Bool.noConfusion (show false = true from h)) | exact (fun _ _ => rfl)) (fun h k => newer_trans h k) (pickD_stable _ (by repeat' first | refine And.intro ?_ ?_ | exact trivial | exact vIs_st)) (Below.refl _ w6).drew (Below.refl _ _) ?_ ?_)
       ·refine ⟨.inr ?_, .inr ?_, .inr ?_, .inr ?_, .inr ?_, .inr ?_, .inr ?_, .inr ?_, .inl rfl, .inl rfl, .inl rfl, .inl rfl, .inl rfl, .inl rfl, .inl rfl, .inl rfl, .inl rfl, .inl rfl, .inl rfl, .inl rfl, .inl rfl, .inl rfl, .inl rfl, .inl rfl, .inl rfl, .inl rfl, .inl rfl, .inl rfl, .inl rfl, .inl rfl, .inl rfl, .inl rfl, .inr ?_, .inr ?_, .inl rfl, .inl rfl, .inl rfl, .inl rfl, .inl rfl, .inl rfl, .inl rfl, .inl rfl, .inl rfl, .inl rfl, .inl rfl, .inl rfl, .inl rfl, .inl rfl, .inl rfl, .inl rfl, .inl rfl, .inl rfl, .inl rfl, .inl rfl, .inl rfl, .inl rfl, .inl rfl, .inl rfl, .inr ?_, .inr ?_, .inl rfl, .inl rfl, .inl rfl, .inl rfl, .inl rfl, .inl rfl, .inl rfl, .inl rfl, .inl rfl, .inl rfl, .inl rfl, .inl rfl, trivial⟩
        ·exact fun a W hG _ hO _ => kM 9 rfl (hO.slot 9 (by kernel_rfl)) rfl hG
        ·intro a W hG hR hO hp; have h56 : slotOf a 56 = vi r := hp.1; refine kY (v := .bool true) hG rfl ?_; simp [slotOf] at h56; simp [execOp, go_sem, h56, e0]
        ·exact fun a W hG _ _ hp => kM 57 rfl hp.1 rfl hG
        ·exact fun a W hG _ hO _ => kM 12 rfl (hO.slot 12 (by kernel_rfl)) rfl hG
        ·exact fun a W hG _ hO _ => kM 13 rfl (hO.slot 13 (by kernel_rfl)) rfl hG
        ·intro a W hG hR hO hp; have h59 : slotOf a 59 = vi v := hp.1; have h60 : slotOf a 60 = vi cv := hp.2.1; refine kY (v := .bool true) hG rfl ?_; simp [slotOf] at h59 h60; simp [execOp, go_sem, h59, h60, q1]
        ·intro a W hG hR hO hp; have h58 : slotOf a 58 = .bool true := hp.1; have h61 : slotOf a 61 = .bool true := hp.2.1; refine kY (v := .bool true) hG rfl ?_; simp [slotOf] at h58 h61; simp [execOp, go_sem, h58, h61]
        ·exact fun a W hG _ _ hp => kM 62 rfl hp.1 rfl hG
        ·intro a W hG hR hO hp; have h63 : slotOf a 63 = .bool true := hp.1; have h87 : slotOf a 87 = undef := hp.2.1; refine kY (v := .bool true) hG rfl ?_; simp [slotOf] at h63 h87; simp [execOp, go_sem, h63, h87]
        ·exact fun a W hG _ _ hp => kM 88 rfl hp.1 rfl hG
        ·intro a W hG hR hO hp; have h89 : slotOf a 89 = .bool true := hp.1; have h113 : slotOf a 113 = undef := hp.2.1; refine kY (v := .bool true) hG rfl ?_; simp [slotOf] at h89 h113; simp [execOp, go_sem, h89, h113]
        ·exact fun a W hG _ _ hp => kM 114 rfl hp.1 rfl hG
       ·intro wz hG hR
        rintro _ rfl _ rfl _ rfl _ rfl _ rfl _ rfl _ rfl _ rfl _ rfl _ rfl _ rfl _ rfl _ rfl _ rfl _ rfl _ rfl _ rfl _ rfl _ rfl _ rfl _ rfl _ rfl _ rfl _ rfl _ rfl _ rfl _ rfl _ rfl _ rfl _ rfl _ rfl _ rfl _ rfl _ rfl _ rfl _ rfl _ rfl _ rfl _ rfl _ rfl _ rfl _ rfl _ rfl _ rfl _ rfl _ rfl _ rfl _ rfl _ rfl _ rfl _ rfl _ rfl _ rfl _ rfl _ rfl _ rfl _ rfl _ rfl _ rfl _ rfl _ rfl _ rfl _ rfl _ rfl _ rfl _ rfl _ rfl _ rfl _ rfl _ rfl _ rfl _ rfl
        change wpList _ _ _ _ _ _
        simp only [Act.put, List.setIfInBounds_toArray, List.set_cons_zero, List.set_cons_succ]
        have HN := Lib.hid (HJ4.out.next hG)
        clear hG hR HJ4 x1 l0 l1 l2 l3 e0 e2 qk
        go_wp2_with fail
        go_ret
        exact ⟨by rw [HE.out] <;> rfl, HN.out.nw⟩
      case neg =>
       by_cases ql : (r : Int) = s.least - 1
       case pos =>
        have e1 : ((r : Int) == s.least - 1) = true := by have := HN1.out; rw [beq_iff_eq]; omega
        have e4 : s.least - 1 <= (k : Int) := by have := HN1.out; omega
        by_cases q4 : v < 0
        case pos =>
         have HE : Hid (R = false) := Lib.hid (HFAIL.out (by rw [HCE.out]; have := HN1.out; omega))
         clear HFAIL HON HCE
         clear HP1 HP2 q0 ql
         refine wp_words (by kernel_rfl) (region_told_u 72 (by kernel_rfl) (by kernel_rfl) [false, false, false, false, false, false, false, false, false, false, false, true, true, false, false, true, true, true, true, true, true, true, true, true, true, true, true, true, true, true, true, false, false, false, false, false, false, false, false, false, false, false, true, true, true, true, true, true, true, true, true, true, true, true, true, true, true, false, false, false, false, false, false, false, false, false, false, false, false, false, false, false] (fun W => Below w6.heap.size w6 W) newer [vIs (vi r), vIs (.bool true), vIs (.bool true), vIs (vi v), vIs (vi cv), vIs (.bool false), vIs (.bool false), vIs (.bool false), vIs (vi r), vIs (.bool false), vIs (.bool false), vU, vU, vIs (.bool false), vIs (.bool false), vU, vU, vU, vU, vU, vU, vU, vU, vU, vU, vU, vU, vU, vU, vU, vU, vIs (.bool false), vIs (.bool false), vIs (.bool false), vIs (vi r), vIs (vi (s.least - 1)), vIs (.bool true), vIs (.bool true), vIs (vi k), vIs (.bool false), vIs (.bool false), vIs (.bool false), vU, vU, vU, vU, vU, vU, vU, vU, vU, vU, vU, vU, vU, vU, vU, vIs (.bool false), vIs (.bool false), vIs (.bool false), vIs (vi r), vIs (vi (s.least - 1)), vIs (.bool true), vIs (.bool true), vIs (vi k), vIs (vi (s.least - 1)), vIs (.bool true), vIs (.bool true), vIs (.bool true), vIs (vi v), vIs (.bool true), vIs (.bool true)] (by repeat' first | refine And.intro ?_ ?_ | exact trivial | exact rfl | (intro v W h; obtain rfl : v = _ := h; first | rfl | (simp; done) | (simp [undef]; done))) (by repeat' first | refine And.intro ?_ ?_ | exact trivial | exact (fun h => Bool.noConfusion (show false = true from h)) | exact (fun _ _ => rfl)) (fun h k => newer_trans h k) (pickD_stable _ (by repeat' first | refine And.intro ?_ ?_ | exact trivial | exact vIs_st)) (Below.refl _ w6).drew (Below.refl _ _) ?_ ?_)
         ·refine ⟨.inr ?_, .inr ?_, .inr ?_, .inr ?_, .inr ?_, .inr ?_, .inr ?_, .inr ?_, .inr ?_, .inr ?_, .inr ?_, .inl rfl, .inl rfl, .inr ?_, .inr ?_, .inl rfl, .inl rfl, .inl rfl, .inl rfl, .inl rfl, .inl rfl, .inl rfl, .inl rfl, .inl rfl, .inl rfl, .inl rfl, .inl rfl, .inl rfl, .inl rfl, .inl rfl, .inl rfl, .inr ?_, .inr ?_, .inr ?_, .inr ?_, .inr ?_, .inr ?_, .inr ?_, .inr ?_, .inr ?_, .inr ?_, .inr ?_, .inl rfl, .inl rfl, .inl rfl, .inl rfl, .inl rfl, .inl rfl, .inl rfl, .inl rfl, .inl rfl, .inl rfl, .inl rfl, .inl rfl, .inl rfl, .inl rfl, .inl rfl, .inr ?_, .inr ?_, .inr ?_, .inr ?_, .inr ?_, .inr ?_, .inr ?_, .inr ?_, .inr ?_, .inr ?_, .inr ?_, .inr ?_, .inr ?_, .inr ?_, .inr ?_, trivial⟩
          ·exact fun a W hG _ hO _ => kM 9 rfl (hO.slot 9 (by kernel_rfl)) rfl hG
          ·intro a W hG hR hO hp; have h56 : slotOf a 56 = vi r := hp.1; refine kY (v := .bool true) hG rfl ?_; simp [slotOf] at h56; simp [execOp, go_sem, h56, e0]
          ·exact fun a W hG _ _ hp => kM 57 rfl hp.1 rfl hG
          ·exact fun a W hG _ hO _ => kM 12 rfl (hO.slot 12 (by kernel_rfl)) rfl hG
          ·exact fun a W hG _ hO _ => kM 13 rfl (hO.slot 13 (by kernel_rfl)) rfl hG
          ·intro a W hG hR hO hp; have h59 : slotOf a 59 = vi v := hp.1; have h60 : slotOf a 60 = vi cv := hp.2.1; refine kY (v := .bool false) hG rfl ?_; simp [slotOf] at h59 h60; simp [execOp, go_sem, h59, h60, q1]
          ·intro a W hG hR hO hp; have h58 : slotOf a 58 = .bool true := hp.1; have h61 : slotOf a 61 = .bool false := hp.2.1; refine kY (v := .bool false) hG rfl ?_; simp [slotOf] at h58 h61; simp [execOp, go_sem, h58, h61]
          ·exact fun a W hG _ _ hp => kM 62 rfl hp.1 rfl hG
          ·exact fun a W hG _ hO _ => kM 9 rfl (hO.slot 9 (by kernel_rfl)) rfl hG
          ·intro a W hG hR hO hp; have h64 : slotOf a 64 = vi r := hp.1; refine kY (v := .bool false) hG rfl ?_; simp [slotOf] at h64; simp [execOp, go_sem, h64, e2]
          ·exact fun a W hG _ _ hp => kM 65 rfl hp.1 rfl hG
          ·intro a W hG hR hO hp; have h66 : slotOf a 66 = .bool false := hp.1; have h68 : slotOf a 68 = undef := hp.2.1; refine kY (v := .bool false) hG rfl ?_; simp [slotOf] at h66 h68; simp [execOp, go_sem, h66, h68]
          ·exact fun a W hG _ _ hp => kM 69 rfl hp.1 rfl hG
          ·intro a W hG hR hO hp; have h70 : slotOf a 70 = .bool false := hp.1; have h86 : slotOf a 86 = undef := hp.2.1; refine kY (v := .bool false) hG rfl ?_; simp [slotOf] at h70 h86; simp [execOp, go_sem, h70, h86]
          ·intro a W hG hR hO hp; have h63 : slotOf a 63 = .bool false := hp.1; have h87 : slotOf a 87 = .bool false := hp.2.1; refine kY (v := .bool false) hG rfl ?_; simp [slotOf] at h63 h87; simp [execOp, go_sem, h63, h87]
          ·exact fun a W hG _ _ hp => kM 88 rfl hp.1 rfl hG
          ·exact fun a W hG _ hO _ => kM 9 rfl (hO.slot 9 (by kernel_rfl)) rfl hG
          ·exact fun a W hG _ hO _ => kM 8 rfl (hO.slot 8 (by kernel_rfl)) rfl hG
          ·intro a W hG hR hO hp; have h90 : slotOf a 90 = vi r := hp.1; have h91 : slotOf a 91 = vi (s.least - 1) := hp.2.1; refine kY (v := .bool true) hG rfl ?_; simp [slotOf] at h90 h91; simp [execOp, go_sem, h90, h91, e1]
          ·exact fun a W hG _ _ hp => kM 92 rfl hp.1 rfl hG
          ·exact fun a W hG _ hO _ => kM 10 rfl (hO.slot 10 (by kernel_rfl)) rfl hG
          ·intro a W hG hR hO hp; have h94 : slotOf a 94 = vi k := hp.1; refine kY (v := .bool false) hG rfl ?_; simp [slotOf] at h94; simp [execOp, go_sem, h94, qk]
          ·intro a W hG hR hO hp; have h93 : slotOf a 93 = .bool true := hp.1; have h95 : slotOf a 95 = .bool false := hp.2.1; refine kY (v := .bool false) hG rfl ?_; simp [slotOf] at h93 h95; simp [execOp, go_sem, h93, h95]
          ·exact fun a W hG _ _ hp => kM 96 rfl hp.1 rfl hG
          ·intro a W hG hR hO hp; have h97 : slotOf a 97 = .bool false := hp.1; have h112 : slotOf a 112 = undef := hp.2.1; refine kY (v := .bool false) hG rfl ?_; simp [slotOf] at h97 h112; simp [execOp, go_sem, h97, h112]
          ·intro a W hG hR hO hp; have h89 : slotOf a 89 = .bool false := hp.1; have h113 : slotOf a 113 = .bool false := hp.2.1; refine kY (v := .bool false) hG rfl ?_; simp [slotOf] at h89 h113; simp [execOp, go_sem, h89, h113]
          ·exact fun a W hG _ _ hp => kM 114 rfl hp.1 rfl hG
          ·exact fun a W hG _ hO _ => kM 9 rfl (hO.slot 9 (by kernel_rfl)) rfl hG
          ·exact fun a W hG _ hO _ => kM 8 rfl (hO.slot 8 (by kernel_rfl)) rfl hG
          ·intro a W hG hR hO hp; have h116 : slotOf a 116 = vi r := hp.1; have h117 : slotOf a 117 = vi (s.least - 1) := hp.2.1; refine kY (v := .bool true) hG rfl ?_; simp [slotOf] at h116 h117; simp [execOp, go_sem, h116, h117, e1]
          ·exact fun a W hG _ _ hp => kM 118 rfl hp.1 rfl hG
          ·exact fun a W hG _ hO _ => kM 10 rfl (hO.slot 10 (by kernel_rfl)) rfl hG
          ·exact fun a W hG _ hO _ => kM 8 rfl (hO.slot 8 (by kernel_rfl)) rfl hG
          ·intro a W hG hR hO hp; have h120 : slotOf a 120 = vi k := hp.1; have h121 : slotOf a 121 = vi (s.least - 1) := hp.2.1; refine kY (v := .bool true) hG rfl ?_; simp [slotOf] at h120 h121; simp [execOp, go_sem, h120, h121, e4]
          ·intro a W hG hR hO hp; have h119 : slotOf a 119 = .bool true := hp.1; have h122 : slotOf a 122 = .bool true := hp.2.1; refine kY (v := .bool true) hG rfl ?_; simp [slotOf] at h119 h122; simp [execOp, go_sem, h119, h122]
          ·exact fun a W hG _ _ hp => kM 123 rfl hp.1 rfl hG
          ·exact fun a W hG _ hO _ => kM 12 rfl (hO.slot 12 (by kernel_rfl)) rfl hG
          ·intro a W hG hR hO hp; have h125 : slotOf a 125 = vi v := hp.1; refine kY (v := .bool true) hG rfl ?_; simp [slotOf] at h125; simp [execOp, go_sem, h125, q4]
          ·intro a W hG hR hO hp; have h124 : slotOf a 124 = .bool true := hp.1; have h126 : slotOf a 126 = .bool true := hp.2.1; refine kY (v := .bool true) hG rfl ?_; simp [slotOf] at h124 h126; simp [execOp, go_sem, h124, h126]
         ·intro wz hG hR
          rintro _ rfl _ rfl _ rfl _ rfl _ rfl _ rfl _ rfl _ rfl _ rfl _ rfl _ rfl _ rfl _ rfl _ rfl _ rfl _ rfl _ rfl _ rfl _ rfl _ rfl _ rfl _ rfl _ rfl _ rfl _ rfl _ rfl _ rfl _ rfl _ rfl _ rfl _ rfl _ rfl _ rfl _ rfl _ rfl _ rfl _ rfl _ rfl _ rfl _ rfl _ rfl _ rfl _ rfl _ rfl _ rfl _ rfl _ rfl _ rfl _ rfl _ rfl _ rfl _ rfl _ rfl _ rfl _ rfl _ rfl _ rfl _ rfl _ rfl _ rfl _ rfl _ rfl _ rfl _ rfl _ rfl _ rfl _ rfl _ rfl _ rfl _ rfl _ rfl _ rfl
          change wpList _ _ _ _ _ _
          simp only [Act.put, List.setIfInBounds_toArray, List.set_cons_zero, List.set_cons_succ]
          have HN := Lib.hid (HJ4.out.next hG)
          clear hG hR HJ4 x1 l0 l1 l2 l3 e0 e2 qk e1 e4
          go_wp2_with fail
          go_ret
          exact ⟨by rw [HE.out] <;> rfl, HN.out.nw⟩
        case neg =>
         have HE := Lib.hid (HON.out (HCE.out.2 (by have := HN1.out; omega)))
         clear HFAIL HON HCE
         clear HP1 HP2 q0 ql
         refine wp_words (by kernel_rfl) (region_told_u 72 (by kernel_rfl) (by kernel_rfl) [false, false, false, false, false, false, false, false, false, false, false, true, true, false, false, true, true, true, true, true, true, true, true, true, true, true, true, true, true, true, true, false, false, false, false, false, false, false, false, false, false, false, true, true, true, true, true, true, true, true, true, true, true, true, true, true, true, false, false, false, false, false, false, false, false, false, false, false, false, false, false, false] (fun W => Below w6.heap.size w6 W) newer [vIs (vi r), vIs (.bool true), vIs (.bool true), vIs (vi v), vIs (vi cv), vIs (.bool false), vIs (.bool false), vIs (.bool false), vIs (vi r), vIs (.bool false), vIs (.bool false), vU, vU, vIs (.bool false), vIs (.bool false), vU, vU, vU, vU, vU, vU, vU, vU, vU, vU, vU, vU, vU, vU, vU, vU, vIs (.bool false), vIs (.bool false), vIs (.bool false), vIs (vi r), vIs (vi (s.least - 1)), vIs (.bool true), vIs (.bool true), vIs (vi k), vIs (.bool false), vIs (.bool false), vIs (.bool false), vU, vU, vU, vU, vU, vU, vU, vU, vU, vU, vU, vU, vU, vU, vU, vIs (.bool false), vIs (.bool false), vIs (.bool false), vIs (vi r), vIs (vi (s.least - 1)), vIs (.bool true), vIs (.bool true), vIs (vi k), vIs (vi (s.least - 1)), vIs (.bool true), vIs (.bool true), vIs (.bool true), vIs (vi v), vIs (.bool false), vIs (.bool false)] (by repeat' first | refine And.intro ?_ ?_ | exact trivial | exact rfl | (intro v W h; obtain rfl : v = _ := h; first | rfl | (simp; done) | (simp [undef]; done))) (by repeat' first | refine And.intro ?_ ?_ | exact trivial | exact (fun h => Bool.noConfusion (show false = true from h)) | exact (fun _ _ => rfl)) (fun h k => newer_trans h k) (pickD_stable _ (by repeat' first | refine And.intro ?_ ?_ | exact trivial | exact vIs_st)) (Below.refl _ w6).drew (Below.refl _ _) ?_ ?_)
         ·refine ⟨.inr ?_, .inr ?_, .inr ?_, .inr ?_, .inr ?_, .inr ?_, .inr ?_, .inr ?_, .inr ?_, .inr ?_, .inr ?_, .inl rfl, .inl rfl, .inr ?_, .inr ?_, .inl rfl, .inl rfl, .inl rfl, .inl rfl, .inl rfl, .inl rfl, .inl rfl, .inl rfl, .inl rfl, .inl rfl, .inl rfl, .inl rfl, .inl rfl, .inl rfl, .inl rfl, .inl rfl, .inr ?_, .inr ?_, .inr ?_, .inr ?_, .inr ?_, .inr ?_, .inr ?_, .inr ?_, .inr ?_, .inr ?_, .inr ?_, .inl rfl, .inl rfl, .inl rfl, .inl rfl, .inl rfl, .inl rfl, .inl rfl, .inl rfl, .inl rfl, .inl rfl, .inl rfl, .inl rfl, .inl rfl, .inl rfl, .inl rfl, .inr ?_, .inr ?_, .inr ?_, .inr ?_, .inr ?_, .inr ?_, .inr ?_, .inr ?_, .inr ?_, .inr ?_, .inr ?_, .inr ?_, .inr ?_, .inr ?_, .inr ?_, trivial⟩
          ·exact fun a W hG _ hO _ => kM 9 rfl (hO.slot 9 (by kernel_rfl)) rfl hG
          ·intro a W hG hR hO hp; have h56 : slotOf a 56 = vi r := hp.1; refine kY (v := .bool true) hG rfl ?_; simp [slotOf] at h56; simp [execOp, go_sem, h56, e0]
          ·exact fun a W hG _ _ hp => kM 57 rfl hp.1 rfl hG
          ·exact fun a W hG _ hO _ => kM 12 rfl (hO.slot 12 (by kernel_rfl)) rfl hG
          ·exact fun a W hG _ hO _ => kM 13 rfl (hO.slot 13 (by kernel_rfl)) rfl hG
          ·intro a W hG hR hO hp; have h59 : slotOf a 59 = vi v := hp.1; have h60 : slotOf a 60 = vi cv := hp.2.1; refine kY (v := .bool false) hG rfl ?_; simp [slotOf] at h59 h60; simp [execOp, go_sem, h59, h60, q1]
          ·intro a W hG hR hO hp; have h58 : slotOf a 58 = .bool true := hp.1; have h61 : slotOf a 61 = .bool false := hp.2.1; refine kY (v := .bool false) hG rfl ?_; simp [slotOf] at h58 h61; simp [execOp, go_sem, h58, h61]
          ·exact fun a W hG _ _ hp => kM 62 rfl hp.1 rfl hG
          ·exact fun a W hG _ hO _ => kM 9 rfl (hO.slot 9 (by kernel_rfl)) rfl hG
          ·intro a W hG hR hO hp; have h64 : slotOf a 64 = vi r := hp.1; refine kY (v := .bool false) hG rfl ?_; simp [slotOf] at h64; simp [execOp, go_sem, h64, e2]
          ·exact fun a W hG _ _ hp => kM 65 rfl hp.1 rfl hG
          ·intro a W hG hR hO hp; have h66 : slotOf a 66 = .bool false := hp.1; have h68 : slotOf a 68 = undef := hp.2.1; refine kY (v := .bool false) hG rfl ?_; simp [slotOf] at h66 h68; simp [execOp, go_sem, h66, h68]
          ·exact fun a W hG _ _ hp => kM 69 rfl hp.1 rfl hG
          ·intro a W hG hR hO hp; have h70 : slotOf a 70 = .bool false := hp.1; have h86 : slotOf a 86 = undef := hp.2.1; refine kY (v := .bool false) hG rfl ?_; simp [slotOf] at h70 h86; simp [execOp, go_sem, h70, h86]
          ·intro a W hG hR hO hp; have h63 : slotOf a 63 = .bool false := hp.1; have h87 : slotOf a 87 = .bool false := hp.2.1; refine kY (v := .bool false) hG rfl ?_; simp [slotOf] at h63 h87; simp [execOp, go_sem, h63, h87]
          ·exact fun a W hG _ _ hp => kM 88 rfl hp.1 rfl hG
          ·exact fun a W hG _ hO _ => kM 9 rfl (hO.slot 9 (by kernel_rfl)) rfl hG
          ·exact fun a W hG _ hO _ => kM 8 rfl (hO.slot 8 (by kernel_rfl)) rfl hG
          ·intro a W hG hR hO hp; have h90 : slotOf a 90 = vi r := hp.1; have h91 : slotOf a 91 = vi (s.least - 1) := hp.2.1; refine kY (v := .bool true) hG rfl ?_; simp [slotOf] at h90 h91; simp [execOp, go_sem, h90, h91, e1]
          ·exact fun a W hG _ _ hp => kM 92 rfl hp.1 rfl hG
          ·exact fun a W hG _ hO _ => kM 10 rfl (hO.slot 10 (by kernel_rfl)) rfl hG
          ·intro a W hG hR hO hp; have h94 : slotOf a 94 = vi k := hp.1; refine kY (v := .bool false) hG rfl ?_; simp [slotOf] at h94; simp [execOp, go_sem, h94, qk]
          ·intro a W hG hR hO hp; have h93 : slotOf a 93 = .bool true := hp.1; have h95 : slotOf a 95 = .bool false := hp.2.1; refine kY (v := .bool false) hG rfl ?_; simp [slotOf] at h93 h95; simp [execOp, go_sem, h93, h95]
          ·exact fun a W hG _ _ hp => kM 96 rfl hp.1 rfl hG
          ·intro a W hG hR hO hp; have h97 : slotOf a 97 = .bool false := hp.1; have h112 : slotOf a 112 = undef := hp.2.1; refine kY (v := .bool false) hG rfl ?_; simp [slotOf] at h97 h112; simp [execOp, go_sem, h97, h112]
          ·intro a W hG hR hO hp; have h89 : slotOf a 89 = .bool false := hp.1; have h113 : slotOf a 113 = .bool false := hp.2.1; refine kY (v := .bool false) hG rfl ?_; simp [slotOf] at h89 h113; simp [execOp, go_sem, h89, h113]
          ·exact fun a W hG _ _ hp => kM 114 rfl hp.1 rfl hG
          ·exact fun a W hG _ hO _ => kM 9 rfl (hO.slot 9 (by kernel_rfl)) rfl hG
          ·exact fun a W hG _ hO _ => kM 8 rfl (hO.slot 8 (by kernel_rfl)) rfl hG
          ·intro a W hG hR hO hp; have h116 : slotOf a 116 = vi r := hp.1; have h117 : slotOf a 117 = vi (s.least - 1) := hp.2.1; refine kY (v := .bool true) hG rfl ?_; simp [slotOf] at h116 h117; simp [execOp, go_sem, h116, h117, e1]
          ·exact fun a W hG _ _ hp => kM 118 rfl hp.1 rfl hG
          ·exact fun a W hG _ hO _ => kM 10 rfl (hO.slot 10 (by kernel_rfl)) rfl hG
          ·exact fun a W hG _ hO _ => kM 8 rfl (hO.slot 8 (by kernel_rfl)) rfl hG
          ·intro a W hG hR hO hp; have h120 : slotOf a 120 = vi k := hp.1; have h121 : slotOf a 121 = vi (s.least - 1) := hp.2.1; refine kY (v := .bool true) hG rfl ?_; simp [slotOf] at h120 h121; simp [execOp, go_sem, h120, h121, e4]
          ·intro a W hG hR hO hp; have h119 : slotOf a 119 = .bool true := hp.1; have h122 : slotOf a 122 = .bool true := hp.2.1; refine kY (v := .bool true) hG rfl ?_; simp [slotOf] at h119 h122; simp [execOp, go_sem, h119, h122]
          ·exact fun a W hG _ _ hp => kM 123 rfl hp.1 rfl hG
          ·exact fun a W hG _ hO _ => kM 12 rfl (hO.slot 12 (by kernel_rfl)) rfl hG
          ·intro a W hG hR hO hp; have h125 : slotOf a 125 = vi v := hp.1; refine kY (v := .bool false) hG rfl ?_; simp [slotOf] at h125; simp [execOp, go_sem, h125, q4]
          ·intro a W hG hR hO hp; have h124 : slotOf a 124 = .bool true := hp.1; have h126 : slotOf a 126 = .bool false := hp.2.1; refine kY (v := .bool false) hG rfl ?_; simp [slotOf] at h124 h126; simp [execOp, go_sem, h124, h126]
         ·intro wz hG hR
          rintro _ rfl _ rfl _ rfl _ rfl _ rfl _ rfl _ rfl _ rfl _ rfl _ rfl _ rfl _ rfl _ rfl _ rfl _ rfl _ rfl _ rfl _ rfl _ rfl _ rfl _ rfl _ rfl _ rfl _ rfl _ rfl _ rfl _ rfl _ rfl _ rfl _ rfl _ rfl _ rfl _ rfl _ rfl _ rfl _ rfl _ rfl _ rfl _ rfl _ rfl _ rfl _ rfl _ rfl _ rfl _ rfl _ rfl _ rfl _ rfl _ rfl _ rfl _ rfl _ rfl _ rfl _ rfl _ rfl _ rfl _ rfl _ rfl _ rfl _ rfl _ rfl _ rfl _ rfl _ rfl _ rfl _ rfl _ rfl _ rfl _ rfl _ rfl _ rfl _ rfl
          change wpList _ _ _ _ _ _
          simp only [Act.put, List.setIfInBounds_toArray, List.set_cons_zero, List.set_cons_succ]
          have HN := Lib.hid (HJ4.out.next hG)
          clear hG hR HJ4 x1 l0 l1 l2 l3 e0 e2 qk e1 e4
          go_wp2_with fail
          refine ⟨⟨b + 1, by simp, by omega, HE.out, HN.out⟩, ?_⟩
          simp [intOf]
          omega
       case neg =>
        have e1 : ((r : Int) == s.least - 1) = false := by have := HN1.out; rw [beq_eq_false_iff_ne]; omega
        have HE := Lib.hid (HON.out (HCE.out.2 (by have := HN1.out; omega)))
        clear HFAIL HON HCE
        clear HP1 HP2 q0 ql
        refine wp_words (by kernel_rfl) (region_told_u 72 (by kernel_rfl) (by kernel_rfl) [false, false, false, false, false, false, false, false, false, false, false, true, true, false, false, true, true, true, true, true, true, true, true, true, true, true, true, true, true, true, true, false, false, false, false, false, false, false, true, true, false, false, true, true, true, true, true, true, true, true, true, true, true, true, true, true, true, false, false, false, false, false, false, false, true, true, true, false, false, true, true, false] (fun W => Below w6.heap.size w6 W) newer [vIs (vi r), vIs (.bool true), vIs (.bool true), vIs (vi v), vIs (vi cv), vIs (.bool false), vIs (.bool false), vIs (.bool false), vIs (vi r), vIs (.bool false), vIs (.bool false), vU, vU, vIs (.bool false), vIs (.bool false), vU, vU, vU, vU, vU, vU, vU, vU, vU, vU, vU, vU, vU, vU, vU, vU, vIs (.bool false), vIs (.bool false), vIs (.bool false), vIs (vi r), vIs (vi (s.least - 1)), vIs (.bool false), vIs (.bool false), vU, vU, vIs (.bool false), vIs (.bool false), vU, vU, vU, vU, vU, vU, vU, vU, vU, vU, vU, vU, vU, vU, vU, vIs (.bool false), vIs (.bool false), vIs (.bool false), vIs (vi r), vIs (vi (s.least - 1)), vIs (.bool false), vIs (.bool false), vU, vU, vU, vIs (.bool false), vIs (.bool false), vU, vU, vIs (.bool false)] (by repeat' first | refine And.intro ?_ ?_ | exact trivial | exact rfl | (intro v W h; obtain rfl : v = _ := h; first | rfl | (simp; done) | (simp [undef]; done))) (by repeat' first | refine And.intro ?_ ?_ | exact trivial | exact (fun h => Bool.noConfusion (show false = true from h)) | exact (fun _ _ => rfl)) (fun h k => newer_trans h k) (pickD_stable _ (by repeat' first | refine And.intro ?_ ?_ | exact trivial | exact vIs_st)) (Below.refl _ w6).drew (Below.refl _ _) ?_ ?_)
        ·refine ⟨.inr ?_, .inr ?_, .inr ?_, .inr ?_, .inr ?_, .inr ?_, .inr ?_, .inr ?_, .inr ?_, .inr ?_, .inr ?_, .inl rfl, .inl rfl, .inr ?_, .inr ?_, .inl rfl, .inl rfl, .inl rfl, .inl rfl, .inl rfl, .inl rfl, .inl rfl, .inl rfl, .inl rfl, .inl rfl, .inl rfl, .inl rfl, .inl rfl, .inl rfl, .inl rfl, .inl rfl, .inr ?_, .inr ?_, .inr ?_, .inr ?_, .inr ?_, .inr ?_, .inr ?_, .inl rfl, .inl rfl, .inr ?_, .inr ?_, .inl rfl, .inl rfl, .inl rfl, .inl rfl, .inl rfl, .inl rfl, .inl rfl, .inl rfl, .inl rfl, .inl rfl, .inl rfl, .inl rfl, .inl rfl, .inl rfl, .inl rfl, .inr ?_, .inr ?_, .inr ?_, .inr ?_, .inr ?_, .inr ?_, .inr ?_, .inl rfl, .inl rfl, .inl rfl, .inr ?_, .inr ?_, .inl rfl, .inl rfl, .inr ?_, trivial⟩
         ·exact fun a W hG _ hO _ => kM 9 rfl (hO.slot 9 (by kernel_rfl)) rfl hG
         ·intro a W hG hR hO hp; have h56 : slotOf a 56 = vi r := hp.1; refine kY (v := .bool true) hG rfl ?_; simp [slotOf] at h56; simp [execOp, go_sem, h56, e0]
         ·exact fun a W hG _ _ hp => kM 57 rfl hp.1 rfl hG
         ·exact fun a W hG _ hO _ => kM 12 rfl (hO.slot 12 (by kernel_rfl)) rfl hG
         ·exact fun a W hG _ hO _ => kM 13 rfl (hO.slot 13 (by kernel_rfl)) rfl hG
         ·intro a W hG hR hO hp; have h59 : slotOf a 59 = vi v := hp.1; have h60 : slotOf a 60 = vi cv := hp.2.1; refine kY (v := .bool false) hG rfl ?_; simp [slotOf] at h59 h60; simp [execOp, go_sem, h59, h60, q1]
         ·intro a W hG hR hO hp; have h58 : slotOf a 58 = .bool true := hp.1; have h61 : slotOf a 61 = .bool false := hp.2.1; refine kY (v := .bool false) hG rfl ?_; simp [slotOf] at h58 h61; simp [execOp, go_sem, h58, h61]
         ·exact fun a W hG _ _ hp => kM 62 rfl hp.1 rfl hG
         ·exact fun a W hG _ hO _ => kM 9 rfl (hO.slot 9 (by kernel_rfl)) rfl hG
         ·intro a W hG hR hO hp; have h64 : slotOf a 64 = vi r := hp.1; refine kY (v := .bool false) hG rfl ?_; simp [slotOf] at h64; simp [execOp, go_sem, h64, e2]
         ·exact fun a W hG _ _ hp => kM 65 rfl hp.1 rfl hG
         ·intro a W hG hR hO hp; have h66 : slotOf a 66 = .bool false := hp.1; have h68 : slotOf a 68 = undef := hp.2.1; refine kY (v := .bool false) hG rfl ?_; simp [slotOf] at h66 h68; simp [execOp, go_sem, h66, h68]
         ·exact fun a W hG _ _ hp => kM 69 rfl hp.1 rfl hG
         ·intro a W hG hR hO hp; have h70 : slotOf a 70 = .bool false := hp.1; have h86 : slotOf a 86 = undef := hp.2.1; refine kY (v := .bool false) hG rfl ?_; simp [slotOf] at h70 h86; simp [execOp, go_sem, h70, h86]
         ·intro a W hG hR hO hp; have h63 : slotOf a 63 = .bool false := hp.1; have h87 : slotOf a 87 = .bool false := hp.2.1; refine kY (v := .bool false) hG rfl ?_; simp [slotOf] at h63 h87; simp [execOp, go_sem, h63, h87]
         ·exact fun a W hG _ _ hp => kM 88 rfl hp.1 rfl hG
         ·exact fun a W hG _ hO _ => kM 9 rfl (hO.slot 9 (by kernel_rfl)) rfl hG
         ·exact fun a W hG _ hO _ => kM 8 rfl (hO.slot 8 (by kernel_rfl)) rfl hG
         ·intro a W hG hR hO hp; have h90 : slotOf a 90 = vi r := hp.1; have h91 : slotOf a 91 = vi (s.least - 1) := hp.2.1; refine kY (v := .bool false) hG rfl ?_; simp [slotOf] at h90 h91; simp [execOp, go_sem, h90, h91, e1]
         ·exact fun a W hG _ _ hp => kM 92 rfl hp.1 rfl hG
         ·intro a W hG hR hO hp; have h93 : slotOf a 93 = .bool false := hp.1; have h95 : slotOf a 95 = undef := hp.2.1; refine kY (v := .bool false) hG rfl ?_; simp [slotOf] at h93 h95; simp [execOp, go_sem, h93, h95]
         ·exact fun a W hG _ _ hp => kM 96 rfl hp.1 rfl hG
         ·intro a W hG hR hO hp; have h97 : slotOf a 97 = .bool false := hp.1; have h112 : slotOf a 112 = undef := hp.2.1; refine kY (v := .bool false) hG rfl ?_; simp [slotOf] at h97 h112; simp [execOp, go_sem, h97, h112]
         ·intro a W hG hR hO hp; have h89 : slotOf a 89 = .bool false := hp.1; have h113 : slotOf a 113 = .bool false := hp.2.1; refine kY (v := .bool false) hG rfl ?_; simp [slotOf] at h89 h113; simp [execOp, go_sem, h89, h113]
         ·exact fun a W hG _ _ hp => kM 114 rfl hp.1 rfl hG
         ·exact fun a W hG _ hO _ => kM 9 rfl (hO.slot 9 (by kernel_rfl)) rfl hG
         ·exact fun a W hG _ hO _ => kM 8 rfl (hO.slot 8 (by kernel_rfl)) rfl hG
         ·intro a W hG hR hO hp; have h116 : slotOf a 116 = vi r := hp.1; have h117 : slotOf a 117 = vi (s.least - 1) := hp.2.1; refine kY (v := .bool false) hG rfl ?_; simp [slotOf] at h116 h117; simp [execOp, go_sem, h116, h117, e1]
         ·exact fun a W hG _ _ hp => kM 118 rfl hp.1 rfl hG
         ·intro a W hG hR hO hp; have h119 : slotOf a 119 = .bool false := hp.1; have h122 : slotOf a 122 = undef := hp.2.1; refine kY (v := .bool false) hG rfl ?_; simp [slotOf] at h119 h122; simp [execOp, go_sem, h119, h122]
         ·exact fun a W hG _ _ hp => kM 123 rfl hp.1 rfl hG
         ·intro a W hG hR hO hp; have h124 : slotOf a 124 = .bool false := hp.1; have h126 : slotOf a 126 = undef := hp.2.1; refine kY (v := .bool false) hG rfl ?_; simp [slotOf] at h124 h126; simp [execOp, go_sem, h124, h126]
        ·intro wz hG hR
         rintro _ rfl _ rfl _ rfl _ rfl _ rfl _ rfl _ rfl _ rfl _ rfl _ rfl _ rfl _ rfl _ rfl _ rfl _ rfl _ rfl _ rfl _ rfl _ rfl _ rfl _ rfl _ rfl _ rfl _ rfl _ rfl _ rfl _ rfl _ rfl _ rfl _ rfl _ rfl _ rfl _ rfl _ rfl _ rfl _ rfl _ rfl _ rfl _ rfl _ rfl _ rfl _ rfl _ rfl _ rfl _ rfl _ rfl _ rfl _ rfl _ rfl _ rfl _ rfl _ rfl _ rfl _ rfl _ rfl _ rfl _ rfl _ rfl _ rfl _ rfl _ rfl _ rfl _ rfl _ rfl _ rfl _ rfl _ rfl _ rfl _ rfl _ rfl _ rfl _ rfl
         change wpList _ _ _ _ _ _
         simp only [Act.put, List.setIfInBounds_toArray, List.set_cons_zero, List.set_cons_succ]
         have HN := Lib.hid (HJ4.out.next hG)
         clear hG hR HJ4 x1 l0 l1 l2 l3 e0 e2 qk e1
         go_wp2_with fail
         refine ⟨⟨b + 1, by simp, by omega, HE.out, HN.out⟩, ?_⟩
         simp [intOf]
         omega
    case neg =>
     have e0 : ((r : Int) == 0) = false := by rw [beq_eq_false_iff_ne]; omega
     have e2 : 0 < r := by omega
     by_cases qk : 0 < k
     case pos =>
      by_cases q2 : cv + b1 < v
      case pos =>
       have HE : Hid (R = false) := Lib.hid (HFAIL.out (by rw [HCE.out]; have := HN1.out; omega))
       clear HFAIL HON HCE
       obtain ⟨hbd1, X1, Y1, p1, o1, c1, c2, HB1⟩ := HP1.out (by omega) (by omega)
       have HB1 := Lib.hid HB1
       have hbd1 : -1000000000000000 <= b1 /\ b1 <= 1000000000000000 := hbd1
       have hw1 : IntKind.i64.wrap (cv + b1) = cv + b1 := IntWalk.i64_in _ (by omega)
       obtain ⟨r1, hr⟩ : ∃ r1, r1 = r - 1 := ⟨_, rfl⟩
       have hr1 : IntKind.i64.wrap ((r : Int) - 1) = r1 := by rw [IntWalk.i64_in _ (by omega)]; omega
       have hr2 : (r1 : Int) < ts.length := by omega
       rw [<- hr] at c1
       obtain ⟨k1, hk⟩ : ∃ k1, k1 = k - 1 := ⟨_, rfl⟩
       have hk1 : IntKind.i64.wrap ((k : Int) - 1) = k1 := by rw [IntWalk.i64_in _ (by omega)]; omega
       have hk2 : (k1 : Int) < s.cs.length := by omega
       rw [<- hk] at c2
       have HC1 := Lib.hid c1
       have HC2 := Lib.hid c2
       clear c1 c2
       clear HP1 HP2 q0
       refine wp_words (by kernel_rfl) (region_told_u 72 (by kernel_rfl) (by kernel_rfl) [false, false, false, true, true, true, false, false, false, false, false, false, false, false, false, false, false, false, false, false, false, false, false, false, false, false, false, false, false, false, false, false, false, false, true, true, true, true, true, true, true, true, true, true, true, true, true, true, true, true, true, true, true, true, true, true, true, true, false, false, true, true, true, true, true, true, true, true, true, true, true, true] (fun W => Below w6.heap.size w6 W) newer [vIs (vi r), vIs (.bool false), vIs (.bool false), vU, vU, vU, vIs (.bool false), vIs (.bool false), vIs (vi r), vIs (.bool true), vIs (.bool true), vIs (vi k), vIs (.bool true), vIs (.bool true), vIs (.bool true), vIs (vi v), vIs (vi cv), vIs (lkV s f (some false)), vIs (.slice (some ⟨ta, tf, none⟩) ts.length c), vIs (vi r), vIs (vi r1), vIs (.pointer (some ⟨ta, tf + r1, none⟩)), vIs (.slice (some ⟨p1, o1, none⟩) s.cs.length X1.c), vIs (vi k), vIs (vi k1), vIs (.pointer (some ⟨p1, o1 + k1, none⟩)), vIs (.slice Y1.a Y1.l.length Y1.c), vIs (vi b), vIs (vi b1), vIs (vi (cv + b1)), vIs (.bool true), vIs (.bool true), vIs (.bool true), vIs (.bool true), vU, vU, vU, vU, vU, vU, vU, vU, vU, vU, vU, vU, vU, vU, vU, vU, vU, vU, vU, vU, vU, vU, vU, vU, vIs (.bool true), vIs (.bool true), vU, vU, vU, vU, vU, vU, vU, vU, vU, vU, vU, vU] (by repeat' first | refine And.intro ?_ ?_ | exact trivial | exact rfl | (intro v W h; obtain rfl : v = _ := h; first | rfl | (simp; done) | (simp [undef]; done))) (by repeat' first | refine And.intro ?_ ?_ | exact trivial | exact (fun h => Bool.noConfusion (show false = true from h)) | exact (fun _ _ => rfl)) (fun h k => newer_trans h k) (pickD_stable _ (by repeat' first | refine And.intro ?_ ?_ | exact trivial | exact vIs_st)) (Below.refl _ w6).drew (Below.refl _ _) ?_ ?_)
       ·refine ⟨.inr ?_, .inr ?_, .inr ?_, .inl rfl, .inl rfl, .inl rfl, .inr ?_, .inr ?_, .inr ?_, .inr ?_, .inr ?_, .inr ?_, .inr ?_, .inr ?_, .inr ?_, .inr ?_, .inr ?_, .inr ?_, .inr ?_, .inr ?_, .inr ?_, .inr ?_, .inr ?_, .inr ?_, .inr ?_, .inr ?_, .inr ?_, .inr ?_, .inr ?_, .inr ?_, .inr ?_, .inr ?_, .inr ?_, .inr ?_, .inl rfl, .inl rfl, .inl rfl, .inl rfl, .inl rfl, .inl rfl, .inl rfl, .inl rfl, .inl rfl, .inl rfl, .inl rfl, .inl rfl, .inl rfl, .inl rfl, .inl rfl, .inl rfl, .inl rfl, .inl rfl, .inl rfl, .inl rfl, .inl rfl, .inl rfl, .inl rfl, .inl rfl, .inr ?_, .inr ?_, .inl rfl, .inl rfl, .inl rfl, .inl rfl, .inl rfl, .inl rfl, .inl rfl, .inl rfl, .inl rfl, .inl rfl, .inl rfl, .inl rfl, trivial⟩
        ·exact fun a W hG _ hO _ => kM 9 rfl (hO.slot 9 (by kernel_rfl)) rfl hG
        ·intro a W hG hR hO hp; have h56 : slotOf a 56 = vi r := hp.1; refine kY (v := .bool false) hG rfl ?_; simp [slotOf] at h56; simp [execOp, go_sem, h56, e0]
        ·exact fun a W hG _ _ hp => kM 57 rfl hp.1 rfl hG
        ·intro a W hG hR hO hp; have h58 : slotOf a 58 = .bool false := hp.1; have h61 : slotOf a 61 = undef := hp.2.1; refine kY (v := .bool false) hG rfl ?_; simp [slotOf] at h58 h61; simp [execOp, go_sem, h58, h61]
        ·exact fun a W hG _ _ hp => kM 62 rfl hp.1 rfl hG
        ·exact fun a W hG _ hO _ => kM 9 rfl (hO.slot 9 (by kernel_rfl)) rfl hG
        ·intro a W hG hR hO hp; have h64 : slotOf a 64 = vi r := hp.1; refine kY (v := .bool true) hG rfl ?_; simp [slotOf] at h64; simp [execOp, go_sem, h64, e2]
        ·exact fun a W hG _ _ hp => kM 65 rfl hp.1 rfl hG
        ·exact fun a W hG _ hO _ => kM 10 rfl (hO.slot 10 (by kernel_rfl)) rfl hG
        ·intro a W hG hR hO hp; have h67 : slotOf a 67 = vi k := hp.1; refine kY (v := .bool true) hG rfl ?_; simp [slotOf] at h67; simp [execOp, go_sem, h67, qk]
        ·intro a W hG hR hO hp; have h66 : slotOf a 66 = .bool true := hp.1; have h68 : slotOf a 68 = .bool true := hp.2.1; refine kY (v := .bool true) hG rfl ?_; simp [slotOf] at h66 h68; simp [execOp, go_sem, h66, h68]
        ·exact fun a W hG _ _ hp => kM 69 rfl hp.1 rfl hG
        ·exact fun a W hG _ hO _ => kM 12 rfl (hO.slot 12 (by kernel_rfl)) rfl hG
        ·exact fun a W hG _ hO _ => kM 13 rfl (hO.slot 13 (by kernel_rfl)) rfl hG
        ·intro a W hG hR hO hp; have h7 := hO.slot 7 (by kernel_rfl); have c0 := keep_cell l0 hG; have c1 := keep_cell l1 hG; have c2 := keep_cell l2 hG; have c3 := keep_cell l3 hG; refine kY (v := lkV s f (some false)) hG rfl ?_; simp [slotOf] at h7; simp [execOp, go_sem, h7, c0, c1, c2, c3]
        ·exact fun a W hG _ hO _ => kM 2 rfl (hO.slot 2 (by kernel_rfl)) rfl hG
        ·exact fun a W hG _ hO _ => kM 9 rfl (hO.slot 9 (by kernel_rfl)) rfl hG
        ·intro a W hG hR hO hp; have h75 : slotOf a 75 = vi r := hp.1; refine kY (v := vi r1) hG rfl ?_; simp [slotOf] at h75; simp [execOp, go_sem, h75, hr1]
        ·intro a W hG hR hO hp; have h74 : slotOf a 74 = .slice (some ⟨ta, tf, none⟩) ts.length c := hp.1; have h76 : slotOf a 76 = vi r1 := hp.2.1; refine kY (v := .pointer (some ⟨ta, tf + r1, none⟩)) hG rfl ?_; simp [slotOf] at h74 h76; simp [execOp, go_sem, h74, h76, hr2]
        ·intro a W hG hR hO hp; have h77 : slotOf a 77 = .pointer (some ⟨ta, tf + r1, none⟩) := hp.1; have c0 := HC1.out W (newer_trans HJ4.out.nw hG); refine kY (v := .slice (some ⟨p1, o1, none⟩) s.cs.length X1.c) hG rfl ?_; simp [slotOf] at h77; simp [execOp, go_sem, h77, c0]
        ·exact fun a W hG _ hO _ => kM 10 rfl (hO.slot 10 (by kernel_rfl)) rfl hG
        ·intro a W hG hR hO hp; have h79 : slotOf a 79 = vi k := hp.1; refine kY (v := vi k1) hG rfl ?_; simp [slotOf] at h79; simp [execOp, go_sem, h79, hk1]
        ·intro a W hG hR hO hp; have h78 : slotOf a 78 = .slice (some ⟨p1, o1, none⟩) s.cs.length X1.c := hp.1; have h80 : slotOf a 80 = vi k1 := hp.2.1; refine kY (v := .pointer (some ⟨p1, o1 + k1, none⟩)) hG rfl ?_; simp [slotOf] at h78 h80; simp [execOp, go_sem, h78, h80, hk2]
        ·intro a W hG hR hO hp; have h81 : slotOf a 81 = .pointer (some ⟨p1, o1 + k1, none⟩) := hp.1; have c0 := HC2.out W (newer_trans HJ4.out.nw hG); refine kY (v := .slice Y1.a Y1.l.length Y1.c) hG rfl ?_; simp [slotOf] at h81; simp [execOp, go_sem, h81, c0]
        ·exact fun a W hG _ hO _ => kM 11 rfl (hO.slot 11 (by kernel_rfl)) rfl hG
        ·intro a W hG hR hO hp
         have h73 : slotOf a 73 = lkV s f (some false) := hp.1
         have h82 : slotOf a 82 = .slice Y1.a Y1.l.length Y1.c := hp.2.1
         have h83 : slotOf a 83 = vi b := hp.2.2.1
         refine wp_enters (f := 82) (args := #[lkV s f (some false), .slice Y1.a Y1.l.length Y1.c, vi b]) ?_ ((HB1.out W (newer_trans HJ4.out.nw hG)).mono ?_)
         ·simp [slotOf] at h73 h82 h83
          simp [go_sem, h73, h82, h83]
         ·rintro e w' ⟨rfl, hb⟩
          exact ⟨_, rfl, _, rfl, rfl, hb, below_next hG hb⟩
        ·intro a W hG hR hO hp; have h72 : slotOf a 72 = vi cv := hp.1; have h84 : slotOf a 84 = vi b1 := hp.2.1; refine kY (v := vi (cv + b1)) hG rfl ?_; simp [slotOf] at h72 h84; simp [execOp, go_sem, h72, h84, hw1]
        ·intro a W hG hR hO hp; have h71 : slotOf a 71 = vi v := hp.1; have h85 : slotOf a 85 = vi (cv + b1) := hp.2.1; refine kY (v := .bool true) hG rfl ?_; simp [slotOf] at h71 h85; simp [execOp, go_sem, h71, h85, q2]
        ·intro a W hG hR hO hp; have h70 : slotOf a 70 = .bool true := hp.1; have h86 : slotOf a 86 = .bool true := hp.2.1; refine kY (v := .bool true) hG rfl ?_; simp [slotOf] at h70 h86; simp [execOp, go_sem, h70, h86]
        ·intro a W hG hR hO hp; have h63 : slotOf a 63 = .bool false := hp.1; have h87 : slotOf a 87 = .bool true := hp.2.1; refine kY (v := .bool true) hG rfl ?_; simp [slotOf] at h63 h87; simp [execOp, go_sem, h63, h87]
        ·exact fun a W hG _ _ hp => kM 88 rfl hp.1 rfl hG
        ·intro a W hG hR hO hp; have h89 : slotOf a 89 = .bool true := hp.1; have h113 : slotOf a 113 = undef := hp.2.1; refine kY (v := .bool true) hG rfl ?_; simp [slotOf] at h89 h113; simp [execOp, go_sem, h89, h113]
        ·exact fun a W hG _ _ hp => kM 114 rfl hp.1 rfl hG
       ·intro wz hG hR
        rintro _ rfl _ rfl _ rfl _ rfl _ rfl _ rfl _ rfl _ rfl _ rfl _ rfl _ rfl _ rfl _ rfl _ rfl _ rfl _ rfl _ rfl _ rfl _ rfl _ rfl _ rfl _ rfl _ rfl _ rfl _ rfl _ rfl _ rfl _ rfl _ rfl _ rfl _ rfl _ rfl _ rfl _ rfl _ rfl _ rfl _ rfl _ rfl _ rfl _ rfl _ rfl _ rfl _ rfl _ rfl _ rfl _ rfl _ rfl _ rfl _ rfl _ rfl _ rfl _ rfl _ rfl _ rfl _ rfl _ rfl _ rfl _ rfl _ rfl _ rfl _ rfl _ rfl _ rfl _ rfl _ rfl _ rfl _ rfl _ rfl _ rfl _ rfl _ rfl _ rfl
        change wpList _ _ _ _ _ _
        simp only [Act.put, List.setIfInBounds_toArray, List.set_cons_zero, List.set_cons_succ]
        have HN := Lib.hid (HJ4.out.next hG)
        clear hG hR HJ4 x1 l0 l1 l2 l3 e0 e2 qk
        go_wp2_with fail
        go_ret
        exact ⟨by rw [HE.out] <;> rfl, HN.out.nw⟩
      case neg =>
       by_cases ql : (r : Int) = s.least - 1
       case pos =>
        have e1 : ((r : Int) == s.least - 1) = true := by have := HN1.out; rw [beq_iff_eq]; omega
        by_cases q3 : cv + b2 < v
        case pos =>
         have HE : Hid (R = false) := Lib.hid (HFAIL.out (by rw [HCE.out]; have := HN1.out; omega))
         clear HFAIL HON HCE
         obtain ⟨hbd1, X1, Y1, p1, o1, c1, c2, HB1⟩ := HP1.out (by omega) (by omega)
         have HB1 := Lib.hid HB1
         have hbd1 : -1000000000000000 <= b1 /\ b1 <= 1000000000000000 := hbd1
         have hw1 : IntKind.i64.wrap (cv + b1) = cv + b1 := IntWalk.i64_in _ (by omega)
         obtain ⟨hbd2, Y2, c3, HB2⟩ := HP2.out (by omega)
         have HB2 := Lib.hid HB2
         have hbd2 : -1000000000000000 <= b2 /\ b2 <= 1000000000000000 := hbd2
         have hw2 : IntKind.i64.wrap (cv + b2) = cv + b2 := IntWalk.i64_in _ (by omega)
         have hr3 : (r : Int) < ts.length := by omega
         obtain ⟨r1, hr⟩ : ∃ r1, r1 = r - 1 := ⟨_, rfl⟩
         have hr1 : IntKind.i64.wrap ((r : Int) - 1) = r1 := by rw [IntWalk.i64_in _ (by omega)]; omega
         have hr2 : (r1 : Int) < ts.length := by omega
         rw [<- hr] at c1
         obtain ⟨k1, hk⟩ : ∃ k1, k1 = k - 1 := ⟨_, rfl⟩
         have hk1 : IntKind.i64.wrap ((k : Int) - 1) = k1 := by rw [IntWalk.i64_in _ (by omega)]; omega
         have hk2 : (k1 : Int) < s.cs.length := by omega
         rw [<- hk] at c2
         have HC1 := Lib.hid c1
         have HC2 := Lib.hid c2
         clear c1 c2
         rw [<- hk] at c3
         have HC3 := Lib.hid c3
         clear c3
         clear HP1 HP2 q0 ql
         refine wp_words (by kernel_rfl) (region_told_u 72 (by kernel_rfl) (by kernel_rfl) [false, false, false, true, true, true, false, false, false, false, false, false, false, false, false, false, false, false, false, false, false, false, false, false, false, false, false, false, false, false, false, false, false, false, false, false, false, false, false, false, false, false, false, false, false, false, false, false, false, false, false, false, false, false, false, false, false, false, false, false, true, true, true, true, true, true, true, true, true, true, true, true] (fun W => Below w6.heap.size w6 W) newer [vIs (vi r), vIs (.bool false), vIs (.bool false), vU, vU, vU, vIs (.bool false), vIs (.bool false), vIs (vi r), vIs (.bool true), vIs (.bool true), vIs (vi k), vIs (.bool true), vIs (.bool true), vIs (.bool true), vIs (vi v), vIs (vi cv), vIs (lkV s f (some false)), vIs (.slice (some ⟨ta, tf, none⟩) ts.length c), vIs (vi r), vIs (vi r1), vIs (.pointer (some ⟨ta, tf + r1, none⟩)), vIs (.slice (some ⟨p1, o1, none⟩) s.cs.length X1.c), vIs (vi k), vIs (vi k1), vIs (.pointer (some ⟨p1, o1 + k1, none⟩)), vIs (.slice Y1.a Y1.l.length Y1.c), vIs (vi b), vIs (vi b1), vIs (vi (cv + b1)), vIs (.bool false), vIs (.bool false), vIs (.bool false), vIs (.bool false), vIs (vi r), vIs (vi (s.least - 1)), vIs (.bool true), vIs (.bool true), vIs (vi k), vIs (.bool true), vIs (.bool true), vIs (.bool true), vIs (vi v), vIs (vi cv), vIs (lkV s f (some false)), vIs (.slice (some ⟨ta, tf, none⟩) ts.length c), vIs (vi r), vIs (.pointer (some ⟨ta, tf + r, none⟩)), vIs (.slice (some ⟨xa, xo, none⟩) s.cs.length x.c), vIs (vi k), vIs (vi k1), vIs (.pointer (some ⟨xa, xo + k1, none⟩)), vIs (.slice Y2.a Y2.l.length Y2.c), vIs (vi b), vIs (vi b2), vIs (vi (cv + b2)), vIs (.bool true), vIs (.bool true), vIs (.bool true), vIs (.bool true), vU, vU, vU, vU, vU, vU, vU, vU, vU, vU, vU, vU] (by repeat' first | refine And.intro ?_ ?_ | exact trivial | exact rfl | (intro v W h; obtain rfl : v = _ := h; first | rfl | (simp; done) | (simp [undef]; done))) (by repeat' first | refine And.intro ?_ ?_ | exact trivial | exact (fun h => Bool.noConfusion (show false = true from h)) | exact (fun _ _ => rfl)) (fun h k => newer_trans h k) (pickD_stable _ (by repeat' first | refine And.intro ?_ ?_ | exact trivial | exact vIs_st)) (Below.refl _ w6).drew (Below.refl _ _) ?_ ?_)
         ·refine ⟨.inr ?_, .inr ?_, .inr ?_, .inl rfl, .inl rfl, .inl rfl, .inr ?_, .inr ?_, .inr ?_, .inr ?_, .inr ?_, .inr ?_, .inr ?_, .inr ?_, .inr ?_, .inr ?_, .inr ?_, .inr ?_, .inr ?_, .inr ?_, .inr ?_, .inr ?_, .inr ?_, .inr ?_, .inr ?_, .inr ?_, .inr ?_, .inr ?_, .inr ?_, .inr ?_, .inr ?_, .inr ?_, .inr ?_, .inr ?_, .inr ?_, .inr ?_, .inr ?_, .inr ?_, .inr ?_, .inr ?_, .inr ?_, .inr ?_, .inr ?_, .inr ?_, .inr ?_, .inr ?_, .inr ?_, .inr ?_, .inr ?_, .inr ?_, .inr ?_, .inr ?_, .inr ?_, .inr ?_, .inr ?_, .inr ?_, .inr ?_, .inr ?_, .inr ?_, .inr ?_, .inl rfl, .inl rfl, .inl rfl, .inl rfl, .inl rfl, .inl rfl, .inl rfl, .inl rfl, .inl rfl, .inl rfl, .inl rfl, .inl rfl, trivial⟩
          ·exact fun a W hG _ hO _ => kM 9 rfl (hO.slot 9 (by kernel_rfl)) rfl hG
          ·intro a W hG hR hO hp; have h56 : slotOf a 56 = vi r := hp.1; refine kY (v := .bool false) hG rfl ?_; simp [slotOf] at h56; simp [execOp, go_sem, h56, e0]
          ·exact fun a W hG _ _ hp => kM 57 rfl hp.1 rfl hG
          ·intro a W hG hR hO hp; have h58 : slotOf a 58 = .bool false := hp.1; have h61 : slotOf a 61 = undef := hp.2.1; refine kY (v := .bool false) hG rfl ?_; simp [slotOf] at h58 h61; simp [execOp, go_sem, h58, h61]
          ·exact fun a W hG _ _ hp => kM 62 rfl hp.1 rfl hG
          ·exact fun a W hG _ hO _ => kM 9 rfl (hO.slot 9 (by kernel_rfl)) rfl hG
          ·intro a W hG hR hO hp; have h64 : slotOf a 64 = vi r := hp.1; refine kY (v := .bool true) hG rfl ?_; simp [slotOf] at h64; simp [execOp, go_sem, h64, e2]
          ·exact fun a W hG _ _ hp => kM 65 rfl hp.1 rfl hG
          ·exact fun a W hG _ hO _ => kM 10 rfl (hO.slot 10 (by kernel_rfl)) rfl hG
          ·intro a W hG hR hO hp; have h67 : slotOf a 67 = vi k := hp.1; refine kY (v := .bool true) hG rfl ?_; simp [slotOf] at h67; simp [execOp, go_sem, h67, qk]
          ·intro a W hG hR hO hp; have h66 : slotOf a 66 = .bool true := hp.1; have h68 : slotOf a 68 = .bool true := hp.2.1; refine kY (v := .bool true) hG rfl ?_; simp [slotOf] at h66 h68; simp [execOp, go_sem, h66, h68]
          ·exact fun a W hG _ _ hp => kM 69 rfl hp.1 rfl hG
          ·exact fun a W hG _ hO _ => kM 12 rfl (hO.slot 12 (by kernel_rfl)) rfl hG
          ·exact fun a W hG _ hO _ => kM 13 rfl (hO.slot 13 (by kernel_rfl)) rfl hG
          ·intro a W hG hR hO hp; have h7 := hO.slot 7 (by kernel_rfl); have c0 := keep_cell l0 hG; have c1 := keep_cell l1 hG; have c2 := keep_cell l2 hG; have c3 := keep_cell l3 hG; refine kY (v := lkV s f (some false)) hG rfl ?_; simp [slotOf] at h7; simp [execOp, go_sem, h7, c0, c1, c2, c3]
          ·exact fun a W hG _ hO _ => kM 2 rfl (hO.slot 2 (by kernel_rfl)) rfl hG
          ·exact fun a W hG _ hO _ => kM 9 rfl (hO.slot 9 (by kernel_rfl)) rfl hG
          ·intro a W hG hR hO hp; have h75 : slotOf a 75 = vi r := hp.1; refine kY (v := vi r1) hG rfl ?_; simp [slotOf] at h75; simp [execOp, go_sem, h75, hr1]
          ·intro a W hG hR hO hp; have h74 : slotOf a 74 = .slice (some ⟨ta, tf, none⟩) ts.length c := hp.1; have h76 : slotOf a 76 = vi r1 := hp.2.1; refine kY (v := .pointer (some ⟨ta, tf + r1, none⟩)) hG rfl ?_; simp [slotOf] at h74 h76; simp [execOp, go_sem, h74, h76, hr2]
          ·intro a W hG hR hO hp; have h77 : slotOf a 77 = .pointer (some ⟨ta, tf + r1, none⟩) := hp.1; have c0 := HC1.out W (newer_trans HJ4.out.nw hG); refine kY (v := .slice (some ⟨p1, o1, none⟩) s.cs.length X1.c) hG rfl ?_; simp [slotOf] at h77; simp [execOp, go_sem, h77, c0]
          ·exact fun a W hG _ hO _ => kM 10 rfl (hO.slot 10 (by kernel_rfl)) rfl hG
          ·intro a W hG hR hO hp; have h79 : slotOf a 79 = vi k := hp.1; refine kY (v := vi k1) hG rfl ?_; simp [slotOf] at h79; simp [execOp, go_sem, h79, hk1]
          ·intro a W hG hR hO hp; have h78 : slotOf a 78 = .slice (some ⟨p1, o1, none⟩) s.cs.length X1.c := hp.1; have h80 : slotOf a 80 = vi k1 := hp.2.1; refine kY (v := .pointer (some ⟨p1, o1 + k1, none⟩)) hG rfl ?_; simp [slotOf] at h78 h80; simp [execOp, go_sem, h78, h80, hk2]
          ·intro a W hG hR hO hp; have h81 : slotOf a 81 = .pointer (some ⟨p1, o1 + k1, none⟩) := hp.1; have c0 := HC2.out W (newer_trans HJ4.out.nw hG); refine kY (v := .slice Y1.a Y1.l.length Y1.c) hG rfl ?_; simp [slotOf] at h81; simp [execOp, go_sem, h81, c0]
          ·exact fun a W hG _ hO _ => kM 11 rfl (hO.slot 11 (by kernel_rfl)) rfl hG
          ·intro a W hG hR hO hp
           have h73 : slotOf a 73 = lkV s f (some false) := hp.1
           have h82 : slotOf a 82 = .slice Y1.a Y1.l.length Y1.c := hp.2.1
           have h83 : slotOf a 83 = vi b := hp.2.2.1
           refine wp_enters (f := 82) (args := #[lkV s f (some false), .slice Y1.a Y1.l.length Y1.c, vi b]) ?_ ((HB1.out W (newer_trans HJ4.out.nw hG)).mono ?_)
           ·simp [slotOf] at h73 h82 h83
            simp [go_sem, h73, h82, h83]
           ·rintro e w' ⟨rfl, hb⟩
            exact ⟨_, rfl, _, rfl, rfl, hb, below_next hG hb⟩
          ·intro a W hG hR hO hp; have h72 : slotOf a 72 = vi cv := hp.1; have h84 : slotOf a 84 = vi b1 := hp.2.1; refine kY (v := vi (cv + b1)) hG rfl ?_; simp [slotOf] at h72 h84; simp [execOp, go_sem, h72, h84, hw1]
          ·intro a W hG hR hO hp; have h71 : slotOf a 71 = vi v := hp.1; have h85 : slotOf a 85 = vi (cv + b1) := hp.2.1; refine kY (v := .bool false) hG rfl ?_; simp [slotOf] at h71 h85; simp [execOp, go_sem, h71, h85, q2]
          ·intro a W hG hR hO hp; have h70 : slotOf a 70 = .bool true := hp.1; have h86 : slotOf a 86 = .bool false := hp.2.1; refine kY (v := .bool false) hG rfl ?_; simp [slotOf] at h70 h86; simp [execOp, go_sem, h70, h86]
          ·intro a W hG hR hO hp; have h63 : slotOf a 63 = .bool false := hp.1; have h87 : slotOf a 87 = .bool false := hp.2.1; refine kY (v := .bool false) hG rfl ?_; simp [slotOf] at h63 h87; simp [execOp, go_sem, h63, h87]
          ·exact fun a W hG _ _ hp => kM 88 rfl hp.1 rfl hG
          ·exact fun a W hG _ hO _ => kM 9 rfl (hO.slot 9 (by kernel_rfl)) rfl hG
          ·exact fun a W hG _ hO _ => kM 8 rfl (hO.slot 8 (by kernel_rfl)) rfl hG
          ·intro a W hG hR hO hp; have h90 : slotOf a 90 = vi r := hp.1; have h91 : slotOf a 91 = vi (s.least - 1) := hp.2.1; refine kY (v := .bool true) hG rfl ?_; simp [slotOf] at h90 h91; simp [execOp, go_sem, h90, h91, e1]
          ·exact fun a W hG _ _ hp => kM 92 rfl hp.1 rfl hG
          ·exact fun a W hG _ hO _ => kM 10 rfl (hO.slot 10 (by kernel_rfl)) rfl hG
          ·intro a W hG hR hO hp; have h94 : slotOf a 94 = vi k := hp.1; refine kY (v := .bool true) hG rfl ?_; simp [slotOf] at h94; simp [execOp, go_sem, h94, qk]
          ·intro a W hG hR hO hp; have h93 : slotOf a 93 = .bool true := hp.1; have h95 : slotOf a 95 = .bool true := hp.2.1; refine kY (v := .bool true) hG rfl ?_; simp [slotOf] at h93 h95; simp [execOp, go_sem, h93, h95]
          ·exact fun a W hG _ _ hp => kM 96 rfl hp.1 rfl hG
          ·exact fun a W hG _ hO _ => kM 12 rfl (hO.slot 12 (by kernel_rfl)) rfl hG
          ·exact fun a W hG _ hO _ => kM 13 rfl (hO.slot 13 (by kernel_rfl)) rfl hG
          ·intro a W hG hR hO hp; have h7 := hO.slot 7 (by kernel_rfl); have c0 := keep_cell l0 hG; have c1 := keep_cell l1 hG; have c2 := keep_cell l2 hG; have c3 := keep_cell l3 hG; refine kY (v := lkV s f (some false)) hG rfl ?_; simp [slotOf] at h7; simp [execOp, go_sem, h7, c0, c1, c2, c3]
          ·exact fun a W hG _ hO _ => kM 2 rfl (hO.slot 2 (by kernel_rfl)) rfl hG
          ·exact fun a W hG _ hO _ => kM 9 rfl (hO.slot 9 (by kernel_rfl)) rfl hG
          ·intro a W hG hR hO hp; have h101 : slotOf a 101 = .slice (some ⟨ta, tf, none⟩) ts.length c := hp.1; have h102 : slotOf a 102 = vi r := hp.2.1; refine kY (v := .pointer (some ⟨ta, tf + r, none⟩)) hG rfl ?_; simp [slotOf] at h101 h102; simp [execOp, go_sem, h101, h102, hr3]
          ·intro a W hG hR hO hp; have h103 : slotOf a 103 = .pointer (some ⟨ta, tf + r, none⟩) := hp.1; have c0 := HXC.out W (newer_trans HJ4.out.nw hG); refine kY (v := .slice (some ⟨xa, xo, none⟩) s.cs.length x.c) hG rfl ?_; simp [slotOf] at h103; simp [execOp, go_sem, h103, c0]
          ·exact fun a W hG _ hO _ => kM 10 rfl (hO.slot 10 (by kernel_rfl)) rfl hG
          ·intro a W hG hR hO hp; have h105 : slotOf a 105 = vi k := hp.1; refine kY (v := vi k1) hG rfl ?_; simp [slotOf] at h105; simp [execOp, go_sem, h105, hk1]
          ·intro a W hG hR hO hp; have h104 : slotOf a 104 = .slice (some ⟨xa, xo, none⟩) s.cs.length x.c := hp.1; have h106 : slotOf a 106 = vi k1 := hp.2.1; refine kY (v := .pointer (some ⟨xa, xo + k1, none⟩)) hG rfl ?_; simp [slotOf] at h104 h106; simp [execOp, go_sem, h104, h106, hk2]
          ·intro a W hG hR hO hp; have h107 : slotOf a 107 = .pointer (some ⟨xa, xo + k1, none⟩) := hp.1; have c0 := HC3.out W (newer_trans HJ4.out.nw hG); refine kY (v := .slice Y2.a Y2.l.length Y2.c) hG rfl ?_; simp [slotOf] at h107; simp [execOp, go_sem, h107, c0]
          ·exact fun a W hG _ hO _ => kM 11 rfl (hO.slot 11 (by kernel_rfl)) rfl hG
          ·intro a W hG hR hO hp
           have h100 : slotOf a 100 = lkV s f (some false) := hp.1
           have h108 : slotOf a 108 = .slice Y2.a Y2.l.length Y2.c := hp.2.1
           have h109 : slotOf a 109 = vi b := hp.2.2.1
           refine wp_enters (f := 82) (args := #[lkV s f (some false), .slice Y2.a Y2.l.length Y2.c, vi b]) ?_ ((HB2.out W (newer_trans HJ4.out.nw hG)).mono ?_)
           ·simp [slotOf] at h100 h108 h109
            simp [go_sem, h100, h108, h109]
           ·rintro e w' ⟨rfl, hb⟩
            exact ⟨_, rfl, _, rfl, rfl, hb, below_next hG hb⟩
          ·intro a W hG hR hO hp; have h99 : slotOf a 99 = vi cv := hp.1; have h110 : slotOf a 110 = vi b2 := hp.2.1; refine kY (v := vi (cv + b2)) hG rfl ?_; simp [slotOf] at h99 h110; simp [execOp, go_sem, h99, h110, hw2]
          ·intro a W hG hR hO hp; have h98 : slotOf a 98 = vi v := hp.1; have h111 : slotOf a 111 = vi (cv + b2) := hp.2.1; refine kY (v := .bool true) hG rfl ?_; simp [slotOf] at h98 h111; simp [execOp, go_sem, h98, h111, q3]
          ·intro a W hG hR hO hp; have h97 : slotOf a 97 = .bool true := hp.1; have h112 : slotOf a 112 = .bool true := hp.2.1; refine kY (v := .bool true) hG rfl ?_; simp [slotOf] at h97 h112; simp [execOp, go_sem, h97, h112]
          ·intro a W hG hR hO hp; have h89 : slotOf a 89 = .bool false := hp.1; have h113 : slotOf a 113 = .bool true := hp.2.1; refine kY (v := .bool true) hG rfl ?_; simp [slotOf] at h89 h113; simp [execOp, go_sem, h89, h113]
          ·exact fun a W hG _ _ hp => kM 114 rfl hp.1 rfl hG
         ·intro wz hG hR
          rintro _ rfl _ rfl _ rfl _ rfl _ rfl _ rfl _ rfl _ rfl _ rfl _ rfl _ rfl _ rfl _ rfl _ rfl _ rfl _ rfl _ rfl _ rfl _ rfl _ rfl _ rfl _ rfl _ rfl _ rfl _ rfl _ rfl _ rfl _ rfl _ rfl _ rfl _ rfl _ rfl _ rfl _ rfl _ rfl _ rfl _ rfl _ rfl _ rfl _ rfl _ rfl _ rfl _ rfl _ rfl _ rfl _ rfl _ rfl _ rfl _ rfl _ rfl _ rfl _ rfl _ rfl _ rfl _ rfl _ rfl _ rfl _ rfl _ rfl _ rfl _ rfl _ rfl _ rfl _ rfl _ rfl _ rfl _ rfl _ rfl _ rfl _ rfl _ rfl _ rfl
          change wpList _ _ _ _ _ _
          simp only [Act.put, List.setIfInBounds_toArray, List.set_cons_zero, List.set_cons_succ]
          have HN := Lib.hid (HJ4.out.next hG)
          clear hG hR HJ4 x1 l0 l1 l2 l3 e0 e2 qk e1
          go_wp2_with fail
          go_ret
          exact ⟨by rw [HE.out] <;> rfl, HN.out.nw⟩
        case neg =>
         by_cases q5 : s.least - 1 <= (k : Int)
         case pos =>
          have e4 : s.least - 1 <= (k : Int) := by have := HN1.out; omega
          by_cases q4 : v < 0
          case pos =>
           have HE : Hid (R = false) := Lib.hid (HFAIL.out (by rw [HCE.out]; have := HN1.out; omega))
           clear HFAIL HON HCE
           obtain ⟨hbd1, X1, Y1, p1, o1, c1, c2, HB1⟩ := HP1.out (by omega) (by omega)
           have HB1 := Lib.hid HB1
           have hbd1 : -1000000000000000 <= b1 /\ b1 <= 1000000000000000 := hbd1
           have hw1 : IntKind.i64.wrap (cv + b1) = cv + b1 := IntWalk.i64_in _ (by omega)
           obtain ⟨hbd2, Y2, c3, HB2⟩ := HP2.out (by omega)
           have HB2 := Lib.hid HB2
           have hbd2 : -1000000000000000 <= b2 /\ b2 <= 1000000000000000 := hbd2
           have hw2 : IntKind.i64.wrap (cv + b2) = cv + b2 := IntWalk.i64_in _ (by omega)
           have hr3 : (r : Int) < ts.length := by omega
           obtain ⟨r1, hr⟩ : ∃ r1, r1 = r - 1 := ⟨_, rfl⟩
           have hr1 : IntKind.i64.wrap ((r : Int) - 1) = r1 := by rw [IntWalk.i64_in _ (by omega)]; omega
           have hr2 : (r1 : Int) < ts.length := by omega
           rw [<- hr] at c1
           obtain ⟨k1, hk⟩ : ∃ k1, k1 = k - 1 := ⟨_, rfl⟩
           have hk1 : IntKind.i64.wrap ((k : Int) - 1) = k1 := by rw [IntWalk.i64_in _ (by omega)]; omega
           have hk2 : (k1 : Int) < s.cs.length := by omega
           rw [<- hk] at c2
           have HC1 := Lib.hid c1
           have HC2 := Lib.hid c2
           clear c1 c2
           rw [<- hk] at c3
           have HC3 := Lib.hid c3
           clear c3
           clear HP1 HP2 q0 ql
           refine wp_words (by kernel_rfl) (region_told_u 72 (by kernel_rfl) (by kernel_rfl) [false, false, false, true, true, true, false, false, false, false, false, false, false, false, false, false, false, false, false, false, false, false, false, false, false, false, false, false, false, false, false, false, false, false, false, false, false, false, false, false, false, false, false, false, false, false, false, false, false, false, false, false, false, false, false, false, false, false, false, false, false, false, false, false, false, false, false, false, false, false, false, false] (fun W => Below w6.heap.size w6 W) newer [vIs (vi r), vIs (.bool false), vIs (.bool false), vU, vU, vU, vIs (.bool false), vIs (.bool false), vIs (vi r), vIs (.bool true), vIs (.bool true), vIs (vi k), vIs (.bool true), vIs (.bool true), vIs (.bool true), vIs (vi v), vIs (vi cv), vIs (lkV s f (some false)), vIs (.slice (some ⟨ta, tf, none⟩) ts.length c), vIs (vi r), vIs (vi r1), vIs (.pointer (some ⟨ta, tf + r1, none⟩)), vIs (.slice (some ⟨p1, o1, none⟩) s.cs.length X1.c), vIs (vi k), vIs (vi k1), vIs (.pointer (some ⟨p1, o1 + k1, none⟩)), vIs (.slice Y1.a Y1.l.length Y1.c), vIs (vi b), vIs (vi b1), vIs (vi (cv + b1)), vIs (.bool false), vIs (.bool false), vIs (.bool false), vIs (.bool false), vIs (vi r), vIs (vi (s.least - 1)), vIs (.bool true), vIs (.bool true), vIs (vi k), vIs (.bool true), vIs (.bool true), vIs (.bool true), vIs (vi v), vIs (vi cv), vIs (lkV s f (some false)), vIs (.slice (some ⟨ta, tf, none⟩) ts.length c), vIs (vi r), vIs (.pointer (some ⟨ta, tf + r, none⟩)), vIs (.slice (some ⟨xa, xo, none⟩) s.cs.length x.c), vIs (vi k), vIs (vi k1), vIs (.pointer (some ⟨xa, xo + k1, none⟩)), vIs (.slice Y2.a Y2.l.length Y2.c), vIs (vi b), vIs (vi b2), vIs (vi (cv + b2)), vIs (.bool false), vIs (.bool false), vIs (.bool false), vIs (.bool false), vIs (vi r), vIs (vi (s.least - 1)), vIs (.bool true), vIs (.bool true), vIs (vi k), vIs (vi (s.least - 1)), vIs (.bool true), vIs (.bool true), vIs (.bool true), vIs (vi v), vIs (.bool true), vIs (.bool true)] (by repeat' first | refine And.intro ?_ ?_ | exact trivial | exact rfl | (intro v W h; obtain rfl : v = _ := h; first | rfl | (simp; done) | (simp [undef]; done))) (by repeat' first | refine And.intro ?_ ?_ | exact trivial | exact (fun h => Bool.noConfusion (show false = true from h)) | exact (fun _ _ => rfl)) (fun h k => newer_trans h k) (pickD_stable _ (by repeat' first | refine And.intro ?_ ?_ | exact trivial | exact vIs_st)) (Below.refl _ w6).drew (Below.refl _ _) ?_ ?_)
           ·refine ⟨.inr ?_, .inr ?_, .inr ?_, .inl rfl, .inl rfl, .inl rfl, .inr ?_, .inr ?_, .inr ?_, .inr ?_, .inr ?_, .inr ?_, .inr ?_, .inr ?_, .inr ?_, .inr ?_, .inr ?_, .inr ?_, .inr ?_, .inr ?_, .inr ?_, .inr ?_, .inr ?_, .inr ?_, .inr ?_, .inr ?_, .inr ?_, .inr ?_, .inr ?_, .inr ?_, .inr ?_, .inr ?_, .inr ?_, .inr ?_, .inr ?_, .inr ?_, .inr ?_, .inr ?_, .inr ?_, .inr ?_, .inr ?_, .inr ?_, .inr ?_, .inr ?_, .inr ?_, .inr ?_, .inr ?_, .inr ?_, .inr ?_, .inr ?_, .inr ?_, .inr ?_, .inr ?_, .inr ?_, .inr ?_, .inr ?_, .inr ?_, .inr ?_, .inr ?_, .inr ?_, .inr ?_, .inr ?_, .inr ?_, .inr ?_, .inr ?_, .inr ?_, .inr ?_, .inr ?_, .inr ?_, .inr ?_, .inr ?_, .inr ?_, trivial⟩
            ·exact fun a W hG _ hO _ => kM 9 rfl (hO.slot 9 (by kernel_rfl)) rfl hG
            ·intro a W hG hR hO hp; have h56 : slotOf a 56 = vi r := hp.1; refine kY (v := .bool false) hG rfl ?_; simp [slotOf] at h56; simp [execOp, go_sem, h56, e0]
            ·exact fun a W hG _ _ hp => kM 57 rfl hp.1 rfl hG
            ·intro a W hG hR hO hp; have h58 : slotOf a 58 = .bool false := hp.1; have h61 : slotOf a 61 = undef := hp.2.1; refine kY (v := .bool false) hG rfl ?_; simp [slotOf] at h58 h61; simp [execOp, go_sem, h58, h61]
            ·exact fun a W hG _ _ hp => kM 62 rfl hp.1 rfl hG
            ·exact fun a W hG _ hO _ => kM 9 rfl (hO.slot 9 (by kernel_rfl)) rfl hG
            ·intro a W hG hR hO hp; have h64 : slotOf a 64 = vi r := hp.1; refine kY (v := .bool true) hG rfl ?_; simp [slotOf] at h64; simp [execOp, go_sem, h64, e2]
            ·exact fun a W hG _ _ hp => kM 65 rfl hp.1 rfl hG
            ·exact fun a W hG _ hO _ => kM 10 rfl (hO.slot 10 (by kernel_rfl)) rfl hG
            ·intro a W hG hR hO hp; have h67 : slotOf a 67 = vi k := hp.1; refine kY (v := .bool true) hG rfl ?_; simp [slotOf] at h67; simp [execOp, go_sem, h67, qk]
            ·intro a W hG hR hO hp; have h66 : slotOf a 66 = .bool true := hp.1; have h68 : slotOf a 68 = .bool true := hp.2.1; refine kY (v := .bool true) hG rfl ?_; simp [slotOf] at h66 h68; simp [execOp, go_sem, h66, h68]
            ·exact fun a W hG _ _ hp => kM 69 rfl hp.1 rfl hG
            ·exact fun a W hG _ hO _ => kM 12 rfl (hO.slot 12 (by kernel_rfl)) rfl hG
            ·exact fun a W hG _ hO _ => kM 13 rfl (hO.slot 13 (by kernel_rfl)) rfl hG
            ·intro a W hG hR hO hp; have h7 := hO.slot 7 (by kernel_rfl); have c0 := keep_cell l0 hG; have c1 := keep_cell l1 hG; have c2 := keep_cell l2 hG; have c3 := keep_cell l3 hG; refine kY (v := lkV s f (some false)) hG rfl ?_; simp [slotOf] at h7; simp [execOp, go_sem, h7, c0, c1, c2, c3]
            ·exact fun a W hG _ hO _ => kM 2 rfl (hO.slot 2 (by kernel_rfl)) rfl hG
            ·exact fun a W hG _ hO _ => kM 9 rfl (hO.slot 9 (by kernel_rfl)) rfl hG
            ·intro a W hG hR hO hp; have h75 : slotOf a 75 = vi r := hp.1; refine kY (v := vi r1) hG rfl ?_; simp [slotOf] at h75; simp [execOp, go_sem, h75, hr1]
            ·intro a W hG hR hO hp; have h74 : slotOf a 74 = .slice (some ⟨ta, tf, none⟩) ts.length c := hp.1; have h76 : slotOf a 76 = vi r1 := hp.2.1; refine kY (v := .pointer (some ⟨ta, tf + r1, none⟩)) hG rfl ?_; simp [slotOf] at h74 h76; simp [execOp, go_sem, h74, h76, hr2]
            ·intro a W hG hR hO hp; have h77 : slotOf a 77 = .pointer (some ⟨ta, tf + r1, none⟩) := hp.1; have c0 := HC1.out W (newer_trans HJ4.out.nw hG); refine kY (v := .slice (some ⟨p1, o1, none⟩) s.cs.length X1.c) hG rfl ?_; simp [slotOf] at h77; simp [execOp, go_sem, h77, c0]
            ·exact fun a W hG _ hO _ => kM 10 rfl (hO.slot 10 (by kernel_rfl)) rfl hG
            ·intro a W hG hR hO hp; have h79 : slotOf a 79 = vi k := hp.1; refine kY (v := vi k1) hG rfl ?_; simp [slotOf] at h79; simp [execOp, go_sem, h79, hk1]
            ·intro a W hG hR hO hp; have h78 : slotOf a 78 = .slice (some ⟨p1, o1, none⟩) s.cs.length X1.c := hp.1; have h80 : slotOf a 80 = vi k1 := hp.2.1; refine kY (v := .pointer (some ⟨p1, o1 + k1, none⟩)) hG rfl ?_; simp [slotOf] at h78 h80; simp [execOp, go_sem, h78, h80, hk2]
            ·intro a W hG hR hO hp; have h81 : slotOf a 81 = .pointer (some ⟨p1, o1 + k1, none⟩) := hp.1; have c0 := HC2.out W (newer_trans HJ4.out.nw hG); refine kY (v := .slice Y1.a Y1.l.length Y1.c) hG rfl ?_; simp [slotOf] at h81; simp [execOp, go_sem, h81, c0]
            ·exact fun a W hG _ hO _ => kM 11 rfl (hO.slot 11 (by kernel_rfl)) rfl hG
            ·intro a W hG hR hO hp
             have h73 : slotOf a 73 = lkV s f (some false) := hp.1
             have h82 : slotOf a 82 = .slice Y1.a Y1.l.length Y1.c := hp.2.1
             have h83 : slotOf a 83 = vi b := hp.2.2.1
             refine wp_enters (f := 82) (args := #[lkV s f (some false), .slice Y1.a Y1.l.length Y1.c, vi b]) ?_ ((HB1.out W (newer_trans HJ4.out.nw hG)).mono ?_)
             ·simp [slotOf] at h73 h82 h83
              simp [go_sem, h73, h82, h83]
             ·rintro e w' ⟨rfl, hb⟩
              exact ⟨_, rfl, _, rfl, rfl, hb, below_next hG hb⟩
            ·intro a W hG hR hO hp; have h72 : slotOf a 72 = vi cv := hp.1; have h84 : slotOf a 84 = vi b1 := hp.2.1; refine kY (v := vi (cv + b1)) hG rfl ?_; simp [slotOf] at h72 h84; simp [execOp, go_sem, h72, h84, hw1]
            ·intro a W hG hR hO hp; have h71 : slotOf a 71 = vi v := hp.1; have h85 : slotOf a 85 = vi (cv + b1) := hp.2.1; refine kY (v := .bool false) hG rfl ?_; simp [slotOf] at h71 h85; simp [execOp, go_sem, h71, h85, q2]
            ·intro a W hG hR hO hp; have h70 : slotOf a 70 = .bool true := hp.1; have h86 : slotOf a 86 = .bool false := hp.2.1; refine kY (v := .bool false) hG rfl ?_; simp [slotOf] at h70 h86; simp [execOp, go_sem, h70, h86]
            ·intro a W hG hR hO hp; have h63 : slotOf a 63 = .bool false := hp.1; have h87 : slotOf a 87 = .bool false := hp.2.1; refine kY (v := .bool false) hG rfl ?_; simp [slotOf] at h63 h87; simp [execOp, go_sem, h63, h87]
            ·exact fun a W hG _ _ hp => kM 88 rfl hp.1 rfl hG
            ·exact fun a W hG _ hO _ => kM 9 rfl (hO.slot 9 (by kernel_rfl)) rfl hG
            ·exact fun a W hG _ hO _ => kM 8 rfl (hO.slot 8 (by kernel_rfl)) rfl hG
            ·intro a W hG hR hO hp; have h90 : slotOf a 90 = vi r := hp.1; have h91 : slotOf a 91 = vi (s.least - 1) := hp.2.1; refine kY (v := .bool true) hG rfl ?_; simp [slotOf] at h90 h91; simp [execOp, go_sem, h90, h91, e1]
            ·exact fun a W hG _ _ hp => kM 92 rfl hp.1 rfl hG
            ·exact fun a W hG _ hO _ => kM 10 rfl (hO.slot 10 (by kernel_rfl)) rfl hG
            ·intro a W hG hR hO hp; have h94 : slotOf a 94 = vi k := hp.1; refine kY (v := .bool true) hG rfl ?_; simp [slotOf] at h94; simp [execOp, go_sem, h94, qk]
            ·intro a W hG hR hO hp; have h93 : slotOf a 93 = .bool true := hp.1; have h95 : slotOf a 95 = .bool true := hp.2.1; refine kY (v := .bool true) hG rfl ?_; simp [slotOf] at h93 h95; simp [execOp, go_sem, h93, h95]
            ·exact fun a W hG _ _ hp => kM 96 rfl hp.1 rfl hG
            ·exact fun a W hG _ hO _ => kM 12 rfl (hO.slot 12 (by kernel_rfl)) rfl hG
            ·exact fun a W hG _ hO _ => kM 13 rfl (hO.slot 13 (by kernel_rfl)) rfl hG
            ·intro a W hG hR hO hp; have h7 := hO.slot 7 (by kernel_rfl); have c0 := keep_cell l0 hG; have c1 := keep_cell l1 hG; have c2 := keep_cell l2 hG; have c3 := keep_cell l3 hG; refine kY (v := lkV s f (some false)) hG rfl ?_; simp [slotOf] at h7; simp [execOp, go_sem, h7, c0, c1, c2, c3]
            ·exact fun a W hG _ hO _ => kM 2 rfl (hO.slot 2 (by kernel_rfl)) rfl hG
            ·exact fun a W hG _ hO _ => kM 9 rfl (hO.slot 9 (by kernel_rfl)) rfl hG
            ·intro a W hG hR hO hp; have h101 : slotOf a 101 = .slice (some ⟨ta, tf, none⟩) ts.length c := hp.1; have h102 : slotOf a 102 = vi r := hp.2.1; refine kY (v := .pointer (some ⟨ta, tf + r, none⟩)) hG rfl ?_; simp [slotOf] at h101 h102; simp [execOp, go_sem, h101, h102, hr3]
            ·intro a W hG hR hO hp; have h103 : slotOf a 103 = .pointer (some ⟨ta, tf + r, none⟩) := hp.1; have c0 := HXC.out W (newer_trans HJ4.out.nw hG); refine kY (v := .slice (some ⟨xa, xo, none⟩) s.cs.length x.c) hG rfl ?_; simp [slotOf] at h103; simp [execOp, go_sem, h103, c0]
            ·exact fun a W hG _ hO _ => kM 10 rfl (hO.slot 10 (by kernel_rfl)) rfl hG
            ·intro a W hG hR hO hp; have h105 : slotOf a 105 = vi k := hp.1; refine kY (v := vi k1) hG rfl ?_; simp [slotOf] at h105; simp [execOp, go_sem, h105, hk1]
            ·intro a W hG hR hO hp; have h104 : slotOf a 104 = .slice (some ⟨xa, xo, none⟩) s.cs.length x.c := hp.1; have h106 : slotOf a 106 = vi k1 := hp.2.1; refine kY (v := .pointer (some ⟨xa, xo + k1, none⟩)) hG rfl ?_; simp [slotOf] at h104 h106; simp [execOp, go_sem, h104, h106, hk2]
            ·intro a W hG hR hO hp; have h107 : slotOf a 107 = .pointer (some ⟨xa, xo + k1, none⟩) := hp.1; have c0 := HC3.out W (newer_trans HJ4.out.nw hG); refine kY (v := .slice Y2.a Y2.l.length Y2.c) hG rfl ?_; simp [slotOf] at h107; simp [execOp, go_sem, h107, c0]
            ·exact fun a W hG _ hO _ => kM 11 rfl (hO.slot 11 (by kernel_rfl)) rfl hG
            ·intro a W hG hR hO hp
             have h100 : slotOf a 100 = lkV s f (some false) := hp.1
             have h108 : slotOf a 108 = .slice Y2.a Y2.l.length Y2.c := hp.2.1
             have h109 : slotOf a 109 = vi b := hp.2.2.1
             refine wp_enters (f := 82) (args := #[lkV s f (some false), .slice Y2.a Y2.l.length Y2.c, vi b]) ?_ ((HB2.out W (newer_trans HJ4.out.nw hG)).mono ?_)
             ·simp [slotOf] at h100 h108 h109
              simp [go_sem, h100, h108, h109]
             ·rintro e w' ⟨rfl, hb⟩
              exact ⟨_, rfl, _, rfl, rfl, hb, below_next hG hb⟩
            ·intro a W hG hR hO hp; have h99 : slotOf a 99 = vi cv := hp.1; have h110 : slotOf a 110 = vi b2 := hp.2.1; refine kY (v := vi (cv + b2)) hG rfl ?_; simp [slotOf] at h99 h110; simp [execOp, go_sem, h99, h110, hw2]
            ·intro a W hG hR hO hp; have h98 : slotOf a 98 = vi v := hp.1; have h111 : slotOf a 111 = vi (cv + b2) := hp.2.1; refine kY (v := .bool false) hG rfl ?_; simp [slotOf] at h98 h111; simp [execOp, go_sem, h98, h111, q3]
            ·intro a W hG hR hO hp; have h97 : slotOf a 97 = .bool true := hp.1; have h112 : slotOf a 112 = .bool false := hp.2.1; refine kY (v := .bool false) hG rfl ?_; simp [slotOf] at h97 h112; simp [execOp, go_sem, h97, h112]
            ·intro a W hG hR hO hp; have h89 : slotOf a 89 = .bool false := hp.1; have h113 : slotOf a 113 = .bool false := hp.2.1; refine kY (v := .bool false) hG rfl ?_; simp [slotOf] at h89 h113; simp [execOp, go_sem, h89, h113]
            ·exact fun a W hG _ _ hp => kM 114 rfl hp.1 rfl hG
            ·exact fun a W hG _ hO _ => kM 9 rfl (hO.slot 9 (by kernel_rfl)) rfl hG
            ·exact fun a W hG _ hO _ => kM 8 rfl (hO.slot 8 (by kernel_rfl)) rfl hG
            ·intro a W hG hR hO hp; have h116 : slotOf a 116 = vi r := hp.1; have h117 : slotOf a 117 = vi (s.least - 1) := hp.2.1; refine kY (v := .bool true) hG rfl ?_; simp [slotOf] at h116 h117; simp [execOp, go_sem, h116, h117, e1]
            ·exact fun a W hG _ _ hp => kM 118 rfl hp.1 rfl hG
            ·exact fun a W hG _ hO _ => kM 10 rfl (hO.slot 10 (by kernel_rfl)) rfl hG
            ·exact fun a W hG _ hO _ => kM 8 rfl (hO.slot 8 (by kernel_rfl)) rfl hG
            ·intro a W hG hR hO hp; have h120 : slotOf a 120 = vi k := hp.1; have h121 : slotOf a 121 = vi (s.least - 1) := hp.2.1; refine kY (v := .bool true) hG rfl ?_; simp [slotOf] at h120 h121; simp [execOp, go_sem, h120, h121, e4]
            ·intro a W hG hR hO hp; have h119 : slotOf a 119 = .bool true := hp.1; have h122 : slotOf a 122 = .bool true := hp.2.1; refine kY (v := .bool true) hG rfl ?_; simp [slotOf] at h119 h122; simp [execOp, go_sem, h119, h122]
            ·exact fun a W hG _ _ hp => kM 123 rfl hp.1 rfl hG
            ·exact fun a W hG _ hO _ => kM 12 rfl (hO.slot 12 (by kernel_rfl)) rfl hG
            ·intro a W hG hR hO hp; have h125 : slotOf a 125 = vi v := hp.1; refine kY (v := .bool true) hG rfl ?_; simp [slotOf] at h125; simp [execOp, go_sem, h125, q4]
            ·intro a W hG hR hO hp; have h124 : slotOf a 124 = .bool true := hp.1; have h126 : slotOf a 126 = .bool true := hp.2.1; refine kY (v := .bool true) hG rfl ?_; simp [slotOf] at h124 h126; simp [execOp, go_sem, h124, h126]
           ·intro wz hG hR
            rintro _ rfl _ rfl _ rfl _ rfl _ rfl _ rfl _ rfl _ rfl _ rfl _ rfl _ rfl _ rfl _ rfl _ rfl _ rfl _ rfl _ rfl _ rfl _ rfl _ rfl _ rfl _ rfl _ rfl _ rfl _ rfl _ rfl _ rfl _ rfl _ rfl _ rfl _ rfl _ rfl _ rfl _ rfl _ rfl _ rfl _ rfl _ rfl _ rfl _ rfl _ rfl _ rfl _ rfl _ rfl _ rfl _ rfl _ rfl _ rfl _ rfl _ rfl _ rfl _ rfl _ rfl _ rfl _ rfl _ rfl _ rfl _ rfl _ rfl _ rfl _ rfl _ rfl _ rfl _ rfl _ rfl _ rfl _ rfl _ rfl _ rfl _ rfl _ rfl _ rfl
            change wpList _ _ _ _ _ _
            simp only [Act.put, List.setIfInBounds_toArray, List.set_cons_zero, List.set_cons_succ]
            have HN := Lib.hid (HJ4.out.next hG)
            clear hG hR HJ4 x1 l0 l1 l2 l3 e0 e2 qk e1 e4
            go_wp2_with fail
            go_ret
            exact ⟨by rw [HE.out] <;> rfl, HN.out.nw⟩
          case neg =>
           have HE := Lib.hid (HON.out (HCE.out.2 (by have := HN1.out; omega)))
           clear HFAIL HON HCE
           obtain ⟨hbd1, X1, Y1, p1, o1, c1, c2, HB1⟩ := HP1.out (by omega) (by omega)
           have HB1 := Lib.hid HB1
           have hbd1 : -1000000000000000 <= b1 /\ b1 <= 1000000000000000 := hbd1
           have hw1 : IntKind.i64.wrap (cv + b1) = cv + b1 := IntWalk.i64_in _ (by omega)
           obtain ⟨hbd2, Y2, c3, HB2⟩ := HP2.out (by omega)
           have HB2 := Lib.hid HB2
           have hbd2 : -1000000000000000 <= b2 /\ b2 <= 1000000000000000 := hbd2
           have hw2 : IntKind.i64.wrap (cv + b2) = cv + b2 := IntWalk.i64_in _ (by omega)
           have hr3 : (r : Int) < ts.length := by omega
           obtain ⟨r1, hr⟩ : ∃ r1, r1 = r - 1 := ⟨_, rfl⟩
           have hr1 : IntKind.i64.wrap ((r : Int) - 1) = r1 := by rw [IntWalk.i64_in _ (by omega)]; omega
           have hr2 : (r1 : Int) < ts.length := by omega
           rw [<- hr] at c1
           obtain ⟨k1, hk⟩ : ∃ k1, k1 = k - 1 := ⟨_, rfl⟩
           have hk1 : IntKind.i64.wrap ((k : Int) - 1) = k1 := by rw [IntWalk.i64_in _ (by omega)]; omega
           have hk2 : (k1 : Int) < s.cs.length := by omega
           rw [<- hk] at c2
           have HC1 := Lib.hid c1
           have HC2 := Lib.hid c2
           clear c1 c2
           rw [<- hk] at c3
           have HC3 := Lib.hid c3
           clear c3
           clear HP1 HP2 q0 ql
           refine wp_words (by kernel_rfl) (region_told_u 72 (by kernel_rfl) (by kernel_rfl) [false, false, false, true, true, true, false, false, false, false, false, false, false, false, false, false, false, false, false, false, false, false, false, false, false, false, false, false, false, false, false, false, false, false, false, false, false, false, false, false, false, false, false, false, false, false, false, false, false, false, false, false, false, false, false, false, false, false, false, false, false, false, false, false, false, false, false, false, false, false, false, false] (fun W => Below w6.heap.size w6 W) newer [vIs (vi r), vIs (.bool false), vIs (.bool false), vU, vU, vU, vIs (.bool false), vIs (.bool false), vIs (vi r), vIs (.bool true), vIs (.bool true), vIs (vi k), vIs (.bool true), vIs (.bool true), vIs (.bool true), vIs (vi v), vIs (vi cv), vIs (lkV s f (some false)), vIs (.slice (some ⟨ta, tf, none⟩) ts.length c), vIs (vi r), vIs (vi r1), vIs (.pointer (some ⟨ta, tf + r1, none⟩)), vIs (.slice (some ⟨p1, o1, none⟩) s.cs.length X1.c), vIs (vi k), vIs (vi k1), vIs (.pointer (some ⟨p1, o1 + k1, none⟩)), vIs (.slice Y1.a Y1.l.length Y1.c), vIs (vi b), vIs (vi b1), vIs (vi (cv + b1)), vIs (.bool false), vIs (.bool false), vIs (.bool false), vIs (.bool false), vIs (vi r), vIs (vi (s.least - 1)), vIs (.bool true), vIs (.bool true), vIs (vi k), vIs (.bool true), vIs (.bool true), vIs (.bool true), vIs (vi v), vIs (vi cv), vIs (lkV s f (some false)), vIs (.slice (some ⟨ta, tf, none⟩) ts.length c), vIs (vi r), vIs (.pointer (some ⟨ta, tf + r, none⟩)), vIs (.slice (some ⟨xa, xo, none⟩) s.cs.length x.c), vIs (vi k), vIs (vi k1), vIs (.pointer (some ⟨xa, xo + k1, none⟩)), vIs (.slice Y2.a Y2.l.length Y2.c), vIs (vi b), vIs (vi b2), vIs (vi (cv + b2)), vIs (.bool false), vIs (.bool false), vIs (.bool false), vIs (.bool false), vIs (vi r), vIs (vi (s.least - 1)), vIs (.bool true), vIs (.bool true), vIs (vi k), vIs (vi (s.least - 1)), vIs (.bool true), vIs (.bool true), vIs (.bool true), vIs (vi v), vIs (.bool false), vIs (.bool false)] (by repeat' first | refine And.intro ?_ ?_ | exact trivial | exact rfl | (intro v W h; obtain rfl : v = _ := h; first | rfl | (simp; done) | (simp [undef]; done))) (by repeat' first | refine And.intro ?_ ?_ | exact trivial | exact (fun h => Bool.noConfusion (show false = true from h)) | exact (fun _ _ => rfl)) (fun h k => newer_trans h k) (pickD_stable _ (by repeat' first | refine And.intro ?_ ?_ | exact trivial | exact vIs_st)) (Below.refl _ w6).drew (Below.refl _ _) ?_ ?_)
           ·refine ⟨.inr ?_, .inr ?_, .inr ?_, .inl rfl, .inl rfl, .inl rfl, .inr ?_, .inr ?_, .inr ?_, .inr ?_, .inr ?_, .inr ?_, .inr ?_, .inr ?_, .inr ?_, .inr ?_, .inr ?_, .inr ?_, .inr ?_, .inr ?_, .inr ?_, .inr ?_, .inr ?_, .inr ?_, .inr ?_, .inr ?_, .inr ?_, .inr ?_, .inr ?_, .inr ?_, .inr ?_, .inr ?_, .inr ?_, .inr ?_, .inr ?_, .inr ?_, .inr ?_, .inr ?_, .inr ?_, .inr ?_, .inr ?_, .inr ?_, .inr ?_, .inr ?_, .inr ?_, .inr ?_, .inr ?_, .inr ?_, .inr ?_, .inr ?_, .inr ?_, .inr ?_, .inr ?_, .inr ?_, .inr ?_, .inr ?_, .inr ?_, .inr ?_, .inr ?_, .inr ?_, .inr ?_, .inr ?_, .inr ?_, .inr ?_, .inr ?_, .inr ?_, .inr ?_, .inr ?_, .inr ?_, .inr ?_, .inr ?_, .inr ?_, trivial⟩
            ·exact fun a W hG _ hO _ => kM 9 rfl (hO.slot 9 (by kernel_rfl)) rfl hG
            ·intro a W hG hR hO hp; have h56 : slotOf a 56 = vi r := hp.1; refine kY (v := .bool false) hG rfl ?_; simp [slotOf] at h56; simp [execOp, go_sem, h56, e0]
            ·exact fun a W hG _ _ hp => kM 57 rfl hp.1 rfl hG
            ·intro a W hG hR hO hp; have h58 : slotOf a 58 = .bool false := hp.1; have h61 : slotOf a 61 = undef := hp.2.1; refine kY (v := .bool false) hG rfl ?_; simp [slotOf] at h58 h61; simp [execOp, go_sem, h58, h61]
            ·exact fun a W hG _ _ hp => kM 62 rfl hp.1 rfl hG
            ·exact fun a W hG _ hO _ => kM 9 rfl (hO.slot 9 (by kernel_rfl)) rfl hG
            ·intro a W hG hR hO hp; have h64 : slotOf a 64 = vi r := hp.1; refine kY (v := .bool true) hG rfl ?_; simp [slotOf] at h64; simp [execOp, go_sem, h64, e2]
            ·exact fun a W hG _ _ hp => kM 65 rfl hp.1 rfl hG
            ·exact fun a W hG _ hO _ => kM 10 rfl (hO.slot 10 (by kernel_rfl)) rfl hG
            ·intro a W hG hR hO hp; have h67 : slotOf a 67 = vi k := hp.1; refine kY (v := .bool true) hG rfl ?_; simp [slotOf] at h67; simp [execOp, go_sem, h67, qk]
            ·intro a W hG hR hO hp; have h66 : slotOf a 66 = .bool true := hp.1; have h68 : slotOf a 68 = .bool true := hp.2.1; refine kY (v := .bool true) hG rfl ?_; simp [slotOf] at h66 h68; simp [execOp, go_sem, h66, h68]
            ·exact fun a W hG _ _ hp => kM 69 rfl hp.1 rfl hG
            ·exact fun a W hG _ hO _ => kM 12 rfl (hO.slot 12 (by kernel_rfl)) rfl hG
            ·exact fun a W hG _ hO _ => kM 13 rfl (hO.slot 13 (by kernel_rfl)) rfl hG
            ·intro a W hG hR hO hp; have h7 := hO.slot 7 (by kernel_rfl); have c0 := keep_cell l0 hG; have c1 := keep_cell l1 hG; have c2 := keep_cell l2 hG; have c3 := keep_cell l3 hG; refine kY (v := lkV s f (some false)) hG rfl ?_; simp [slotOf] at h7; simp [execOp, go_sem, h7, c0, c1, c2, c3]
            ·exact fun a W hG _ hO _ => kM 2 rfl (hO.slot 2 (by kernel_rfl)) rfl hG
            ·exact fun a W hG _ hO _ => kM 9 rfl (hO.slot 9 (by kernel_rfl)) rfl hG
            ·intro a W hG hR hO hp; have h75 : slotOf a 75 = vi r := hp.1; refine kY (v := vi r1) hG rfl ?_; simp [slotOf] at h75; simp [execOp, go_sem, h75, hr1]
            ·intro a W hG hR hO hp; have h74 : slotOf a 74 = .slice (some ⟨ta, tf, none⟩) ts.length c := hp.1; have h76 : slotOf a 76 = vi r1 := hp.2.1; refine kY (v := .pointer (some ⟨ta, tf + r1, none⟩)) hG rfl ?_; simp [slotOf] at h74 h76; simp [execOp, go_sem, h74, h76, hr2]
            ·intro a W hG hR hO hp; have h77 : slotOf a 77 = .pointer (some ⟨ta, tf + r1, none⟩) := hp.1; have c0 := HC1.out W (newer_trans HJ4.out.nw hG); refine kY (v := .slice (some ⟨p1, o1, none⟩) s.cs.length X1.c) hG rfl ?_; simp [slotOf] at h77; simp [execOp, go_sem, h77, c0]
            ·exact fun a W hG _ hO _ => kM 10 rfl (hO.slot 10 (by kernel_rfl)) rfl hG
            ·intro a W hG hR hO hp; have h79 : slotOf a 79 = vi k := hp.1; refine kY (v := vi k1) hG rfl ?_; simp [slotOf] at h79; simp [execOp, go_sem, h79, hk1]
            ·intro a W hG hR hO hp; have h78 : slotOf a 78 = .slice (some ⟨p1, o1, none⟩) s.cs.length X1.c := hp.1; have h80 : slotOf a 80 = vi k1 := hp.2.1; refine kY (v := .pointer (some ⟨p1, o1 + k1, none⟩)) hG rfl ?_; simp [slotOf] at h78 h80; simp [execOp, go_sem, h78, h80, hk2]
            ·intro a W hG hR hO hp; have h81 : slotOf a 81 = .pointer (some ⟨p1, o1 + k1, none⟩) := hp.1; have c0 := HC2.out W (newer_trans HJ4.out.nw hG); refine kY (v := .slice Y1.a Y1.l.length Y1.c) hG rfl ?_; simp [slotOf] at h81; simp [execOp, go_sem, h81, c0]
            ·exact fun a W hG _ hO _ => kM 11 rfl (hO.slot 11 (by kernel_rfl)) rfl hG
            ·intro a W hG hR hO hp
             have h73 : slotOf a 73 = lkV s f (some false) := hp.1
             have h82 : slotOf a 82 = .slice Y1.a Y1.l.length Y1.c := hp.2.1
             have h83 : slotOf a 83 = vi b := hp.2.2.1
             refine wp_enters (f := 82) (args := #[lkV s f (some false), .slice Y1.a Y1.l.length Y1.c, vi b]) ?_ ((HB1.out W (newer_trans HJ4.out.nw hG)).mono ?_)
             ·simp [slotOf] at h73 h82 h83
              simp [go_sem, h73, h82, h83]
             ·rintro e w' ⟨rfl, hb⟩
              exact ⟨_, rfl, _, rfl, rfl, hb, below_next hG hb⟩
            ·intro a W hG hR hO hp; have h72 : slotOf a 72 = vi cv := hp.1; have h84 : slotOf a 84 = vi b1 := hp.2.1; refine kY (v := vi (cv + b1)) hG rfl ?_; simp [slotOf] at h72 h84; simp [execOp, go_sem, h72, h84, hw1]
            ·intro a W hG hR hO hp; have h71 : slotOf a 71 = vi v := hp.1; have h85 : slotOf a 85 = vi (cv + b1) := hp.2.1; refine kY (v := .bool false) hG rfl ?_; simp [slotOf] at h71 h85; simp [execOp, go_sem, h71, h85, q2]
            ·intro a W hG hR hO hp; have h70 : slotOf a 70 = .bool true := hp.1; have h86 : slotOf a 86 = .bool false := hp.2.1; refine kY (v := .bool false) hG rfl ?_; simp [slotOf] at h70 h86; simp [execOp, go_sem, h70, h86]
            ·intro a W hG hR hO hp; have h63 : slotOf a 63 = .bool false := hp.1; have h87 : slotOf a 87 = .bool false := hp.2.1; refine kY (v := .bool false) hG rfl ?_; simp [slotOf] at h63 h87; simp [execOp, go_sem, h63, h87]
            ·exact fun a W hG _ _ hp => kM 88 rfl hp.1 rfl hG
            ·exact fun a W hG _ hO _ => kM 9 rfl (hO.slot 9 (by kernel_rfl)) rfl hG
            ·exact fun a W hG _ hO _ => kM 8 rfl (hO.slot 8 (by kernel_rfl)) rfl hG
            ·intro a W hG hR hO hp; have h90 : slotOf a 90 = vi r := hp.1; have h91 : slotOf a 91 = vi (s.least - 1) := hp.2.1; refine kY (v := .bool true) hG rfl ?_; simp [slotOf] at h90 h91; simp [execOp, go_sem, h90, h91, e1]
            ·exact fun a W hG _ _ hp => kM 92 rfl hp.1 rfl hG
            ·exact fun a W hG _ hO _ => kM 10 rfl (hO.slot 10 (by kernel_rfl)) rfl hG
            ·intro a W hG hR hO hp; have h94 : slotOf a 94 = vi k := hp.1; refine kY (v := .bool true) hG rfl ?_; simp [slotOf] at h94; simp [execOp, go_sem, h94, qk]
            ·intro a W hG hR hO hp; have h93 : slotOf a 93 = .bool true := hp.1; have h95 : slotOf a 95 = .bool true := hp.2.1; refine kY (v := .bool true) hG rfl ?_; simp [slotOf] at h93 h95; simp [execOp, go_sem, h93, h95]
            ·exact fun a W hG _ _ hp => kM 96 rfl hp.1 rfl hG
            ·exact fun a W hG _ hO _ => kM 12 rfl (hO.slot 12 (by kernel_rfl)) rfl hG
            ·exact fun a W hG _ hO _ => kM 13 rfl (hO.slot 13 (by kernel_rfl)) rfl hG
            ·intro a W hG hR hO hp; have h7 := hO.slot 7 (by kernel_rfl); have c0 := keep_cell l0 hG; have c1 := keep_cell l1 hG; have c2 := keep_cell l2 hG; have c3 := keep_cell l3 hG; refine kY (v := lkV s f (some false)) hG rfl ?_; simp [slotOf] at h7; simp [execOp, go_sem, h7, c0, c1, c2, c3]
            ·exact fun a W hG _ hO _ => kM 2 rfl (hO.slot 2 (by kernel_rfl)) rfl hG
            ·exact fun a W hG _ hO _ => kM 9 rfl (hO.slot 9 (by kernel_rfl)) rfl hG
            ·intro a W hG hR hO hp; have h101 : slotOf a 101 = .slice (some ⟨ta, tf, none⟩) ts.length c := hp.1; have h102 : slotOf a 102 = vi r := hp.2.1; refine kY (v := .pointer (some ⟨ta, tf + r, none⟩)) hG rfl ?_; simp [slotOf] at h101 h102; simp [execOp, go_sem, h101, h102, hr3]
            ·intro a W hG hR hO hp; have h103 : slotOf a 103 = .pointer (some ⟨ta, tf + r, none⟩) := hp.1; have c0 := HXC.out W (newer_trans HJ4.out.nw hG); refine kY (v := .slice (some ⟨xa, xo, none⟩) s.cs.length x.c) hG rfl ?_; simp [slotOf] at h103; simp [execOp, go_sem, h103, c0]
            ·exact fun a W hG _ hO _ => kM 10 rfl (hO.slot 10 (by kernel_rfl)) rfl hG
            ·intro a W hG hR hO hp; have h105 : slotOf a 105 = vi k := hp.1; refine kY (v := vi k1) hG rfl ?_; simp [slotOf] at h105; simp [execOp, go_sem, h105, hk1]
            ·intro a W hG hR hO hp; have h104 : slotOf a 104 = .slice (some ⟨xa, xo, none⟩) s.cs.length x.c := hp.1; have h106 : slotOf a 106 = vi k1 := hp.2.1; refine kY (v := .pointer (some ⟨xa, xo + k1, none⟩)) hG rfl ?_; simp [slotOf] at h104 h106; simp [execOp, go_sem, h104, h106, hk2]
            ·intro a W hG hR hO hp; have h107 : slotOf a 107 = .pointer (some ⟨xa, xo + k1, none⟩) := hp.1; have c0 := HC3.out W (newer_trans HJ4.out.nw hG); refine kY (v := .slice Y2.a Y2.l.length Y2.c) hG rfl ?_; simp [slotOf] at h107; simp [execOp, go_sem, h107, c0]
            ·exact fun a W hG _ hO _ => kM 11 rfl (hO.slot 11 (by kernel_rfl)) rfl hG
            ·intro a W hG hR hO hp
             have h100 : slotOf a 100 = lkV s f (some false) := hp.1
             have h108 : slotOf a 108 = .slice Y2.a Y2.l.length Y2.c := hp.2.1
             have h109 : slotOf a 109 = vi b := hp.2.2.1
             refine wp_enters (f := 82) (args := #[lkV s f (some false), .slice Y2.a Y2.l.length Y2.c, vi b]) ?_ ((HB2.out W (newer_trans HJ4.out.nw hG)).mono ?_)
             ·simp [slotOf] at h100 h108 h109
              simp [go_sem, h100, h108, h109]
             ·rintro e w' ⟨rfl, hb⟩
              exact ⟨_, rfl, _, rfl, rfl, hb, below_next hG hb⟩
            ·intro a W hG hR hO hp; have h99 : slotOf a 99 = vi cv := hp.1; have h110 : slotOf a 110 = vi b2 := hp.2.1; refine kY (v := vi (cv + b2)) hG rfl ?_; simp [slotOf] at h99 h110; simp [execOp, go_sem, h99, h110, hw2]
            ·intro a W hG hR hO hp; have h98 : slotOf a 98 = vi v := hp.1; have h111 : slotOf a 111 = vi (cv + b2) := hp.2.1; refine kY (v := .bool false) hG rfl ?_; simp [slotOf] at h98 h111; simp [execOp, go_sem, h98, h111, q3]
            ·intro a W hG hR hO hp; have h97 : slotOf a 97 = .bool true := hp.1; have h112 : slotOf a 112 = .bool false := hp.2.1; refine kY (v := .bool false) hG rfl ?_; simp [slotOf] at h97 h112; simp [execOp, go_sem, h97, h112]
            ·intro a W hG hR hO hp; have h89 : slotOf a 89 = .bool false := hp.1; have h113 : slotOf a 113 = .bool false := hp.2.1; refine kY (v := .bool false) hG rfl ?_; simp [slotOf] at h89 h113; simp [execOp, go_sem, h89, h113]
            ·exact fun a W hG _ _ hp => kM 114 rfl hp.1 rfl hG
            ·exact fun a W hG _ hO _ => kM 9 rfl (hO.slot 9 (by kernel_rfl)) rfl hG
            ·exact fun a W hG _ hO _ => kM 8 rfl (hO.slot 8 (by kernel_rfl)) rfl hG
            ·intro a W hG hR hO hp; have h116 : slotOf a 116 = vi r := hp.1; have h117 : slotOf a 117 = vi (s.least - 1) := hp.2.1; refine kY (v := .bool true) hG rfl ?_; simp [slotOf] at h116 h117; simp [execOp, go_sem, h116, h117, e1]
            ·exact fun a W hG _ _ hp => kM 118 rfl hp.1 rfl hG
            ·exact fun a W hG _ hO _ => kM 10 rfl (hO.slot 10 (by kernel_rfl)) rfl hG
            ·exact fun a W hG _ hO _ => kM 8 rfl (hO.slot 8 (by kernel_rfl)) rfl hG
            ·intro a W hG hR hO hp; have h120 : slotOf a 120 = vi k := hp.1; have h121 : slotOf a 121 = vi (s.least - 1) := hp.2.1; refine kY (v := .bool true) hG rfl ?_; simp [slotOf] at h120 h121; simp [execOp, go_sem, h120, h121, e4]
            ·intro a W hG hR hO hp; have h119 : slotOf a 119 = .bool true := hp.1; have h122 : slotOf a 122 = .bool true := hp.2.1; refine kY (v := .bool true) hG rfl ?_; simp [slotOf] at h119 h122; simp [execOp, go_sem, h119, h122]
            ·exact fun a W hG _ _ hp => kM 123 rfl hp.1 rfl hG
            ·exact fun a W hG _ hO _ => kM 12 rfl (hO.slot 12 (by kernel_rfl)) rfl hG
            ·intro a W hG hR hO hp; have h125 : slotOf a 125 = vi v := hp.1; refine kY (v := .bool false) hG rfl ?_; simp [slotOf] at h125; simp [execOp, go_sem, h125, q4]
            ·intro a W hG hR hO hp; have h124 : slotOf a 124 = .bool true := hp.1; have h126 : slotOf a 126 = .bool false := hp.2.1; refine kY (v := .bool false) hG rfl ?_; simp [slotOf] at h124 h126; simp [execOp, go_sem, h124, h126]
           ·intro wz hG hR
            rintro _ rfl _ rfl _ rfl _ rfl _ rfl _ rfl _ rfl _ rfl _ rfl _ rfl _ rfl _ rfl _ rfl _ rfl _ rfl _ rfl _ rfl _ rfl _ rfl _ rfl _ rfl _ rfl _ rfl _ rfl _ rfl _ rfl _ rfl _ rfl _ rfl _ rfl _ rfl _ rfl _ rfl _ rfl _ rfl _ rfl _ rfl _ rfl _ rfl _ rfl _ rfl _ rfl _ rfl _ rfl _ rfl _ rfl _ rfl _ rfl _ rfl _ rfl _ rfl _ rfl _ rfl _ rfl _ rfl _ rfl _ rfl _ rfl _ rfl _ rfl _ rfl _ rfl _ rfl _ rfl _ rfl _ rfl _ rfl _ rfl _ rfl _ rfl _ rfl _ rfl
            change wpList _ _ _ _ _ _
            simp only [Act.put, List.setIfInBounds_toArray, List.set_cons_zero, List.set_cons_succ]
            have HN := Lib.hid (HJ4.out.next hG)
            clear hG hR HJ4 x1 l0 l1 l2 l3 e0 e2 qk e1 e4
            go_wp2_with fail
            refine ⟨⟨b + 1, by simp, by omega, HE.out, HN.out⟩, ?_⟩
            simp [intOf]
            omega
         case neg =>
          have e4 : ¬ (s.least - 1 <= (k : Int)) := by have := HN1.out; omega
          have HE := Lib.hid (HON.out (HCE.out.2 (by have := HN1.out; omega)))
          clear HFAIL HON HCE
          obtain ⟨hbd1, X1, Y1, p1, o1, c1, c2, HB1⟩ := HP1.out (by omega) (by omega)
          have HB1 := Lib.hid HB1
          have hbd1 : -1000000000000000 <= b1 /\ b1 <= 1000000000000000 := hbd1
          have hw1 : IntKind.i64.wrap (cv + b1) = cv + b1 := IntWalk.i64_in _ (by omega)
          obtain ⟨hbd2, Y2, c3, HB2⟩ := HP2.out (by omega)
          have HB2 := Lib.hid HB2
          have hbd2 : -1000000000000000 <= b2 /\ b2 <= 1000000000000000 := hbd2
          have hw2 : IntKind.i64.wrap (cv + b2) = cv + b2 := IntWalk.i64_in _ (by omega)
          have hr3 : (r : Int) < ts.length := by omega
          obtain ⟨r1, hr⟩ : ∃ r1, r1 = r - 1 := ⟨_, rfl⟩
          have hr1 : IntKind.i64.wrap ((r : Int) - 1) = r1 := by rw [IntWalk.i64_in _ (by omega)]; omega
          have hr2 : (r1 : Int) < ts.length := by omega
          rw [<- hr] at c1
          obtain ⟨k1, hk⟩ : ∃ k1, k1 = k - 1 := ⟨_, rfl⟩
          have hk1 : IntKind.i64.wrap ((k : Int) - 1) = k1 := by rw [IntWalk.i64_in _ (by omega)]; omega
          have hk2 : (k1 : Int) < s.cs.length := by omega
          rw [<- hk] at c2
          have HC1 := Lib.hid c1
          have HC2 := Lib.hid c2
          clear c1 c2
          rw [<- hk] at c3
          have HC3 := Lib.hid c3
          clear c3
          clear HP1 HP2 q0 ql
          refine wp_words (by kernel_rfl) (region_told_u 72 (by kernel_rfl) (by kernel_rfl) [false, false, false, true, true, true, false, false, false, false, false, false, false, false, false, false, false, false, false, false, false, false, false, false, false, false, false, false, false, false, false, false, false, false, false, false, false, false, false, false, false, false, false, false, false, false, false, false, false, false, false, false, false, false, false, false, false, false, false, false, false, false, false, false, false, false, false, false, false, true, true, false] (fun W => Below w6.heap.size w6 W) newer [vIs (vi r), vIs (.bool false), vIs (.bool false), vU, vU, vU, vIs (.bool false), vIs (.bool false), vIs (vi r), vIs (.bool true), vIs (.bool true), vIs (vi k), vIs (.bool true), vIs (.bool true), vIs (.bool true), vIs (vi v), vIs (vi cv), vIs (lkV s f (some false)), vIs (.slice (some ⟨ta, tf, none⟩) ts.length c), vIs (vi r), vIs (vi r1), vIs (.pointer (some ⟨ta, tf + r1, none⟩)), vIs (.slice (some ⟨p1, o1, none⟩) s.cs.length X1.c), vIs (vi k), vIs (vi k1), vIs (.pointer (some ⟨p1, o1 + k1, none⟩)), vIs (.slice Y1.a Y1.l.length Y1.c), vIs (vi b), vIs (vi b1), vIs (vi (cv + b1)), vIs (.bool false), vIs (.bool false), vIs (.bool false), vIs (.bool false), vIs (vi r), vIs (vi (s.least - 1)), vIs (.bool true), vIs (.bool true), vIs (vi k), vIs (.bool true), vIs (.bool true), vIs (.bool true), vIs (vi v), vIs (vi cv), vIs (lkV s f (some false)), vIs (.slice (some ⟨ta, tf, none⟩) ts.length c), vIs (vi r), vIs (.pointer (some ⟨ta, tf + r, none⟩)), vIs (.slice (some ⟨xa, xo, none⟩) s.cs.length x.c), vIs (vi k), vIs (vi k1), vIs (.pointer (some ⟨xa, xo + k1, none⟩)), vIs (.slice Y2.a Y2.l.length Y2.c), vIs (vi b), vIs (vi b2), vIs (vi (cv + b2)), vIs (.bool false), vIs (.bool false), vIs (.bool false), vIs (.bool false), vIs (vi r), vIs (vi (s.least - 1)), vIs (.bool true), vIs (.bool true), vIs (vi k), vIs (vi (s.least - 1)), vIs (.bool false), vIs (.bool false), vIs (.bool false), vU, vU, vIs (.bool false)] (by repeat' first | refine And.intro ?_ ?_ | exact trivial | exact rfl | (intro v W h; obtain rfl : v = _ := h; first | rfl | (simp; done) | (simp [undef]; done))) (by repeat' first | refine And.intro ?_ ?_ | exact trivial | exact (fun h => Bool.noConfusion (show false = true from h)) | exact (fun _ _ => rfl)) (fun h k => newer_trans h k) (pickD_stable _ (by repeat' first | refine And.intro ?_ ?_ | exact trivial | exact vIs_st)) (Below.refl _ w6).drew (Below.refl _ _) ?_ ?_)
          ·refine ⟨.inr ?_, .inr ?_, .inr ?_, .inl rfl, .inl rfl, .inl rfl, .inr ?_, .inr ?_, .inr ?_, .inr ?_, .inr ?_, .inr ?_, .inr ?_, .inr ?_, .inr ?_, .inr ?_, .inr ?_, .inr ?_, .inr ?_, .inr ?_, .inr ?_, .inr ?_, .inr ?_, .inr ?_, .inr ?_, .inr ?_, .inr ?_, .inr ?_, .inr ?_, .inr ?_, .inr ?_, .inr ?_, .inr ?_, .inr ?_, .inr ?_, .inr ?_, .inr ?_, .inr ?_, .inr ?_, .inr ?_, .inr ?_, .inr ?_, .inr ?_, .inr ?_, .inr ?_, .inr ?_, .inr ?_, .inr ?_, .inr ?_, .inr ?_, .inr ?_, .inr ?_, .inr ?_, .inr ?_, .inr ?_, .inr ?_, .inr ?_, .inr ?_, .inr ?_, .inr ?_, .inr ?_, .inr ?_, .inr ?_, .inr ?_, .inr ?_, .inr ?_, .inr ?_, .inr ?_, .inr ?_, .inl rfl, .inl rfl, .inr ?_, trivial⟩
           ·exact fun a W hG _ hO _ => kM 9 rfl (hO.slot 9 (by kernel_rfl)) rfl hG
           ·intro a W hG hR hO hp; have h56 : slotOf a 56 = vi r := hp.1; refine kY (v := .bool false) hG rfl ?_; simp [slotOf] at h56; simp [execOp, go_sem, h56, e0]
           ·exact fun a W hG _ _ hp => kM 57 rfl hp.1 rfl hG
           ·intro a W hG hR hO hp; have h58 : slotOf a 58 = .bool false := hp.1; have h61 : slotOf a 61 = undef := hp.2.1; refine kY (v := .bool false) hG rfl ?_; simp [slotOf] at h58 h61; simp [execOp, go_sem, h58, h61]
           ·exact fun a W hG _ _ hp => kM 62 rfl hp.1 rfl hG
           ·exact fun a W hG _ hO _ => kM 9 rfl (hO.slot 9 (by kernel_rfl)) rfl hG
           ·intro a W hG hR hO hp; have h64 : slotOf a 64 = vi r := hp.1; refine kY (v := .bool true) hG rfl ?_; simp [slotOf] at h64; simp [execOp, go_sem, h64, e2]
           ·exact fun a W hG _ _ hp => kM 65 rfl hp.1 rfl hG
           ·exact fun a W hG _ hO _ => kM 10 rfl (hO.slot 10 (by kernel_rfl)) rfl hG
           ·intro a W hG hR hO hp; have h67 : slotOf a 67 = vi k := hp.1; refine kY (v := .bool true) hG rfl ?_; simp [slotOf] at h67; simp [execOp, go_sem, h67, qk]
           ·intro a W hG hR hO hp; have h66 : slotOf a 66 = .bool true := hp.1; have h68 : slotOf a 68 = .bool true := hp.2.1; refine kY (v := .bool true) hG rfl ?_; simp [slotOf] at h66 h68; simp [execOp, go_sem, h66, h68]
           ·exact fun a W hG _ _ hp => kM 69 rfl hp.1 rfl hG
           ·exact fun a W hG _ hO _ => kM 12 rfl (hO.slot 12 (by kernel_rfl)) rfl hG
           ·exact fun a W hG _ hO _ => kM 13 rfl (hO.slot 13 (by kernel_rfl)) rfl hG
           ·intro a W hG hR hO hp; have h7 := hO.slot 7 (by kernel_rfl); have c0 := keep_cell l0 hG; have c1 := keep_cell l1 hG; have c2 := keep_cell l2 hG; have c3 := keep_cell l3 hG; refine kY (v := lkV s f (some false)) hG rfl ?_; simp [slotOf] at h7; simp [execOp, go_sem, h7, c0, c1, c2, c3]
           ·exact fun a W hG _ hO _ => kM 2 rfl (hO.slot 2 (by kernel_rfl)) rfl hG
           ·exact fun a W hG _ hO _ => kM 9 rfl (hO.slot 9 (by kernel_rfl)) rfl hG
           ·intro a W hG hR hO hp; have h75 : slotOf a 75 = vi r := hp.1; refine kY (v := vi r1) hG rfl ?_; simp [slotOf] at h75; simp [execOp, go_sem, h75, hr1]
           ·intro a W hG hR hO hp; have h74 : slotOf a 74 = .slice (some ⟨ta, tf, none⟩) ts.length c := hp.1; have h76 : slotOf a 76 = vi r1 := hp.2.1; refine kY (v := .pointer (some ⟨ta, tf + r1, none⟩)) hG rfl ?_; simp [slotOf] at h74 h76; simp [execOp, go_sem, h74, h76, hr2]
           ·intro a W hG hR hO hp; have h77 : slotOf a 77 = .pointer (some ⟨ta, tf + r1, none⟩) := hp.1; have c0 := HC1.out W (newer_trans HJ4.out.nw hG); refine kY (v := .slice (some ⟨p1, o1, none⟩) s.cs.length X1.c) hG rfl ?_; simp [slotOf] at h77; simp [execOp, go_sem, h77, c0]
           ·exact fun a W hG _ hO _ => kM 10 rfl (hO.slot 10 (by kernel_rfl)) rfl hG
           ·intro a W hG hR hO hp; have h79 : slotOf a 79 = vi k := hp.1; refine kY (v := vi k1) hG rfl ?_; simp [slotOf] at h79; simp [execOp, go_sem, h79, hk1]
           ·intro a W hG hR hO hp; have h78 : slotOf a 78 = .slice (some ⟨p1, o1, none⟩) s.cs.length X1.c := hp.1; have h80 : slotOf a 80 = vi k1 := hp.2.1; refine kY (v := .pointer (some ⟨p1, o1 + k1, none⟩)) hG rfl ?_; simp [slotOf] at h78 h80; simp [execOp, go_sem, h78, h80, hk2]
           ·intro a W hG hR hO hp; have h81 : slotOf a 81 = .pointer (some ⟨p1, o1 + k1, none⟩) := hp.1; have c0 := HC2.out W (newer_trans HJ4.out.nw hG); refine kY (v := .slice Y1.a Y1.l.length Y1.c) hG rfl ?_; simp [slotOf] at h81; simp [execOp, go_sem, h81, c0]
           ·exact fun a W hG _ hO _ => kM 11 rfl (hO.slot 11 (by kernel_rfl)) rfl hG
           ·intro a W hG hR hO hp
            have h73 : slotOf a 73 = lkV s f (some false) := hp.1
            have h82 : slotOf a 82 = .slice Y1.a Y1.l.length Y1.c := hp.2.1
            have h83 : slotOf a 83 = vi b := hp.2.2.1
            refine wp_enters (f := 82) (args := #[lkV s f (some false), .slice Y1.a Y1.l.length Y1.c, vi b]) ?_ ((HB1.out W (newer_trans HJ4.out.nw hG)).mono ?_)
            ·simp [slotOf] at h73 h82 h83
             simp [go_sem, h73, h82, h83]
            ·rintro e w' ⟨rfl, hb⟩
             exact ⟨_, rfl, _, rfl, rfl, hb, below_next hG hb⟩
           ·intro a W hG hR hO hp; have h72 : slotOf a 72 = vi cv := hp.1; have h84 : slotOf a 84 = vi b1 := hp.2.1; refine kY (v := vi (cv + b1)) hG rfl ?_; simp [slotOf] at h72 h84; simp [execOp, go_sem, h72, h84, hw1]
           ·intro a W hG hR hO hp; have h71 : slotOf a 71 = vi v := hp.1; have h85 : slotOf a 85 = vi (cv + b1) := hp.2.1; refine kY (v := .bool false) hG rfl ?_; simp [slotOf] at h71 h85; simp [execOp, go_sem, h71, h85, q2]
           ·intro a W hG hR hO hp; have h70 : slotOf a 70 = .bool true := hp.1; have h86 : slotOf a 86 = .bool false := hp.2.1; refine kY (v := .bool false) hG rfl ?_; simp [slotOf] at h70 h86; simp [execOp, go_sem, h70, h86]
           ·intro a W hG hR hO hp; have h63 : slotOf a 63 = .bool false := hp.1; have h87 : slotOf a 87 = .bool false := hp.2.1; refine kY (v := .bool false) hG rfl ?_; simp [slotOf] at h63 h87; simp [execOp, go_sem, h63, h87]
           ·exact fun a W hG _ _ hp => kM 88 rfl hp.1 rfl hG
           ·exact fun a W hG _ hO _ => kM 9 rfl (hO.slot 9 (by kernel_rfl)) rfl hG
           ·exact fun a W hG _ hO _ => kM 8 rfl (hO.slot 8 (by kernel_rfl)) rfl hG
           ·intro a W hG hR hO hp; have h90 : slotOf a 90 = vi r := hp.1; have h91 : slotOf a 91 = vi (s.least - 1) := hp.2.1; refine kY (v := .bool true) hG rfl ?_; simp [slotOf] at h90 h91; simp [execOp, go_sem, h90, h91, e1]
           ·exact fun a W hG _ _ hp => kM 92 rfl hp.1 rfl hG
           ·exact fun a W hG _ hO _ => kM 10 rfl (hO.slot 10 (by kernel_rfl)) rfl hG
           ·intro a W hG hR hO hp; have h94 : slotOf a 94 = vi k := hp.1; refine kY (v := .bool true) hG rfl ?_; simp [slotOf] at h94; simp [execOp, go_sem, h94, qk]
           ·intro a W hG hR hO hp; have h93 : slotOf a 93 = .bool true := hp.1; have h95 : slotOf a 95 = .bool true := hp.2.1; refine kY (v := .bool true) hG rfl ?_; simp [slotOf] at h93 h95; simp [execOp, go_sem, h93, h95]
           ·exact fun a W hG _ _ hp => kM 96 rfl hp.1 rfl hG
           ·exact fun a W hG _ hO _ => kM 12 rfl (hO.slot 12 (by kernel_rfl)) rfl hG
           ·exact fun a W hG _ hO _ => kM 13 rfl (hO.slot 13 (by kernel_rfl)) rfl hG
           ·intro a W hG hR hO hp; have h7 := hO.slot 7 (by kernel_rfl); have c0 := keep_cell l0 hG; have c1 := keep_cell l1 hG; have c2 := keep_cell l2 hG; have c3 := keep_cell l3 hG; refine kY (v := lkV s f (some false)) hG rfl ?_; simp [slotOf] at h7; simp [execOp, go_sem, h7, c0, c1, c2, c3]
           ·exact fun a W hG _ hO _ => kM 2 rfl (hO.slot 2 (by kernel_rfl)) rfl hG
           ·exact fun a W hG _ hO _ => kM 9 rfl (hO.slot 9 (by kernel_rfl)) rfl hG
           ·intro a W hG hR hO hp; have h101 : slotOf a 101 = .slice (some ⟨ta, tf, none⟩) ts.length c := hp.1; have h102 : slotOf a 102 = vi r := hp.2.1; refine kY (v := .pointer (some ⟨ta, tf + r, none⟩)) hG rfl ?_; simp [slotOf] at h101 h102; simp [execOp, go_sem, h101, h102, hr3]
           ·intro a W hG hR hO hp; have h103 : slotOf a 103 = .pointer (some ⟨ta, tf + r, none⟩) := hp.1; have c0 := HXC.out W (newer_trans HJ4.out.nw hG); refine kY (v := .slice (some ⟨xa, xo, none⟩) s.cs.length x.c) hG rfl ?_; simp [slotOf] at h103; simp [execOp, go_sem, h103, c0]
           ·exact fun a W hG _ hO _ => kM 10 rfl (hO.slot 10 (by kernel_rfl)) rfl hG
           ·intro a W hG hR hO hp; have h105 : slotOf a 105 = vi k := hp.1; refine kY (v := vi k1) hG rfl ?_; simp [slotOf] at h105; simp [execOp, go_sem, h105, hk1]
           ·intro a W hG hR hO hp; have h104 : slotOf a 104 = .slice (some ⟨xa, xo, none⟩) s.cs.length x.c := hp.1; have h106 : slotOf a 106 = vi k1 := hp.2.1; refine kY (v := .pointer (some ⟨xa, xo + k1, none⟩)) hG rfl ?_; simp [slotOf] at h104 h106; simp [execOp, go_sem, h104, h106, hk2]
           ·intro a W hG hR hO hp; have h107 : slotOf a 107 = .pointer (some ⟨xa, xo + k1, none⟩) := hp.1; have c0 := HC3.out W (newer_trans HJ4.out.nw hG); refine kY (v := .slice Y2.a Y2.l.length Y2.c) hG rfl ?_; simp [slotOf] at h107; simp [execOp, go_sem, h107, c0]
           ·exact fun a W hG _ hO _ => kM 11 rfl (hO.slot 11 (by kernel_rfl)) rfl hG
           ·intro a W hG hR hO hp
            have h100 : slotOf a 100 = lkV s f (some false) := hp.1
            have h108 : slotOf a 108 = .slice Y2.a Y2.l.length Y2.c := hp.2.1
            have h109 : slotOf a 109 = vi b := hp.2.2.1
            refine wp_enters (f := 82) (args := #[lkV s f (some false), .slice Y2.a Y2.l.length Y2.c, vi b]) ?_ ((HB2.out W (newer_trans HJ4.out.nw hG)).mono ?_)
            ·simp [slotOf] at h100 h108 h109
             simp [go_sem, h100, h108, h109]
            ·rintro e w' ⟨rfl, hb⟩
             exact ⟨_, rfl, _, rfl, rfl, hb, below_next hG hb⟩
           ·intro a W hG hR hO hp; have h99 : slotOf a 99 = vi cv := hp.1; have h110 : slotOf a 110 = vi b2 := hp.2.1; refine kY (v := vi (cv + b2)) hG rfl ?_; simp [slotOf] at h99 h110; simp [execOp, go_sem, h99, h110, hw2]
           ·intro a W hG hR hO hp; have h98 : slotOf a 98 = vi v := hp.1; have h111 : slotOf a 111 = vi (cv + b2) := hp.2.1; refine kY (v := .bool false) hG rfl ?_; simp [slotOf] at h98 h111; simp [execOp, go_sem, h98, h111, q3]
           ·intro a W hG hR hO hp; have h97 : slotOf a 97 = .bool true := hp.1; have h112 : slotOf a 112 = .bool false := hp.2.1; refine kY (v := .bool false) hG rfl ?_; simp [slotOf] at h97 h112; simp [execOp, go_sem, h97, h112]
           ·intro a W hG hR hO hp; have h89 : slotOf a 89 = .bool false := hp.1; have h113 : slotOf a 113 = .bool false := hp.2.1; refine kY (v := .bool false) hG rfl ?_; simp [slotOf] at h89 h113; simp [execOp, go_sem, h89, h113]
           ·exact fun a W hG _ _ hp => kM 114 rfl hp.1 rfl hG
           ·exact fun a W hG _ hO _ => kM 9 rfl (hO.slot 9 (by kernel_rfl)) rfl hG
           ·exact fun a W hG _ hO _ => kM 8 rfl (hO.slot 8 (by kernel_rfl)) rfl hG
           ·intro a W hG hR hO hp; have h116 : slotOf a 116 = vi r := hp.1; have h117 : slotOf a 117 = vi (s.least - 1) := hp.2.1; refine kY (v := .bool true) hG rfl ?_; simp [slotOf] at h116 h117; simp [execOp, go_sem, h116, h117, e1]
           ·exact fun a W hG _ _ hp => kM 118 rfl hp.1 rfl hG
           ·exact fun a W hG _ hO _ => kM 10 rfl (hO.slot 10 (by kernel_rfl)) rfl hG
           ·exact fun a W hG _ hO _ => kM 8 rfl (hO.slot 8 (by kernel_rfl)) rfl hG
           ·intro a W hG hR hO hp; have h120 : slotOf a 120 = vi k := hp.1; have h121 : slotOf a 121 = vi (s.least - 1) := hp.2.1; refine kY (v := .bool false) hG rfl ?_; simp [slotOf] at h120 h121; simp [execOp, go_sem, h120, h121, e4]
           ·intro a W hG hR hO hp; have h119 : slotOf a 119 = .bool true := hp.1; have h122 : slotOf a 122 = .bool false := hp.2.1; refine kY (v := .bool false) hG rfl ?_; simp [slotOf] at h119 h122; simp [execOp, go_sem, h119, h122]
           ·exact fun a W hG _ _ hp => kM 123 rfl hp.1 rfl hG
           ·intro a W hG hR hO hp; have h124 : slotOf a 124 = .bool false := hp.1; have h126 : slotOf a 126 = undef := hp.2.1; refine kY (v := .bool false) hG rfl ?_; simp [slotOf] at h124 h126; simp [execOp, go_sem, h124, h126]
          ·intro wz hG hR
           rintro _ rfl _ rfl _ rfl _ rfl _ rfl _ rfl _ rfl _ rfl _ rfl _ rfl _ rfl _ rfl _ rfl _ rfl _ rfl _ rfl _ rfl _ rfl _ rfl _ rfl _ rfl _ rfl _ rfl _ rfl _ rfl _ rfl _ rfl _ rfl _ rfl _ rfl _ rfl _ rfl _ rfl _ rfl _ rfl _ rfl _ rfl _ rfl _ rfl _ rfl _ rfl _ rfl _ rfl _ rfl _ rfl _ rfl _ rfl _ rfl _ rfl _ rfl _ rfl _ rfl _ rfl _ rfl _ rfl _ rfl _ rfl _ rfl _ rfl _ rfl _ rfl _ rfl _ rfl _ rfl _ rfl _ rfl _ rfl _ rfl _ rfl _ rfl _ rfl _ rfl
           change wpList _ _ _ _ _ _
           simp only [Act.put, List.setIfInBounds_toArray, List.set_cons_zero, List.set_cons_succ]
           have HN := Lib.hid (HJ4.out.next hG)
           clear hG hR HJ4 x1 l0 l1 l2 l3 e0 e2 qk e1 e4
           go_wp2_with fail
           refine ⟨⟨b + 1, by simp, by omega, HE.out, HN.out⟩, ?_⟩
           simp [intOf]
           omega
       case neg =>
        have e1 : ((r : Int) == s.least - 1) = false := by have := HN1.out; rw [beq_eq_false_iff_ne]; omega
        have HE := Lib.hid (HON.out (HCE.out.2 (by have := HN1.out; omega)))
        clear HFAIL HON HCE
        obtain ⟨hbd1, X1, Y1, p1, o1, c1, c2, HB1⟩ := HP1.out (by omega) (by omega)
        have HB1 := Lib.hid HB1
        have hbd1 : -1000000000000000 <= b1 /\ b1 <= 1000000000000000 := hbd1
        have hw1 : IntKind.i64.wrap (cv + b1) = cv + b1 := IntWalk.i64_in _ (by omega)
        obtain ⟨r1, hr⟩ : ∃ r1, r1 = r - 1 := ⟨_, rfl⟩
        have hr1 : IntKind.i64.wrap ((r : Int) - 1) = r1 := by rw [IntWalk.i64_in _ (by omega)]; omega
        have hr2 : (r1 : Int) < ts.length := by omega
        rw [<- hr] at c1
        obtain ⟨k1, hk⟩ : ∃ k1, k1 = k - 1 := ⟨_, rfl⟩
        have hk1 : IntKind.i64.wrap ((k : Int) - 1) = k1 := by rw [IntWalk.i64_in _ (by omega)]; omega
        have hk2 : (k1 : Int) < s.cs.length := by omega
        rw [<- hk] at c2
        have HC1 := Lib.hid c1
        have HC2 := Lib.hid c2
        clear c1 c2
        clear HP1 HP2 q0 ql
        refine wp_words (by kernel_rfl) (region_told_u 72 (by kernel_rfl) (by kernel_rfl) [false, false, false, true, true, true, false, false, false, false, false, false, false, false, false, false, false, false, false, false, false, false, false, false, false, false, false, false, false, false, false, false, false, false, false, false, false, false, true, true, false, false, true, true, true, true, true, true, true, true, true, true, true, true, true, true, true, false, false, false, false, false, false, false, true, true, true, false, false, true, true, false] (fun W => Below w6.heap.size w6 W) newer [vIs (vi r), vIs (.bool false), vIs (.bool false), vU, vU, vU, vIs (.bool false), vIs (.bool false), vIs (vi r), vIs (.bool true), vIs (.bool true), vIs (vi k), vIs (.bool true), vIs (.bool true), vIs (.bool true), vIs (vi v), vIs (vi cv), vIs (lkV s f (some false)), vIs (.slice (some ⟨ta, tf, none⟩) ts.length c), vIs (vi r), vIs (vi r1), vIs (.pointer (some ⟨ta, tf + r1, none⟩)), vIs (.slice (some ⟨p1, o1, none⟩) s.cs.length X1.c), vIs (vi k), vIs (vi k1), vIs (.pointer (some ⟨p1, o1 + k1, none⟩)), vIs (.slice Y1.a Y1.l.length Y1.c), vIs (vi b), vIs (vi b1), vIs (vi (cv + b1)), vIs (.bool false), vIs (.bool false), vIs (.bool false), vIs (.bool false), vIs (vi r), vIs (vi (s.least - 1)), vIs (.bool false), vIs (.bool false), vU, vU, vIs (.bool false), vIs (.bool false), vU, vU, vU, vU, vU, vU, vU, vU, vU, vU, vU, vU, vU, vU, vU, vIs (.bool false), vIs (.bool false), vIs (.bool false), vIs (vi r), vIs (vi (s.least - 1)), vIs (.bool false), vIs (.bool false), vU, vU, vU, vIs (.bool false), vIs (.bool false), vU, vU, vIs (.bool false)] (by repeat' first | refine And.intro ?_ ?_ | exact trivial | exact rfl | (intro v W h; obtain rfl : v = _ := h; first | rfl | (simp; done) | (simp [undef]; done))) (by repeat' first | refine And.intro ?_ ?_ | exact trivial | exact (fun h => Bool.noConfusion (show false = true from h)) | exact (fun _ _ => rfl)) (fun h k => newer_trans h k) (pickD_stable _ (by repeat' first | refine And.intro ?_ ?_ | exact trivial | exact vIs_st)) (Below.refl _ w6).drew (Below.refl _ _) ?_ ?_)
        ·refine ⟨.inr ?_, .inr ?_, .inr ?_, .inl rfl, .inl rfl, .inl rfl, .inr ?_, .inr ?_, .inr ?_, .inr ?_, .inr ?_, .inr ?_, .inr ?_, .inr ?_, .inr ?_, .inr ?_, .inr ?_, .inr ?_, .inr ?_, .inr ?_, .inr ?_, .inr ?_, .inr ?_, .inr ?_, .inr ?_, .inr ?_, .inr ?_, .inr ?_, .inr ?_, .inr ?_, .inr ?_, .inr ?_, .inr ?_, .inr ?_, .inr ?_, .inr ?_, .inr ?_, .inr ?_, .inl rfl, .inl rfl, .inr ?_, .inr ?_, .inl rfl, .inl rfl, .inl rfl, .inl rfl, .inl rfl, .inl rfl, .inl rfl, .inl rfl, .inl rfl, .inl rfl, .inl rfl, .inl rfl, .inl rfl, .inl rfl, .inl rfl, .inr ?_, .inr ?_, .inr ?_, .inr ?_, .inr ?_, .inr ?_, .inr ?_, .inl rfl, .inl rfl, .inl rfl, .inr ?_, .inr ?_, .inl rfl, .inl rfl, .inr ?_, trivial⟩
         ·exact fun a W hG _ hO _ => kM 9 rfl (hO.slot 9 (by kernel_rfl)) rfl hG
         ·intro a W hG hR hO hp; have h56 : slotOf a 56 = vi r := hp.1; refine kY (v := .bool false) hG rfl ?_; simp [slotOf] at h56; simp [execOp, go_sem, h56, e0]
         ·exact fun a W hG _ _ hp => kM 57 rfl hp.1 rfl hG
         ·intro a W hG hR hO hp; have h58 : slotOf a 58 = .bool false := hp.1; have h61 : slotOf a 61 = undef := hp.2.1; refine kY (v := .bool false) hG rfl ?_; simp [slotOf] at h58 h61; simp [execOp, go_sem, h58, h61]
         ·exact fun a W hG _ _ hp => kM 62 rfl hp.1 rfl hG
         ·exact fun a W hG _ hO _ => kM 9 rfl (hO.slot 9 (by kernel_rfl)) rfl hG
         ·intro a W hG hR hO hp; have h64 : slotOf a 64 = vi r := hp.1; refine kY (v := .bool true) hG rfl ?_; simp [slotOf] at h64; simp [execOp, go_sem, h64, e2]
         ·exact fun a W hG _ _ hp => kM 65 rfl hp.1 rfl hG
         ·exact fun a W hG _ hO _ => kM 10 rfl (hO.slot 10 (by kernel_rfl)) rfl hG
         ·intro a W hG hR hO hp; have h67 : slotOf a 67 = vi k := hp.1; refine kY (v := .bool true) hG rfl ?_; simp [slotOf] at h67; simp [execOp, go_sem, h67, qk]
         ·intro a W hG hR hO hp; have h66 : slotOf a 66 = .bool true := hp.1; have h68 : slotOf a 68 = .bool true := hp.2.1; refine kY (v := .bool true) hG rfl ?_; simp [slotOf] at h66 h68; simp [execOp, go_sem, h66, h68]
         ·exact fun a W hG _ _ hp => kM 69 rfl hp.1 rfl hG
         ·exact fun a W hG _ hO _ => kM 12 rfl (hO.slot 12 (by kernel_rfl)) rfl hG
         ·exact fun a W hG _ hO _ => kM 13 rfl (hO.slot 13 (by kernel_rfl)) rfl hG
         ·intro a W hG hR hO hp; have h7 := hO.slot 7 (by kernel_rfl); have c0 := keep_cell l0 hG; have c1 := keep_cell l1 hG; have c2 := keep_cell l2 hG; have c3 := keep_cell l3 hG; refine kY (v := lkV s f (some false)) hG rfl ?_; simp [slotOf] at h7; simp [execOp, go_sem, h7, c0, c1, c2, c3]
         ·exact fun a W hG _ hO _ => kM 2 rfl (hO.slot 2 (by kernel_rfl)) rfl hG
         ·exact fun a W hG _ hO _ => kM 9 rfl (hO.slot 9 (by kernel_rfl)) rfl hG
         ·intro a W hG hR hO hp; have h75 : slotOf a 75 = vi r := hp.1; refine kY (v := vi r1) hG rfl ?_; simp [slotOf] at h75; simp [execOp, go_sem, h75, hr1]
         ·intro a W hG hR hO hp; have h74 : slotOf a 74 = .slice (some ⟨ta, tf, none⟩) ts.length c := hp.1; have h76 : slotOf a 76 = vi r1 := hp.2.1; refine kY (v := .pointer (some ⟨ta, tf + r1, none⟩)) hG rfl ?_; simp [slotOf] at h74 h76; simp [execOp, go_sem, h74, h76, hr2]
         ·intro a W hG hR hO hp; have h77 : slotOf a 77 = .pointer (some ⟨ta, tf + r1, none⟩) := hp.1; have c0 := HC1.out W (newer_trans HJ4.out.nw hG); refine kY (v := .slice (some ⟨p1, o1, none⟩) s.cs.length X1.c) hG rfl ?_; simp [slotOf] at h77; simp [execOp, go_sem, h77, c0]
         ·exact fun a W hG _ hO _ => kM 10 rfl (hO.slot 10 (by kernel_rfl)) rfl hG
         ·intro a W hG hR hO hp; have h79 : slotOf a 79 = vi k := hp.1; refine kY (v := vi k1) hG rfl ?_; simp [slotOf] at h79; simp [execOp, go_sem, h79, hk1]
         ·intro a W hG hR hO hp; have h78 : slotOf a 78 = .slice (some ⟨p1, o1, none⟩) s.cs.length X1.c := hp.1; have h80 : slotOf a 80 = vi k1 := hp.2.1; refine kY (v := .pointer (some ⟨p1, o1 + k1, none⟩)) hG rfl ?_; simp [slotOf] at h78 h80; simp [execOp, go_sem, h78, h80, hk2]
         ·intro a W hG hR hO hp; have h81 : slotOf a 81 = .pointer (some ⟨p1, o1 + k1, none⟩) := hp.1; have c0 := HC2.out W (newer_trans HJ4.out.nw hG); refine kY (v := .slice Y1.a Y1.l.length Y1.c) hG rfl ?_; simp [slotOf] at h81; simp [execOp, go_sem, h81, c0]
         ·exact fun a W hG _ hO _ => kM 11 rfl (hO.slot 11 (by kernel_rfl)) rfl hG
         ·intro a W hG hR hO hp
          have h73 : slotOf a 73 = lkV s f (some false) := hp.1
          have h82 : slotOf a 82 = .slice Y1.a Y1.l.length Y1.c := hp.2.1
          have h83 : slotOf a 83 = vi b := hp.2.2.1
          refine wp_enters (f := 82) (args := #[lkV s f (some false), .slice Y1.a Y1.l.length Y1.c, vi b]) ?_ ((HB1.out W (newer_trans HJ4.out.nw hG)).mono ?_)
          ·simp [slotOf] at h73 h82 h83
           simp [go_sem, h73, h82, h83]
          ·rintro e w' ⟨rfl, hb⟩
           exact ⟨_, rfl, _, rfl, rfl, hb, below_next hG hb⟩
         ·intro a W hG hR hO hp; have h72 : slotOf a 72 = vi cv := hp.1; have h84 : slotOf a 84 = vi b1 := hp.2.1; refine kY (v := vi (cv + b1)) hG rfl ?_; simp [slotOf] at h72 h84; simp [execOp, go_sem, h72, h84, hw1]
         ·intro a W hG hR hO hp; have h71 : slotOf a 71 = vi v := hp.1; have h85 : slotOf a 85 = vi (cv + b1) := hp.2.1; refine kY (v := .bool false) hG rfl ?_; simp [slotOf] at h71 h85; simp [execOp, go_sem, h71, h85, q2]
         ·intro a W hG hR hO hp; have h70 : slotOf a 70 = .bool true := hp.1; have h86 : slotOf a 86 = .bool false := hp.2.1; refine kY (v := .bool false) hG rfl ?_; simp [slotOf] at h70 h86; simp [execOp, go_sem, h70, h86]
         ·intro a W hG hR hO hp; have h63 : slotOf a 63 = .bool false := hp.1; have h87 : slotOf a 87 = .bool false := hp.2.1; refine kY (v := .bool false) hG rfl ?_; simp [slotOf] at h63 h87; simp [execOp, go_sem, h63, h87]
         ·exact fun a W hG _ _ hp => kM 88 rfl hp.1 rfl hG
         ·exact fun a W hG _ hO _ => kM 9 rfl (hO.slot 9 (by kernel_rfl)) rfl hG
         ·exact fun a W hG _ hO _ => kM 8 rfl (hO.slot 8 (by kernel_rfl)) rfl hG
         ·intro a W hG hR hO hp; have h90 : slotOf a 90 = vi r := hp.1; have h91 : slotOf a 91 = vi (s.least - 1) := hp.2.1; refine kY (v := .bool false) hG rfl ?_; simp [slotOf] at h90 h91; simp [execOp, go_sem, h90, h91, e1]
         ·exact fun a W hG _ _ hp => kM 92 rfl hp.1 rfl hG
         ·intro a W hG hR hO hp; have h93 : slotOf a 93 = .bool false := hp.1; have h95 : slotOf a 95 = undef := hp.2.1; refine kY (v := .bool false) hG rfl ?_; simp [slotOf] at h93 h95; simp [execOp, go_sem, h93, h95]
         ·exact fun a W hG _ _ hp => kM 96 rfl hp.1 rfl hG
         ·intro a W hG hR hO hp; have h97 : slotOf a 97 = .bool false := hp.1; have h112 : slotOf a 112 = undef := hp.2.1; refine kY (v := .bool false) hG rfl ?_; simp [slotOf] at h97 h112; simp [execOp, go_sem, h97, h112]
         ·intro a W hG hR hO hp; have h89 : slotOf a 89 = .bool false := hp.1; have h113 : slotOf a 113 = .bool false := hp.2.1; refine kY (v := .bool false) hG rfl ?_; simp [slotOf] at h89 h113; simp [execOp, go_sem, h89, h113]
         ·exact fun a W hG _ _ hp => kM 114 rfl hp.1 rfl hG
         ·exact fun a W hG _ hO _ => kM 9 rfl (hO.slot 9 (by kernel_rfl)) rfl hG
         ·exact fun a W hG _ hO _ => kM 8 rfl (hO.slot 8 (by kernel_rfl)) rfl hG
         ·intro a W hG hR hO hp; have h116 : slotOf a 116 = vi r := hp.1; have h117 : slotOf a 117 = vi (s.least - 1) := hp.2.1; refine kY (v := .bool false) hG rfl ?_; simp [slotOf] at h116 h117; simp [execOp, go_sem, h116, h117, e1]
         ·exact fun a W hG _ _ hp => kM 118 rfl hp.1 rfl hG
         ·intro a W hG hR hO hp; have h119 : slotOf a 119 = .bool false := hp.1; have h122 : slotOf a 122 = undef := hp.2.1; refine kY (v := .bool false) hG rfl ?_; simp [slotOf] at h119 h122; simp [execOp, go_sem, h119, h122]
         ·exact fun a W hG _ _ hp => kM 123 rfl hp.1 rfl hG
         ·intro a W hG hR hO hp; have h124 : slotOf a 124 = .bool false := hp.1; have h126 : slotOf a 126 = undef := hp.2.1; refine kY (v := .bool false) hG rfl ?_; simp [slotOf] at h124 h126; simp [execOp, go_sem, h124, h126]
        ·intro wz hG hR
         rintro _ rfl _ rfl _ rfl _ rfl _ rfl _ rfl _ rfl _ rfl _ rfl _ rfl _ rfl _ rfl _ rfl _ rfl _ rfl _ rfl _ rfl _ rfl _ rfl _ rfl _ rfl _ rfl _ rfl _ rfl _ rfl _ rfl _ rfl _ rfl _ rfl _ rfl _ rfl _ rfl _ rfl _ rfl _ rfl _ rfl _ rfl _ rfl _ rfl _ rfl _ rfl _ rfl _ rfl _ rfl _ rfl _ rfl _ rfl _ rfl _ rfl _ rfl _ rfl _ rfl _ rfl _ rfl _ rfl _ rfl _ rfl _ rfl _ rfl _ rfl _ rfl _ rfl _ rfl _ rfl _ rfl _ rfl _ rfl _ rfl _ rfl _ rfl _ rfl _ rfl
         change wpList _ _ _ _ _ _
         simp only [Act.put, List.setIfInBounds_toArray, List.set_cons_zero, List.set_cons_succ]
         have HN := Lib.hid (HJ4.out.next hG)
         clear hG hR HJ4 x1 l0 l1 l2 l3 e0 e2 qk e1
         go_wp2_with fail
         refine ⟨⟨b + 1, by simp, by omega, HE.out, HN.out⟩, ?_⟩
         simp [intOf]
         omega
     case neg =>
      by_cases ql : (r : Int) = s.least - 1
      case pos =>
       have e1 : ((r : Int) == s.least - 1) = true := by have := HN1.out; rw [beq_iff_eq]; omega
       have e4 : ¬ (s.least - 1 <= (k : Int)) := by have := HN1.out; omega
       have HE := Lib.hid (HON.out (HCE.out.2 (by have := HN1.out; omega)))
       clear HFAIL HON HCE
       clear HP1 HP2 q0 ql
       refine wp_words (by kernel_rfl) (region_told_u 72 (by kernel_rfl) (by kernel_rfl) [false, false, false, true, true, true, false, false, false, false, false, false, false, false, false, true, true, true, true, true, true, true, true, true, true, true, true, true, true, true, true, false, false, false, false, false, false, false, false, false, false, false, true, true, true, true, true, true, true, true, true, true, true, true, true, true, true, false, false, false, false, false, false, false, false, false, false, false, false, true, true, false] (fun W => Below w6.heap.size w6 W) newer [vIs (vi r), vIs (.bool false), vIs (.bool false), vU, vU, vU, vIs (.bool false), vIs (.bool false), vIs (vi r), vIs (.bool true), vIs (.bool true), vIs (vi k), vIs (.bool false), vIs (.bool false), vIs (.bool false), vU, vU, vU, vU, vU, vU, vU, vU, vU, vU, vU, vU, vU, vU, vU, vU, vIs (.bool false), vIs (.bool false), vIs (.bool false), vIs (vi r), vIs (vi (s.least - 1)), vIs (.bool true), vIs (.bool true), vIs (vi k), vIs (.bool false), vIs (.bool false), vIs (.bool false), vU, vU, vU, vU, vU, vU, vU, vU, vU, vU, vU, vU, vU, vU, vU, vIs (.bool false), vIs (.bool false), vIs (.bool false), vIs (vi r), vIs (vi (s.least - 1)), vIs (.bool true), vIs (.bool true), vIs (vi k), vIs (vi (s.least - 1)), vIs (.bool false), vIs (.bool false), vIs (.bool false), vU, vU, vIs (.bool false)] (by repeat' first | refine And.intro ?_ ?_ | exact trivial | exact rfl | (intro v W h; obtain rfl : v = _ := h; first | rfl | (simp; done) | (simp [undef]; done))) (by repeat' first | refine And.intro ?_ ?_ | exact trivial | exact (fun h => Bool.noConfusion (show false = true from h)) | exact (fun _ _ => rfl)) (fun h k => newer_trans h k) (pickD_stable _ (by repeat' first | refine And.intro ?_ ?_ | exact trivial | exact vIs_st)) (Below.refl _ w6).drew (Below.refl _ _) ?_ ?_)
       ·refine ⟨.inr ?_, .inr ?_, .inr ?_, .inl rfl, .inl rfl, .inl rfl, .inr ?_, .inr ?_, .inr ?_, .inr ?_, .inr ?_, .inr ?_, .inr ?_, .inr ?_, .inr ?_, .inl rfl, .inl rfl, .inl rfl, .inl rfl, .inl rfl, .inl rfl, .inl rfl, .inl rfl, .inl rfl, .inl rfl, .inl rfl, .inl rfl, .inl rfl, .inl rfl, .inl rfl, .inl rfl, .inr ?_, .inr ?_, .inr ?_, .inr ?_, .inr ?_, .inr ?_, .inr ?_, .inr ?_, .inr ?_, .inr ?_, .inr ?_, .inl rfl, .inl rfl, .inl rfl, .inl rfl, .inl rfl, .inl rfl, .inl rfl, .inl rfl, .inl rfl, .inl rfl, .inl rfl, .inl rfl, .inl rfl, .inl rfl, .inl rfl, .inr ?_, .inr ?_, .inr ?_, .inr ?_, .inr ?_, .inr ?_, .inr ?_, .inr ?_, .inr ?_, .inr ?_, .inr ?_, .inr ?_, .inl rfl, .inl rfl, .inr ?_, trivial⟩
        ·exact fun a W hG _ hO _ => kM 9 rfl (hO.slot 9 (by kernel_rfl)) rfl hG
        ·intro a W hG hR hO hp; have h56 : slotOf a 56 = vi r := hp.1; refine kY (v := .bool false) hG rfl ?_; simp [slotOf] at h56; simp [execOp, go_sem, h56, e0]
        ·exact fun a W hG _ _ hp => kM 57 rfl hp.1 rfl hG
        ·intro a W hG hR hO hp; have h58 : slotOf a 58 = .bool false := hp.1; have h61 : slotOf a 61 = undef := hp.2.1; refine kY (v := .bool false) hG rfl ?_; simp [slotOf] at h58 h61; simp [execOp, go_sem, h58, h61]
        ·exact fun a W hG _ _ hp => kM 62 rfl hp.1 rfl hG
        ·exact fun a W hG _ hO _ => kM 9 rfl (hO.slot 9 (by kernel_rfl)) rfl hG
        ·intro a W hG hR hO hp; have h64 : slotOf a 64 = vi r := hp.1; refine kY (v := .bool true) hG rfl ?_; simp [slotOf] at h64; simp [execOp, go_sem, h64, e2]
        ·exact fun a W hG _ _ hp => kM 65 rfl hp.1 rfl hG
        ·exact fun a W hG _ hO _ => kM 10 rfl (hO.slot 10 (by kernel_rfl)) rfl hG
        ·intro a W hG hR hO hp; have h67 : slotOf a 67 = vi k := hp.1; refine kY (v := .bool false) hG rfl ?_; simp [slotOf] at h67; simp [execOp, go_sem, h67, qk]
        ·intro a W hG hR hO hp; have h66 : slotOf a 66 = .bool true := hp.1; have h68 : slotOf a 68 = .bool false := hp.2.1; refine kY (v := .bool false) hG rfl ?_; simp [slotOf] at h66 h68; simp [execOp, go_sem, h66, h68]
        ·exact fun a W hG _ _ hp => kM 69 rfl hp.1 rfl hG
        ·intro a W hG hR hO hp; have h70 : slotOf a 70 = .bool false := hp.1; have h86 : slotOf a 86 = undef := hp.2.1; refine kY (v := .bool false) hG rfl ?_; simp [slotOf] at h70 h86; simp [execOp, go_sem, h70, h86]
        ·intro a W hG hR hO hp; have h63 : slotOf a 63 = .bool false := hp.1; have h87 : slotOf a 87 = .bool false := hp.2.1; refine kY (v := .bool false) hG rfl ?_; simp [slotOf] at h63 h87; simp [execOp, go_sem, h63, h87]
        ·exact fun a W hG _ _ hp => kM 88 rfl hp.1 rfl hG
        ·exact fun a W hG _ hO _ => kM 9 rfl (hO.slot 9 (by kernel_rfl)) rfl hG
        ·exact fun a W hG _ hO _ => kM 8 rfl (hO.slot 8 (by kernel_rfl)) rfl hG
        ·intro a W hG hR hO hp; have h90 : slotOf a 90 = vi r := hp.1; have h91 : slotOf a 91 = vi (s.least - 1) := hp.2.1; refine kY (v := .bool true) hG rfl ?_; simp [slotOf] at h90 h91; simp [execOp, go_sem, h90, h91, e1]
        ·exact fun a W hG _ _ hp => kM 92 rfl hp.1 rfl hG
        ·exact fun a W hG _ hO _ => kM 10 rfl (hO.slot 10 (by kernel_rfl)) rfl hG
        ·intro a W hG hR hO hp; have h94 : slotOf a 94 = vi k := hp.1; refine kY (v := .bool false) hG rfl ?_; simp [slotOf] at h94; simp [execOp, go_sem, h94, qk]
        ·intro a W hG hR hO hp; have h93 : slotOf a 93 = .bool true := hp.1; have h95 : slotOf a 95 = .bool false := hp.2.1; refine kY (v := .bool false) hG rfl ?_; simp [slotOf] at h93 h95; simp [execOp, go_sem, h93, h95]
        ·exact fun a W hG _ _ hp => kM 96 rfl hp.1 rfl hG
        ·intro a W hG hR hO hp; have h97 : slotOf a 97 = .bool false := hp.1; have h112 : slotOf a 112 = undef := hp.2.1; refine kY (v := .bool false) hG rfl ?_; simp [slotOf] at h97 h112; simp [execOp, go_sem, h97, h112]
        ·intro a W hG hR hO hp; have h89 : slotOf a 89 = .bool false := hp.1; have h113 : slotOf a 113 = .bool false := hp.2.1; refine kY (v := .bool false) hG rfl ?_; simp [slotOf] at h89 h113; simp [execOp, go_sem, h89, h113]
        ·exact fun a W hG _ _ hp => kM 114 rfl hp.1 rfl hG
        ·exact fun a W hG _ hO _ => kM 9 rfl (hO.slot 9 (by kernel_rfl)) rfl hG
        ·exact fun a W hG _ hO _ => kM 8 rfl (hO.slot 8 (by kernel_rfl)) rfl hG
        ·intro a W hG hR hO hp; have h116 : slotOf a 116 = vi r := hp.1; have h117 : slotOf a 117 = vi (s.least - 1) := hp.2.1; refine kY (v := .bool true) hG rfl ?_; simp [slotOf] at h116 h117; simp [execOp, go_sem, h116, h117, e1]
        ·exact fun a W hG _ _ hp => kM 118 rfl hp.1 rfl hG
        ·exact fun a W hG _ hO _ => kM 10 rfl (hO.slot 10 (by kernel_rfl)) rfl hG
        ·exact fun a W hG _ hO _ => kM 8 rfl (hO.slot 8 (by kernel_rfl)) rfl hG
        ·intro a W hG hR hO hp; have h120 : slotOf a 120 = vi k := hp.1; have h121 : slotOf a 121 = vi (s.least - 1) := hp.2.1; refine kY (v := .bool false) hG rfl ?_; simp [slotOf] at h120 h121; simp [execOp, go_sem, h120, h121, e4]
        ·intro a W hG hR hO hp; have h119 : slotOf a 119 = .bool true := hp.1; have h122 : slotOf a 122 = .bool false := hp.2.1; refine kY (v := .bool false) hG rfl ?_; simp [slotOf] at h119 h122; simp [execOp, go_sem, h119, h122]
        ·exact fun a W hG _ _ hp => kM 123 rfl hp.1 rfl hG
        ·intro a W hG hR hO hp; have h124 : slotOf a 124 = .bool false := hp.1; have h126 : slotOf a 126 = undef := hp.2.1; refine kY (v := .bool false) hG rfl ?_; simp [slotOf] at h124 h126; simp [execOp, go_sem, h124, h126]
       ·intro wz hG hR
        rintro _ rfl _ rfl _ rfl _ rfl _ rfl _ rfl _ rfl _ rfl _ rfl _ rfl _ rfl _ rfl _ rfl _ rfl _ rfl _ rfl _ rfl _ rfl _ rfl _ rfl _ rfl _ rfl _ rfl _ rfl _ rfl _ rfl _ rfl _ rfl _ rfl _ rfl _ rfl _ rfl _ rfl _ rfl _ rfl _ rfl _ rfl _ rfl _ rfl _ rfl _ rfl _ rfl _ rfl _ rfl _ rfl _ rfl _ rfl _ rfl _ rfl _ rfl _ rfl _ rfl _ rfl _ rfl _ rfl _ rfl _ rfl _ rfl _ rfl _ rfl _ rfl _ rfl _ rfl _ rfl _ rfl _ rfl _ rfl _ rfl _ rfl _ rfl _ rfl _ rfl
        change wpList _ _ _ _ _ _
        simp only [Act.put, List.setIfInBounds_toArray, List.set_cons_zero, List.set_cons_succ]
        have HN := Lib.hid (HJ4.out.next hG)
        clear hG hR HJ4 x1 l0 l1 l2 l3 e0 e2 qk e1 e4
        go_wp2_with fail
        refine ⟨⟨b + 1, by simp, by omega, HE.out, HN.out⟩, ?_⟩
        simp [intOf]
        omega
      case neg =>
       have e1 : ((r : Int) == s.least - 1) = false := by have := HN1.out; rw [beq_eq_false_iff_ne]; omega
       have HE := Lib.hid (HON.out (HCE.out.2 (by have := HN1.out; omega)))
       clear HFAIL HON HCE
       clear HP1 HP2 q0 ql
       refine wp_words (by kernel_rfl) (region_told_u 72 (by kernel_rfl) (by kernel_rfl) [false, false, false, true, true, true, false, false, false, false, false, false, false, false, false, true, true, true, true, true, true, true, true, true, true, true, true, true, true, true, true, false, false, false, false, false, false, false, true, true, false, false, true, true, true, true, true, true, true, true, true, true, true, true, true, true, true, false, false, false, false, false, false, false, true, true, true, false, false, true, true, false] (fun W => Below w6.heap.size w6 W) newer [vIs (vi r), vIs (.bool false), vIs (.bool false), vU, vU, vU, vIs (.bool false), vIs (.bool false), vIs (vi r), vIs (.bool true), vIs (.bool true), vIs (vi k), vIs (.bool false), vIs (.bool false), vIs (.bool false), vU, vU, vU, vU, vU, vU, vU, vU, vU, vU, vU, vU, vU, vU, vU, vU, vIs (.bool false), vIs (.bool false), vIs (.bool false), vIs (vi r), vIs (vi (s.least - 1)), vIs (.bool false), vIs (.bool false), vU, vU, vIs (.bool false), vIs (.bool false), vU, vU, vU, vU, vU, vU, vU, vU, vU, vU, vU, vU, vU, vU, vU, vIs (.bool false), vIs (.bool false), vIs (.bool false), vIs (vi r), vIs (vi (s.least - 1)), vIs (.bool false), vIs (.bool false), vU, vU, vU, vIs (.bool false), vIs (.bool false), vU, vU, vIs (.bool false)] (by repeat' first | refine And.intro ?_ ?_ | exact trivial | exact rfl | (intro v W h; obtain rfl : v = _ := h; first | rfl | (simp; done) | (simp [undef]; done))) (by repeat' first | refine And.intro ?_ ?_ | exact trivial | exact (fun h => Bool.noConfusion (show false = true from h)) | exact (fun _ _ => rfl)) (fun h k => newer_trans h k) (pickD_stable _ (by repeat' first | refine And.intro ?_ ?_ | exact trivial | exact vIs_st)) (Below.refl _ w6).drew (Below.refl _ _) ?_ ?_)
       ·refine ⟨.inr ?_, .inr ?_, .inr ?_, .inl rfl, .inl rfl, .inl rfl, .inr ?_, .inr ?_, .inr ?_, .inr ?_, .inr ?_, .inr ?_, .inr ?_, .inr ?_, .inr ?_, .inl rfl, .inl rfl, .inl rfl, .inl rfl, .inl rfl, .inl rfl, .inl rfl, .inl rfl, .inl rfl, .inl rfl, .inl rfl, .inl rfl, .inl rfl, .inl rfl, .inl rfl, .inl rfl, .inr ?_, .inr ?_, .inr ?_, .inr ?_, .inr ?_, .inr ?_, .inr ?_, .inl rfl, .inl rfl, .inr ?_, .inr ?_, .inl rfl, .inl rfl, .inl rfl, .inl rfl, .inl rfl, .inl rfl, .inl rfl, .inl rfl, .inl rfl, .inl rfl, .inl rfl, .inl rfl, .inl rfl, .inl rfl, .inl rfl, .inr ?_, .inr ?_, .inr ?_, .inr ?_, .inr ?_, .inr ?_, .inr ?_, .inl rfl, .inl rfl, .inl rfl, .inr ?_, .inr ?_, .inl rfl, .inl rfl, .inr ?_, trivial⟩
        ·exact fun a W hG _ hO _ => kM 9 rfl (hO.slot 9 (by kernel_rfl)) rfl hG
        ·intro a W hG hR hO hp; have h56 : slotOf a 56 = vi r := hp.1; refine kY (v := .bool false) hG rfl ?_; simp [slotOf] at h56; simp [execOp, go_sem, h56, e0]
        ·exact fun a W hG _ _ hp => kM 57 rfl hp.1 rfl hG
        ·intro a W hG hR hO hp; have h58 : slotOf a 58 = .bool false := hp.1; have h61 : slotOf a 61 = undef := hp.2.1; refine kY (v := .bool false) hG rfl ?_; simp [slotOf] at h58 h61; simp [execOp, go_sem, h58, h61]
        ·exact fun a W hG _ _ hp => kM 62 rfl hp.1 rfl hG
        ·exact fun a W hG _ hO _ => kM 9 rfl (hO.slot 9 (by kernel_rfl)) rfl hG
        ·intro a W hG hR hO hp; have h64 : slotOf a 64 = vi r := hp.1; refine kY (v := .bool true) hG rfl ?_; simp [slotOf] at h64; simp [execOp, go_sem, h64, e2]
        ·exact fun a W hG _ _ hp => kM 65 rfl hp.1 rfl hG
        ·exact fun a W hG _ hO _ => kM 10 rfl (hO.slot 10 (by kernel_rfl)) rfl hG
        ·intro a W hG hR hO hp; have h67 : slotOf a 67 = vi k := hp.1; refine kY (v := .bool false) hG rfl ?_; simp [slotOf] at h67; simp [execOp, go_sem, h67, qk]
        ·intro a W hG hR hO hp; have h66 : slotOf a 66 = .bool true := hp.1; have h68 : slotOf a 68 = .bool false := hp.2.1; refine kY (v := .bool false) hG rfl ?_; simp [slotOf] at h66 h68; simp [execOp, go_sem, h66, h68]
        ·exact fun a W hG _ _ hp => kM 69 rfl hp.1 rfl hG
        ·intro a W hG hR hO hp; have h70 : slotOf a 70 = .bool false := hp.1; have h86 : slotOf a 86 = undef := hp.2.1; refine kY (v := .bool false) hG rfl ?_; simp [slotOf] at h70 h86; simp [execOp, go_sem, h70, h86]
        ·intro a W hG hR hO hp; have h63 : slotOf a 63 = .bool false := hp.1; have h87 : slotOf a 87 = .bool false := hp.2.1; refine kY (v := .bool false) hG rfl ?_; simp [slotOf] at h63 h87; simp [execOp, go_sem, h63, h87]
        ·exact fun a W hG _ _ hp => kM 88 rfl hp.1 rfl hG
        ·exact fun a W hG _ hO _ => kM 9 rfl (hO.slot 9 (by kernel_rfl)) rfl hG
        ·exact fun a W hG _ hO _ => kM 8 rfl (hO.slot 8 (by kernel_rfl)) rfl hG
        ·intro a W hG hR hO hp; have h90 : slotOf a 90 = vi r := hp.1; have h91 : slotOf a 91 = vi (s.least - 1) := hp.2.1; refine kY (v := .bool false) hG rfl ?_; simp [slotOf] at h90 h91; simp [execOp, go_sem, h90, h91, e1]
        ·exact fun a W hG _ _ hp => kM 92 rfl hp.1 rfl hG
        ·intro a W hG hR hO hp; have h93 : slotOf a 93 = .bool false := hp.1; have h95 : slotOf a 95 = undef := hp.2.1; refine kY (v := .bool false) hG rfl ?_; simp [slotOf] at h93 h95; simp [execOp, go_sem, h93, h95]
        ·exact fun a W hG _ _ hp => kM 96 rfl hp.1 rfl hG
        ·intro a W hG hR hO hp; have h97 : slotOf a 97 = .bool false := hp.1; have h112 : slotOf a 112 = undef := hp.2.1; refine kY (v := .bool false) hG rfl ?_; simp [slotOf] at h97 h112; simp [execOp, go_sem, h97, h112]
        ·intro a W hG hR hO hp; have h89 : slotOf a 89 = .bool false := hp.1; have h113 : slotOf a 113 = .bool false := hp.2.1; refine kY (v := .bool false) hG rfl ?_; simp [slotOf] at h89 h113; simp [execOp, go_sem, h89, h113]
        ·exact fun a W hG _ _ hp => kM 114 rfl hp.1 rfl hG
        ·exact fun a W hG _ hO _ => kM 9 rfl (hO.slot 9 (by kernel_rfl)) rfl hG
        ·exact fun a W hG _ hO _ => kM 8 rfl (hO.slot 8 (by kernel_rfl)) rfl hG
        ·intro a W hG hR hO hp; have h116 : slotOf a 116 = vi r := hp.1; have h117 : slotOf a 117 = vi (s.least - 1) := hp.2.1; refine kY (v := .bool false) hG rfl ?_; simp [slotOf] at h116 h117; simp [execOp, go_sem, h116, h117, e1]
        ·exact fun a W hG _ _ hp => kM 118 rfl hp.1 rfl hG
        ·intro a W hG hR hO hp; have h119 : slotOf a 119 = .bool false := hp.1; have h122 : slotOf a 122 = undef := hp.2.1; refine kY (v := .bool false) hG rfl ?_; simp [slotOf] at h119 h122; simp [execOp, go_sem, h119, h122]
        ·exact fun a W hG _ _ hp => kM 123 rfl hp.1 rfl hG
        ·intro a W hG hR hO hp; have h124 : slotOf a 124 = .bool false := hp.1; have h126 : slotOf a 126 = undef := hp.2.1; refine kY (v := .bool false) hG rfl ?_; simp [slotOf] at h124 h126; simp [execOp, go_sem, h124, h126]
       ·intro wz hG hR
        rintro _ rfl _ rfl _ rfl _ rfl _ rfl _ rfl _ rfl _ rfl _ rfl _ rfl _ rfl _ rfl _ rfl _ rfl _ rfl _ rfl _ rfl _ rfl _ rfl _ rfl _ rfl _ rfl _ rfl _ rfl _ rfl _ rfl _ rfl _ rfl _ rfl _ rfl _ rfl _ rfl _ rfl _ rfl _ rfl _ rfl _ rfl _ rfl _ rfl _ rfl _ rfl _ rfl _ rfl _ rfl _ rfl _ rfl _ rfl _ rfl _ rfl _ rfl _ rfl _ rfl _ rfl _ rfl _ rfl _ rfl _ rfl _ rfl _ rfl _ rfl _ rfl _ rfl _ rfl _ rfl _ rfl _ rfl _ rfl _ rfl _ rfl _ rfl _ rfl _ rfl
        change wpList _ _ _ _ _ _
        simp only [Act.put, List.setIfInBounds_toArray, List.set_cons_zero, List.set_cons_succ]
        have HN := Lib.hid (HJ4.out.next hG)
        clear hG hR HJ4 x1 l0 l1 l2 l3 e0 e2 qk e1
        go_wp2_with fail
        refine ⟨⟨b + 1, by simp, by omega, HE.out, HN.out⟩, ?_⟩
        simp [intOf]
        omega
end

end Go.Proofs.Ytkenokpobbichaa
