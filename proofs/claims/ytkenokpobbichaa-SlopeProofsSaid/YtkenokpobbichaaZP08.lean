/- What the last text of this chain needs: CH, CL, CC. -/
import Derived.Test.YtkenokpobbichaaZP07
namespace Go.Proofs.Ytkenokpobbichaa
section
open Go.RowKit Go.Shelf Go.Deep
theorem make_rw (W : World) (n : Nat) (hn : n <= 1000) : (Instr.makeSlice 89 (.int .i64 (n : Int)) (.int .i64 (n : Int))).run Try.prog W = .ok (.slice (some ⟨W.heap.size, 0, none⟩) n n) (W.alloc (.cells (madeCells #[.slice none 0 0] n) 25)) := run_make_row' 89 25 (.slice none 0 0) 24 Try.underlying89 info_l25 rfl .i64 .i64 n (by omega) (by omega) W
theorem made_own (W : World) (n : Nat) (hn : n <= 1000) : (W.alloc (.cells (madeCells #[.slice none 0 0] n) 25)).ownsRow W.heap.size 25 1 (.slice (some ⟨W.heap.size, 0, none⟩) n n) n (List.replicate n (.slice none 0 0)) :=
 ⟨by simp, .inr ⟨W.heap.size, n, madeCells #[.slice none 0 0] n, rfl, Nat.le_refl _, Whole.made W 25 (madeCells #[.slice none 0 0] n), Nat.le_refl _, by unfold maxLen; omega, by rw [size_madeCells, Nat.mul_one], by rw [toList_madeCells_one, Nat.mul_one, List.take_of_length_le (by simp)]⟩⟩
theorem nil_row (W : World) (n : Nat) (hn : n <= 1000) : LnQ (List.replicate n ⟨[], none, 0⟩) (List.replicate n (⟨[], none, 0⟩ : Ln)).length (List.replicate n ⟨[], none, 0⟩) (some ⟨W.heap.size, 0, none⟩) n W (W.alloc (.cells (madeCells #[.slice none 0 0] n) 25)) :=
 ⟨newer_allocH _ _, by
  have h := made_own W n hn
  rw [flat_lnL, List.map_replicate, List.length_replicate]
  exact h, fun x hx => by
  rw [List.eq_of_mem_replicate hx]
  exact ⟨rfl, .inl ⟨rfl, rfl⟩⟩, by simp, rfl, fun p q x y hp _ _ _ => by
  rw [List.eq_of_mem_replicate (List.mem_of_getElem? hp)]⟩
theorem behind_congr {big : Int} {n b : Nat} {row row' : Nat -> Int} (hb : b < n) (h : ∀ x, x < n -> row x = row' x) : behindN big n row b = behindN big n row' b := by
 unfold behindN
 congr 1
 exact List.map_congr_left fun x hx => h x ((mem_near hb).1 hx).1
def proofOut (s : Sd) (f : Int) (w : World) (e : Ending) (w' : World) : Prop := if enoughN s f = 0 then ∃ (xs : List Rw) (A : Option Addr) (c : Nat), e = .returned (.tuple #[.slice A xs.length c, vi 0]) /\ xs.map Rw.d = tabD s f /\ TbOwn w.heap.size xs A c w' /\ newer w w' else e = .returned (.tuple #[.slice none 0 0, vi (enoughN s f)]) /\ newer w w'
set_option maxRecDepth 100000 in
set_option maxHeartbeats 2000000 in
theorem proof_any (s : Sm) (f : Int) (w : World) (hok : SmOk s w) (few : SmFew s) : Calls Try.prog 49 #[smV s, vi f] w (proofOut s.sd f w) := by
 have hnw := newer_allocH w (.cells (smC s) 37)
 have hxb := Whole.made w 37 (smC s)
 obtain ⟨w1, hw1⟩ : ∃ x, x = w.alloc (.cells (smC s) 37) := ⟨_, rfl⟩
 rw [<- hw1] at hnw hxb
 have HW := Lib.hid hw1
 have HA : Hid (Calls Try.prog 70 #[smV s, vi f] w1 fun e w' => e = .returned (vi (enoughN s.sd f)) /\ newer w1 w') := Lib.hid (enough_any s f w1 (hok.next hnw) few)
 have H1 := Lib.hid (And.intro hnw hxb)
 have HOK := Lib.hid hok
 have HZ : Hid (enoughN s.sd f = 0 -> SdOk s.sd /\ 0 <= f /\ f <= 10000) := Lib.hid (fun h => have h2 := enough_zero h; ⟨h2.1, h2.2.1, h2.2.2.1⟩)
 unfold proofOut
 have x0 := hxb.at 0 (v := .slice s.a s.cs.length s.c) rfl
 have x1 := hxb.at 1 (v := vi s.least) rfl
 obtain ⟨a, ha⟩ : ∃ a, a = enoughN s.sd f := ⟨_, rfl⟩
 rw [<- ha] at HA HZ ⊢
 clear ha hok few hw1 hnw hxb
 by_cases hz : a = 0
 case neg =>
  simp only [if_neg hz]
  have hb1 : (a == 0) = false := by simpa using hz
  have hb2 : (a != 0) = true := by simpa using hz
  clear hz
  go_enter Try.func49, Try.ntmps49
  go_upto_region 1 with fail
  rw [<- HW.out]
  go_wp2_with fail
  refine (HA.out).mono ?_
  rintro e w2 ⟨rfl, hb⟩
  have HN := Lib.hid (newer_trans H1.out.1 hb)
  clear H1 hb x0 x1
  go_wp2_with fail
  exact bodyPost_ret (v := .tuple #[.slice none 0 0, vi a]) (by simp [results, Try.results49, go_sem]) rfl ⟨rfl, HN.out⟩
 case pos =>
 subst hz
 simp only [if_true]
 obtain ⟨hs, f0, f1⟩ := HZ.out rfl
 have HS := Lib.hid (And.intro hs (And.intro f0 f1))
 obtain ⟨x, hx⟩ := get_of_lt (l := s.cs) (k := 0) (by have := hs.cols; rw [sd_len] at this; omega)
 obtain ⟨n, hn⟩ : ∃ n, n = s.sd.n := ⟨_, rfl⟩
 obtain ⟨K, hK⟩ : ∃ K, K = s.sd.K := ⟨_, rfl⟩
 obtain ⟨cF_, hcF⟩ : ∃ g, g = cS s.sd f := ⟨_, rfl⟩
 obtain ⟨T, hT⟩ : ∃ T, T = tabT cF_ bigN farN n K := ⟨_, rfl⟩
 have HBD : Hid (∀ W, newer w W -> Calls Try.prog 81 #[lkV s f (some false)] W fun e w' => e = .returned (vi n) /\ newer W w') := Lib.hid (fun W hW => by
  have h := beds_any s f (some false) x W (HOK.out.next hW) hx
  rw [hn, sd_n hx]
  exact h)
 have HN1 : Hid (1 <= n /\ n <= 5 /\ (K : Int) = s.least /\ 1 <= K /\ K <= 4 /\ 1 <= s.cs.length /\ s.cs.length <= 12) := Lib.hid (by
  have e1 := hs.beds
  have e2 := hs.least
  have e3 := hs.cols
  rw [sd_len] at e3
  have e5 : s.sd.least = s.least := rfl
  have e6 : s.sd.K = s.sd.least.toNat := rfl
  rw [e5] at e2 e6
  rw [hn, hK]
  omega)
 have HCO : Hid (∀ (k b : Nat) W, k < s.cs.length -> b < n -> newer w W -> Calls Try.prog 84 #[lkV s f (some false), vi k, vi b] W fun e w' => e = .returned (vi (cF_ k b)) /\ newer W w') := Lib.hid (fun k b W hk hb hW => by
  obtain ⟨x, bd, g1, g2, g3, g4, g5⟩ := sm_bed HS.out.1 hk (hn ▸ hb)
  rw [hcF, cS_is g4]
  exact cost_any s f (some false) k b x bd W (HOK.out.next hW) g1 g2 g5 HS.out.2.1 (by have := HS.out.2.2; omega))
 have HTB : Hid (∀ r k b : Nat, r < K -> k < s.cs.length -> b < n -> -1000000000000000 <= T r k b /\ T r k b <= 1000000000000000) := Lib.hid (fun r k b hr hk hb => by
  have hcb : ∀ k b, -1300100000 <= cF_ k b /\ cF_ k b <= 1300100000 := by
   rw [hcF]
   exact cS_bd HS.out.1 HS.out.2.1 (by have := HS.out.2.2; omega)
  have h1 := HN1.out
  have hbig : ((s.cs.length + 1 : Nat) : Int) * 1300100000 + farN <= bigN := by
   show ((s.cs.length + 1 : Nat) : Int) * 1300100000 + 100000000000000 <= 1000000000000000
   omega
  have hbig2 : ((k + 1 : Nat) : Int) * 1300100000 + farN <= bigN := by
   show ((k + 1 : Nat) : Int) * 1300100000 + 100000000000000 <= 1000000000000000
   omega
  rw [hT]
  exact real_bd hcb (by decide) (by decide) hbig2 (tabT_real hcb (by decide) (by decide) (by omega) hbig r hr k hk b hb))
 have HDO : Hid (∀ xs : List Rw, FD T s.cs.length xs K (fun _ _ => n) -> xs.map Rw.d = tabD s.sd f) := Lib.hid (fun xs h => by
  rw [h.done, hT, hcF, hK, hn]
  unfold tabD
  rw [sd_len])
 obtain ⟨i89, hj0, hy0, hy1, hy2⟩ := info_parts info_l89
 have HI9 := Lib.hid (And.intro hj0 (And.intro hy0 (And.intro hy1 hy2)))
 clear hj0 hy0 hy1 hy2 hs f0 f1 HZ hx
 go_enter Try.func49, Try.ntmps49
 go_upto_region 1 with fail
 rw [<- HW.out]
 go_wp2_with fail
 refine (HA.out).mono ?_
 rintro e w2 ⟨rfl, hb⟩
 have H2 := Lib.hid (And.intro (newer_trans H1.out.1 hb) (H1.out.2.below hb H1.out.2.lt))
 clear H1 hb x0 x1 HA
 have x0 := H2.out.2.at 0 (v := .slice s.a s.cs.length s.c) rfl
 have x1 := H2.out.2.at 1 (v := vi s.least) rfl
 go_wp2_with fail
 refine (below_any s f w2).mono ?_
 rintro e w3 ⟨rfl, hb⟩
 have HF : Hid (newer w (w3.alloc (.cells (lkC s f (some false)) 115)) /\ Whole (w3.alloc (.cells (lkC s f (some false)) 115)) w.heap.size 37 (smC s) /\ Whole (w3.alloc (.cells (lkC s f (some false)) 115)) w3.heap.size 115 (lkC s f (some false))) := Lib.hid (by
  have e1 := newer_allocH w3 (.cells (lkC s f (some false)) 115)
  have e2 := newer_trans hb e1
  exact ⟨newer_trans H2.out.1 e2, H2.out.2.below e2 H2.out.2.lt, Whole.made _ _ _⟩)
 clear H2 hb x0 x1
 obtain ⟨lb, hlb⟩ : ∃ lb, lb = w3.heap.size := ⟨_, rfl⟩
 go_upto_region 5 with fail
 rw [<- hlb] at HF ⊢
 refine genQ (fun X => newer w X /\ Whole X w.heap.size 37 (smC s) /\ Whole X lb 115 (lkC s f (some false))) HF.out ?_
 clear HF hlb
 rintro w4 ⟨p1, p2, p3⟩
 have H4 : Hid (PfJ s f w lb T [] none 0 0 (fun _ _ => n) w4) := Lib.hid ⟨⟨p1, ⟨⟨rfl, .inl ⟨rfl, rfl⟩⟩, fun r hr => by simp at hr, fun r hr => by simp at hr, fun p q i j r t x y hp => by simp at hp⟩, fun p q r t hp => by simp at hp⟩, p2, p3, ⟨rfl, fun r x hx => by simp at hx⟩⟩
 have x1 := p2.at 1 (v := vi s.least) rfl
 have hl1 : 1 <= s.least := by have := HN1.out; omega
 have hl4 : s.least <= 4 := by have := HN1.out; omega
 clear p1 p2 p3
 go_wp2_with fail
 go_loopw [8, 24] (fun s8 s24 wr => ∃ (r : Nat) (xs : List Rw) (A : Option Addr) (c : Nat), s24 = vi r /\ r <= K /\ s8 = .slice A xs.length c /\ PfJ s f w lb T xs A c r (fun _ _ => n) wr) (fun _ s24 _ => K - (intOf s24).toNat)
 case atStart => exact ⟨0, [], none, 0, rfl, Nat.zero_le _, rfl, H4.out⟩
 case round =>
  obtain ⟨r, xs, A, c, rfl, hr, rfl, hj⟩ := hrel
  clear H4 x1
  have x0 := hj.sx.at 0 (v := .slice s.a s.cs.length s.c) rfl
  have x1 := hj.sx.at 1 (v := vi s.least) rfl
  have HJ1 := Lib.hid hj
  clear hj
  by_cases hlt : r < K
  case neg =>
   obtain rfl : r = K := by omega
   have hltI : ¬ ((r : Int) < s.least) := by have := HN1.out; omega
   have HE := Lib.hid (HDO.out xs HJ1.out.fd)
   go_wp2_with fail
   exact bodyPost_ret (v := .tuple #[.slice A xs.length c, vi 0]) (by simp [results, Try.results49, go_sem]) rfl ⟨xs, A, c, rfl, HE.out, HJ1.out.tp.tb, HJ1.out.tp.nw⟩
  case pos =>
  have hltI : (r : Int) < s.least := by have := HN1.out; omega
  have hrb : (r : Int) <= 3 := by have := HN1.out; omega
  have hcb : (s.cs.length : Int) <= 12 := by have := HN1.out; omega
  have hmk := fun (W : World) => make_rw W s.cs.length (by have := HN1.out; omega)
  have hb1 := newer_allocH (wr.alloc (.cells (madeCells #[.slice none 0 0] s.cs.length) 25)) (.cells #[.slice (some ⟨wr.heap.size, 0, none⟩) s.cs.length s.cs.length] 89)
  have HLQ := Lib.hid ((nil_row wr s.cs.length (by have := HN1.out; omega)).next hb1)
  have HCW : Hid (((wr.alloc (.cells (madeCells #[.slice none 0 0] s.cs.length) 25)).alloc (.cells #[.slice (some ⟨wr.heap.size, 0, none⟩) s.cs.length s.cs.length] 89)).cell? ⟨wr.heap.size + 1, 0, none⟩ = some (.slice (some ⟨wr.heap.size, 0, none⟩) s.cs.length s.cs.length)) := Lib.hid (by
   have h := (Whole.made (wr.alloc (.cells (madeCells #[.slice none 0 0] s.cs.length) 25)) 89 #[.slice (some ⟨wr.heap.size, 0, none⟩) s.cs.length s.cs.length]).at 0 (v := .slice (some ⟨wr.heap.size, 0, none⟩) s.cs.length s.cs.length) rfl
   rw [World.size_alloc] at h
   exact h)
  have HJ2 := Lib.hid (HJ1.out.next HLQ.out.nw)
  have HXL : Hid (xs.length <= 4) := Lib.hid (by have := HJ1.out.fd.ln; have := HN1.out; omega)
  have HADD : Hid (∀ (g2 c2 : Nat) (w5 : World), w5.ownsRow w.heap.size 89 1 (.slice (some ⟨g2, 0, none⟩) (xs.length + 1) c2) (xs.length + 1) (xs.flatMap rwL ++ [.slice (some ⟨wr.heap.size, 0, none⟩) s.cs.length s.cs.length]) -> ((A = some ⟨g2, 0, none⟩ /\ c2 = c /\ ((wr.alloc (.cells (madeCells #[.slice none 0 0] s.cs.length) 25)).alloc (.cells #[.slice (some ⟨wr.heap.size, 0, none⟩) s.cs.length s.cs.length] 89)).grownBy w5 (some g2)) ∨ (((wr.alloc (.cells (madeCells #[.slice none 0 0] s.cs.length) 25)).alloc (.cells #[.slice (some ⟨wr.heap.size, 0, none⟩) s.cs.length s.cs.length] 89)).heap.size <= g2 /\ ((wr.alloc (.cells (madeCells #[.slice none 0 0] s.cs.length) 25)).alloc (.cells #[.slice (some ⟨wr.heap.size, 0, none⟩) s.cs.length s.cs.length] 89)).grownBy w5 none)) -> PfJ s f w lb T (xs ++ [⟨List.replicate s.cs.length ⟨[], none, 0⟩, some ⟨wr.heap.size, 0, none⟩, s.cs.length⟩]) (some ⟨g2, 0, none⟩) c2 (r + 1) (cntP r 0 0 n) w5) := Lib.hid (fun g2 c2 w5 hown hwh => by
   have hq := HLQ.out
   have e : (List.replicate s.cs.length (⟨[], none, 0⟩ : Ln)).length = s.cs.length := List.length_replicate
   have h1 := HJ1.out.tp.row HLQ.out.nw hq (W' := w5) (g2 := g2) (c2 := c2) (by rw [e]; exact hown) hwh
   have hgr : ((wr.alloc (.cells (madeCells #[.slice none 0 0] s.cs.length) 25)).alloc (.cells #[.slice (some ⟨wr.heap.size, 0, none⟩) s.cs.length s.cs.length] 89)).grownBy w5 (Value.slice A xs.length c).ownBlock := by
    rcases hwh with ⟨h1, _, h3⟩ | ⟨_, h3⟩
    ·rw [h1]; exact h3
    ·exact h3.but _
   exact ⟨h1, HJ2.out.sx.grown hgr (fun e => own_ne HJ2.out.tp.tb.own HJ2.out.sx (by decide) e.symm), HJ2.out.lx.grown hgr (fun e => own_ne HJ2.out.tp.tb.own HJ2.out.lx (by decide) e.symm), HJ1.out.fd.row _ _⟩)
  clear hb1
  go_wp2_with (at_builtin; go_loud ((refine wpList_plain rfl fun _ hK => wp_append_one (.tmp 27) (.tmp 32) 87 rfl w.heap.size 89 i89 (.slice none 0 0) 24 Try.underlying87 HI9.out.1 HI9.out.2.1 HI9.out.2.2.1 HI9.out.2.2.2 rfl A xs.length c (xs.flatMap rwL) rfl HJ2.out.tp.tb.own ⟨wr.heap.size + 1, 0, none⟩ 1 (.slice (some ⟨wr.heap.size, 0, none⟩) s.cs.length s.cs.length) rfl HCW.out rfl (by have := HXL.out; unfold maxLen; omega) (by have := HXL.out; omega) HJ2.out.tp.nw.size fun g2 c2 w5 hown hwh => hK _ _ ?_); have HE := Lib.hid (HADD.out g2 c2 w5 hown hwh); have y0 := HE.out.sx.at 0 (v := .slice s.a s.cs.length s.c) rfl; have y1 := HE.out.sx.at 1 (v := vi s.least) rfl; clear hown hwh x0 x1))
  have HLE : Hid (xs.length = r) := Lib.hid HJ1.out.fd.ln
  obtain ⟨zs0, hzs⟩ : ∃ z, z = xs ++ [⟨List.replicate s.cs.length ⟨[], none, 0⟩, some ⟨wr.heap.size, 0, none⟩, s.cs.length⟩] := ⟨_, rfl⟩
  rw [<- hzs] at HE
  clear hzs HADD HCW HLQ HJ1 HJ2 HXL hmk
  go_loopw [37] (fun s37 wr => ∃ (k : Nat) (zs : List Rw), s37 = vi k /\ k <= s.cs.length /\ PfJ s f w lb T zs (some ⟨g2, 0, none⟩) c2 (r + 1) (cntP r k 0 n) wr) (fun s37 _ => s.cs.length - (intOf s37).toNat)
  case atStart => exact ⟨0, zs0, rfl, Nat.zero_le _, HE.out⟩
  case round =>
   obtain ⟨k, zs, rfl, hk, hj⟩ := hrel
   clear HE y0 y1
   have x1 := hj.sx.at 1 (v := vi s.least) rfl
   have l0 := hj.lx.at 0 (v := .slice s.a s.cs.length s.c) rfl
   have l1 := hj.lx.at 1 (v := vi s.least) rfl
   have l2 := hj.lx.at 2 (v := vi f) rfl
   have l3 := hj.lx.at 3 (v := .func (.func (trF (some false))) #[] #[]) rfl
   have HJ3 := Lib.hid hj
   clear hj
   by_cases hltk : k < s.cs.length
   case neg =>
    have hltkI : ¬ ((k : Int) < s.cs.length) := by omega
    have HE : Hid (PfJ s f w lb T zs (some ⟨g2, 0, none⟩) c2 (r + 1) (fun _ _ => n) wr) := Lib.hid ⟨HJ3.out.tp, HJ3.out.sx, HJ3.out.lx, HJ3.out.fd.congr (fun r' i h1 h2 => by unfold cntP; rw [if_pos (by omega)])⟩
    have HL2 : Hid (xs.length + 1 = zs.length) := Lib.hid (by have := HJ3.out.fd.ln; have := HLE.out; omega)
    go_wp2_with fail
    refine ⟨⟨r + 1, zs, some ⟨g2, 0, none⟩, c2, by simp, by omega, by rw [<- HL2.out] <;> simp, HE.out⟩, ?_⟩
    simp [intOf]
    omega
   case pos =>
   have hltkI : (k : Int) < s.cs.length := by omega
   have hkb : (k : Int) <= 11 := by have := HN1.out; omega
   go_wp2_with fail
   refine (HBD.out wr HJ3.out.tp.nw).mono ?_
   rintro e w6 ⟨rfl, hb⟩
   have HJ4 := Lib.hid (HJ3.out.next hb)
   clear hb HJ3 x1 l0 l1 l2 l3
   have hnb : (n : Int) <= 5 := by have := HN1.out; omega
   go_wp2_with fail
   go_loopw [42] (fun s42 wr => ∃ (b : Nat) (zs : List Rw), s42 = vi b /\ b <= n /\ PfJ s f w lb T zs (some ⟨g2, 0, none⟩) c2 (r + 1) (cntP r k b n) wr) (fun s42 _ => n - (intOf s42).toNat)
   case atStart => exact ⟨0, zs, rfl, Nat.zero_le _, HJ4.out⟩
   case round =>
    clear HJ4
    obtain ⟨b, us, rfl, hb, hj⟩ := hrel
    have x1 := hj.sx.at 1 (v := vi s.least) rfl
    have l0 := hj.lx.at 0 (v := .slice s.a s.cs.length s.c) rfl
    have l1 := hj.lx.at 1 (v := vi s.least) rfl
    have l2 := hj.lx.at 2 (v := vi f) rfl
    have l3 := hj.lx.at 3 (v := .func (.func (trF (some false))) #[] #[]) rfl
    have HJ5 := Lib.hid hj
    clear hj
    by_cases hltb : b < n
    case neg =>
     have hltbI : ¬ ((b : Int) < n) := by omega
     have HE : Hid (PfJ s f w lb T us (some ⟨g2, 0, none⟩) c2 (r + 1) (cntP r (k + 1) 0 n) wr) := Lib.hid ⟨HJ5.out.tp, HJ5.out.sx, HJ5.out.lx, HJ5.out.fd.congr (fun r' i h1 h2 => by
      obtain rfl : b = n := by omega
      unfold cntP
      by_cases h3 : r' < r ∨ (r' = r /\ i < k)
      ·rw [if_pos h3, if_pos (by omega)]
      ·rw [if_neg h3]
       by_cases h4 : r' = r /\ i = k
       ·rw [if_pos h4, if_pos (by omega)]
       ·rw [if_neg h4, if_neg (by omega)]
        split <;> rfl)⟩
     go_wp2_with fail
     refine ⟨⟨k + 1, us, by simp, by omega, HE.out⟩, ?_⟩
     simp [intOf]
     omega
    case pos =>
    have hltbI : (b : Int) < n := by omega
    have hbb : (b : Int) <= 4 := by have := HN1.out; omega
    have HROW : Hid (∀ r' k' : Nat, r' < r + 1 -> k' < s.cs.length -> cntP r k b n r' k' = n -> ∃ (x : Rw) (y : Ln) (g : Nat), (∀ W, newer wr W -> W.cell? ⟨g2, r', none⟩ = some (.slice (some ⟨g, 0, none⟩) s.cs.length x.c)) /\ (∀ W, newer wr W -> W.cell? ⟨g, k', none⟩ = some (.slice y.a y.l.length y.c)) /\ ∀ W, newer wr W -> Calls Try.prog 82 #[lkV s f (some false), .slice y.a y.l.length y.c, vi b] W fun e w' => e = .returned (vi (behindN bigN n (T r' k') b)) /\ newer W w') := Lib.hid (fun r' k' hr' hk' hcn => by
     have hto := HJ5.out.tp.tb.ok
     obtain ⟨x, hx⟩ := get_of_lt (l := us) (k := r') (by rw [HJ5.out.fd.ln]; exact hr')
     obtain ⟨h1, ⟨g, hg⟩, h3⟩ := HJ5.out.fd.rw_ r' x hx
     obtain ⟨y, hy⟩ := get_of_lt (l := x.ls) (k := k') (by omega)
     have hyl := h3 k' y hy
     rw [hcn] at hyl
     have hmx := List.mem_of_getElem? hx
     have hmy := List.mem_of_getElem? hy
     have hll : y.l.length = n := by rw [hyl]; simp
     obtain ⟨p1, o1, e1, c1⟩ := rwAll hto.rows (ne_nil_of_get hx)
     injection e1 with e1
     injection e1 with e1 e1'
     subst e1
     subst e1'
     obtain ⟨p2, o2, e2, c3⟩ := lnAll (hto.lss x hmx) (ne_nil_of_get hy)
     rw [hg] at e2
     injection e2 with e2
     injection e2 with e2 e2'
     subst e2
     subst e2'
     refine ⟨x, y, g, fun W hW => ?_, fun W hW => ?_, fun W hW => ?_⟩
     ·have h := c1 r' x hx W hW
      rw [hg, h1] at h
      simpa using h
     ·simpa using c3 k' y hy W hW
     ·have h := behind_any s f (some false) y.l y.a y.c b W (HOK.out.next (newer_trans HJ5.out.tp.nw hW)) HS.out.1 (hn ▸ hltb) (hll.trans hn) ((hto.next hW).nums x hmx y hmy)
      rw [<- hn] at h
      rw [behind_congr (row' := T r' k') hltb (fun x hx => by rw [hyl]; simp [iAt, List.getElem?_range hx])] at h
      exact h)
    by_cases q0 : r = 0
    case pos =>
     by_cases qk : 0 < k
     case pos =>
      by_cases ql : r = K - 1
      case pos =>
       have e0 : ((r : Int) == 0) = true := by rw [beq_iff_eq]; omega
       have e2 : ¬ (0 < r) := by omega
       have e2I : ¬ (0 < (r : Int)) := by omega
       have qkI : 0 < (k : Int) := by omega
       have e1 : ((r : Int) == s.least - 1) = true := by have := HN1.out; rw [beq_iff_eq]; omega
       obtain ⟨k1, hk⟩ : ∃ k1, k1 = k - 1 := ⟨_, rfl⟩
       have hk1 : IntKind.i64.wrap ((k : Int) - 1) = k1 := by rw [IntWalk.i64_in _ (by omega)]; omega
       have hk2 : (k1 : Int) < s.cs.length := by omega
       have hr3 : (r : Int) < (xs.length : Int) + 1 := by have := HLE.out; omega
       obtain ⟨X2, Y2, p2, c3, c4, HB2⟩ := HROW.out r k1 (by omega) (by omega) (by unfold cntP; rw [if_pos (by omega)])
       obtain ⟨b2, hb2⟩ : ∃ b2, b2 = behindN bigN n (T r k1) b := ⟨_, rfl⟩
       rw [<- hb2] at HB2
       have HB2 := Lib.hid HB2
       have HC3 := Lib.hid c3
       have HC4 := Lib.hid c4
       clear c3 c4
       obtain ⟨bv, hbv⟩ : ∃ bv : Int, bv = mnI 0 b2 := ⟨_, rfl⟩
       have HBV : Hid (befM cF_ bigN farN n K r k b = bv) := Lib.hid (by unfold befM befN; rw [hbv, hb2, hk, <- hT]; rw [if_pos (by omega), if_neg (by omega), if_pos (by omega)])
       clear q0 ql hk hb2
       go_upto_region 22 with fail
       refine wp_words (by kernel_rfl) (region_told 14 (by kernel_rfl) (by kernel_rfl) (fun W => Below wr.heap.size wr W) newer (pickD [vIs (vi 0), vIs (lkV s f (some false)), vIs (.slice (some ⟨g2, 0, none⟩) (xs.length + 1) c2), vIs (vi r), vIs (.pointer (some ⟨g2, r, none⟩)), vIs (.slice (some ⟨p2, 0, none⟩) s.cs.length X2.c), vIs (vi k), vIs (vi k1), vIs (.pointer (some ⟨p2, k1, none⟩)), vIs (.slice Y2.a Y2.l.length Y2.c), vIs (vi b), vIs (vi b2), vTwoN wr.heap.size 0 b2, vIs (vi (mnI 0 b2))]) (fun h k => newer_trans h k) (pickD_stable _ ⟨vIs_st, vIs_st, vIs_st, vIs_st, vIs_st, vIs_st, vIs_st, vIs_st, vIs_st, vIs_st, vIs_st, vIs_st, vTwoN_st, vIs_st, trivial⟩) (Below.refl _ wr).drew (Below.refl _ _) ?_ ?_)
       ·refine ⟨?_, ?_, ?_, ?_, ?_, ?_, ?_, ?_, ?_, ?_, ?_, ?_, ?_, ?_, trivial⟩
        ·exact fun a W hG _ hO _ => kM 12 rfl (hO.slot 12 (by kernel_rfl)) rfl hG
        ·intro a W hG hR hO hp; have h7 := hO.slot 7 (by kernel_rfl); have c0 := keep_cell l0 hG; have c1 := keep_cell l1 hG; have c2 := keep_cell l2 hG; have c3 := keep_cell l3 hG; refine kY (v := lkV s f (some false)) hG rfl ?_; simp [slotOf] at h7; simp [execOp, go_sem, h7, c0, c1, c2, c3]
        ·exact fun a W hG _ hO _ => kM 8 rfl (hO.slot 8 (by kernel_rfl)) rfl hG
        ·exact fun a W hG _ hO _ => kM 9 rfl (hO.slot 9 (by kernel_rfl)) rfl hG
        ·intro a W hG hR hO hp; have h76 : slotOf a 76 = .slice (some ⟨g2, 0, none⟩) (xs.length + 1) c2 := hp.1; have h77 : slotOf a 77 = vi r := hp.2.1; refine kY (v := .pointer (some ⟨g2, r, none⟩)) hG rfl ?_; simp [slotOf] at h76 h77; simp [execOp, go_sem, h76, h77, hr3]
        ·intro a W hG hR hO hp; have h78 : slotOf a 78 = .pointer (some ⟨g2, r, none⟩) := hp.1; have c0 := HC3.out W hG; refine kY (v := .slice (some ⟨p2, 0, none⟩) s.cs.length X2.c) hG rfl ?_; simp [slotOf] at h78; simp [execOp, go_sem, h78, c0]
        ·exact fun a W hG _ hO _ => kM 10 rfl (hO.slot 10 (by kernel_rfl)) rfl hG
        ·intro a W hG hR hO hp; have h80 : slotOf a 80 = vi k := hp.1; refine kY (v := vi k1) hG rfl ?_; simp [slotOf] at h80; simp [execOp, go_sem, h80, hk1]
        ·intro a W hG hR hO hp; have h79 : slotOf a 79 = .slice (some ⟨p2, 0, none⟩) s.cs.length X2.c := hp.1; have h81 : slotOf a 81 = vi k1 := hp.2.1; refine kY (v := .pointer (some ⟨p2, k1, none⟩)) hG rfl ?_; simp [slotOf] at h79 h81; simp [execOp, go_sem, h79, h81, hk2]
        ·intro a W hG hR hO hp; have h82 : slotOf a 82 = .pointer (some ⟨p2, k1, none⟩) := hp.1; have c0 := HC4.out W hG; refine kY (v := .slice Y2.a Y2.l.length Y2.c) hG rfl ?_; simp [slotOf] at h82; simp [execOp, go_sem, h82, c0]
        ·exact fun a W hG _ hO _ => kM 11 rfl (hO.slot 11 (by kernel_rfl)) rfl hG
        ·intro a W hG hR hO hp
         have h75 : slotOf a 75 = lkV s f (some false) := hp.1
         have h83 : slotOf a 83 = .slice Y2.a Y2.l.length Y2.c := hp.2.1
         have h84 : slotOf a 84 = vi b := hp.2.2.1
         refine wp_enters (f := 82) (args := #[lkV s f (some false), .slice Y2.a Y2.l.length Y2.c, vi b]) ?_ ((HB2.out W hG).mono ?_)
         ·simp [slotOf] at h75 h83 h84
          simp [go_sem, h75, h83, h84]
         ·rintro e w' ⟨rfl, hb⟩
          exact ⟨_, rfl, _, rfl, rfl, hb, below_next hG hb⟩
        ·intro a W hG hR hO hp; have h74 : slotOf a 74 = vi 0 := hp.1; have h85 : slotOf a 85 = vi b2 := hp.2.1; refine wp_makes (v := .slice (some ⟨W.heap.size, 0, none⟩) 2 2) (W' := W.alloc (.cells #[vi 0, vi b2] 3)) ?_ ⟨_, rfl, ⟨W.heap.size, rfl, hG.size, Whole.made _ _ _⟩, newer_allocH _ _, below_next hG (newer_allocH _ _)⟩; simp [slotOf] at h74 h85; simp [execOp, go_sem, h74, h85]
        ·intro a W hG hR hO hp
         have h86 := hp.1
         obtain ⟨q, h86, hq1, hq3⟩ := h86
         refine wp_enters (f := 83) (args := #[.slice (some ⟨q, 0, none⟩) 2 2]) ?_ ((least2_any 0 b2 q 2 W hq3).mono ?_)
         ·simp [slotOf] at h86
          simp [go_sem, h86]
         ·rintro e w' ⟨rfl, rfl⟩
          exact ⟨_, rfl, _, rfl, rfl, Below.refl _ _, hG⟩
       ·intro wy hG hR
        rintro _ rfl _ rfl _ rfl _ rfl _ rfl _ rfl _ rfl _ rfl _ rfl _ rfl _ rfl _ rfl _ - _ rfl
        change wpList _ _ _ _ _ _
        simp only [Act.put, List.setIfInBounds_toArray, List.set_cons_zero, List.set_cons_succ, List.drop_succ_cons, List.drop_zero]
        have HG2 := Lib.hid (show newer wr wy from hG)
        have l0 := keep_cell l0 hG
        have l1 := keep_cell l1 hG
        have l2 := keep_cell l2 hG
        have l3 := keep_cell l3 hG
        clear hG hR
        have HJ6 := Lib.hid (HJ5.out.next HG2.out)
        obtain ⟨y9, g9, xc9, cx, cy, hyo, n1, n2, n3, hrow, hput⟩ := HJ6.out.num hltk
        have HCX := Lib.hid (And.intro cx cy)
        have HNE := Lib.hid (And.intro n1 (And.intro n2 (And.intro n3 hrow)))
        have HYO := Lib.hid hyo
        have HPUT := Lib.hid hput
        have HNG : Hid (∀ W2, wy.grownBy W2 (Value.slice y9.a b y9.c).ownBlock -> newer w W2) := Lib.hid (fun W2 h => HJ6.out.tp.nw.grown h HJ6.out.tp.nw.size (fun q hq => (HNE.out.2.2.2 q hq).1))
        have hnB : ∀ q, (Value.slice y9.a b y9.c).ownBlock = some q -> q < wy.heap.size := fun q hq => (HNE.out.2.2.2 q hq).2
        have HNB := Lib.hid hnB
        have hr9 : (r : Int) < (xs.length : Int) + 1 := by have := HLE.out; omega
        have hadd : IntKind.i64.wrap (cF_ k b + mnI 0 b2) = T r k b := by
         have e : T r k b = cF_ k b + mnI 0 b2 := by rw [hT, tab_is, HBV.out, hbv]
         rw [<- e]
         have := HTB.out r k b (by have := HN1.out; omega) hltk hltb
         exact IntWalk.i64_in _ (by omega)
        clear cx cy hyo n1 n2 n3 hrow hput hnB hbv
        go_upto_region 23 with fail
        refine wp_words (by kernel_rfl) (region_tale 20 (by kernel_rfl) (by kernel_rfl) 19 (fun W => wy.grownBy W (Value.slice y9.a b y9.c).ownBlock) (fun W => W.ownsRow w.heap.size 3 1 (.slice y9.a b y9.c) b (y9.l.map vi) /\ newer wy W) (relAt 19 (fun W W' => W.grownBy W' (Value.slice y9.a b y9.c).ownBlock)) (pickD [vIs (.slice (some ⟨g2, 0, none⟩) (xs.length + 1) c2), vIs (vi r), vIs (.pointer (some ⟨g2, r, none⟩)), vIs (.slice (some ⟨g9, 0, none⟩) s.cs.length xc9), vIs (vi k), vIs (.slice (some ⟨g2, 0, none⟩) (xs.length + 1) c2), vIs (vi r), vIs (.pointer (some ⟨g2, r, none⟩)), vIs (.slice (some ⟨g9, 0, none⟩) s.cs.length xc9), vIs (vi k), vIs (.pointer (some ⟨g9, k, none⟩)), vIs (.slice y9.a b y9.c), vIs (lkV s f (some false)), vIs (vi k), vIs (vi b), vIs (vi (cF_ k b)), vIs (vi (mnI 0 b2)), vIs (vi (T r k b)), vOne wy.heap.size 3 #[vi (T r k b)], vOn1 w.heap.size y9.a b y9.c y9.l (T r k b) wy]) (allBut_ok (fun _ _ h => grown_of_newer h _) _ ⟨vIs_st, vIs_st, vIs_st, vIs_st, vIs_st, vIs_st, vIs_st, vIs_st, vIs_st, vIs_st, vIs_st, vIs_st, vIs_st, vIs_st, vIs_st, vIs_st, vIs_st, vIs_st, vOne_grown HNB.out, vOn1_st, trivial⟩) (by decide) (grown_drew (grown_refl _ _)) ⟨HYO.out, (Below.refl _ _).drew⟩ ?_ ?_)
        ·refine ⟨?_, ?_, ?_, ?_, ?_, ?_, ?_, ?_, ?_, ?_, ?_, ?_, ?_, ?_, ?_, ?_, ?_, ?_, ?_, ?_, trivial⟩
         ·intro a W hG hG1 hO hp; have h8 := hO.slot 8 (by kernel_rfl); refine wp_yields (v := .slice (some ⟨g2, 0, none⟩) (xs.length + 1) c2) ?_ ⟨_, rfl, rfl, newer_refl _, hG, fun _ h => h⟩; simp [slotOf] at h8; simp [execOp, go_sem, h8]
         ·intro a W hG hG1 hO hp; have h9 := hO.slot 9 (by kernel_rfl); refine wp_yields (v := vi r) ?_ ⟨_, rfl, rfl, newer_refl _, hG, fun _ h => h⟩; simp [slotOf] at h9; simp [execOp, go_sem, h9]
         ·intro a W hG hG1 hO hp; have h88 : slotOf a 88 = .slice (some ⟨g2, 0, none⟩) (xs.length + 1) c2 := hp.1; have h89 : slotOf a 89 = vi r := hp.2.1; refine wp_yields (v := .pointer (some ⟨g2, r, none⟩)) ?_ ⟨_, rfl, rfl, newer_refl _, hG, fun _ h => h⟩; simp [slotOf] at h88 h89; simp [execOp, go_sem, h88, h89, hr9]
         ·intro a W hG hG1 hO hp; have h90 : slotOf a 90 = .pointer (some ⟨g2, r, none⟩) := hp.1; have c0 := hG.cell HCX.out.1 HNE.out.1; refine wp_yields (v := .slice (some ⟨g9, 0, none⟩) s.cs.length xc9) ?_ ⟨_, rfl, rfl, newer_refl _, hG, fun _ h => h⟩; simp [slotOf] at h90; simp [execOp, go_sem, h90, c0]
         ·intro a W hG hG1 hO hp; have h10 := hO.slot 10 (by kernel_rfl); refine wp_yields (v := vi k) ?_ ⟨_, rfl, rfl, newer_refl _, hG, fun _ h => h⟩; simp [slotOf] at h10; simp [execOp, go_sem, h10]
         ·intro a W hG hG1 hO hp; have h8 := hO.slot 8 (by kernel_rfl); refine wp_yields (v := .slice (some ⟨g2, 0, none⟩) (xs.length + 1) c2) ?_ ⟨_, rfl, rfl, newer_refl _, hG, fun _ h => h⟩; simp [slotOf] at h8; simp [execOp, go_sem, h8]
         ·intro a W hG hG1 hO hp; have h9 := hO.slot 9 (by kernel_rfl); refine wp_yields (v := vi r) ?_ ⟨_, rfl, rfl, newer_refl _, hG, fun _ h => h⟩; simp [slotOf] at h9; simp [execOp, go_sem, h9]
         ·intro a W hG hG1 hO hp; have h93 : slotOf a 93 = .slice (some ⟨g2, 0, none⟩) (xs.length + 1) c2 := hp.1; have h94 : slotOf a 94 = vi r := hp.2.1; refine wp_yields (v := .pointer (some ⟨g2, r, none⟩)) ?_ ⟨_, rfl, rfl, newer_refl _, hG, fun _ h => h⟩; simp [slotOf] at h93 h94; simp [execOp, go_sem, h93, h94, hr9]
         ·intro a W hG hG1 hO hp; have h95 : slotOf a 95 = .pointer (some ⟨g2, r, none⟩) := hp.1; have c0 := hG.cell HCX.out.1 HNE.out.1; refine wp_yields (v := .slice (some ⟨g9, 0, none⟩) s.cs.length xc9) ?_ ⟨_, rfl, rfl, newer_refl _, hG, fun _ h => h⟩; simp [slotOf] at h95; simp [execOp, go_sem, h95, c0]
         ·intro a W hG hG1 hO hp; have h10 := hO.slot 10 (by kernel_rfl); refine wp_yields (v := vi k) ?_ ⟨_, rfl, rfl, newer_refl _, hG, fun _ h => h⟩; simp [slotOf] at h10; simp [execOp, go_sem, h10]
         ·intro a W hG hG1 hO hp; have h96 : slotOf a 96 = .slice (some ⟨g9, 0, none⟩) s.cs.length xc9 := hp.1; have h97 : slotOf a 97 = vi k := hp.2.1; refine wp_yields (v := .pointer (some ⟨g9, k, none⟩)) ?_ ⟨_, rfl, rfl, newer_refl _, hG, fun _ h => h⟩; simp [slotOf] at h96 h97; simp [execOp, go_sem, h96, h97, hltkI]
         ·intro a W hG hG1 hO hp; have h98 : slotOf a 98 = .pointer (some ⟨g9, k, none⟩) := hp.1; have c0 := hG.cell HCX.out.2 HNE.out.2.1; refine wp_yields (v := .slice y9.a b y9.c) ?_ ⟨_, rfl, rfl, newer_refl _, hG, fun _ h => h⟩; simp [slotOf] at h98; simp [execOp, go_sem, h98, c0]
         ·intro a W hG hG1 hO hp; have h7 := hO.slot 7 (by kernel_rfl); have c0 := hG.cell l0 HNE.out.2.2.1; have c1 := hG.cell l1 HNE.out.2.2.1; have c2 := hG.cell l2 HNE.out.2.2.1; have c3 := hG.cell l3 HNE.out.2.2.1; refine wp_yields (v := lkV s f (some false)) ?_ ⟨_, rfl, rfl, newer_refl _, hG, fun _ h => h⟩; simp [slotOf] at h7; simp [execOp, go_sem, h7, c0, c1, c2, c3]
         ·intro a W hG hG1 hO hp; have h10 := hO.slot 10 (by kernel_rfl); refine wp_yields (v := vi k) ?_ ⟨_, rfl, rfl, newer_refl _, hG, fun _ h => h⟩; simp [slotOf] at h10; simp [execOp, go_sem, h10]
         ·intro a W hG hG1 hO hp; have h11 := hO.slot 11 (by kernel_rfl); refine wp_yields (v := vi b) ?_ ⟨_, rfl, rfl, newer_refl _, hG, fun _ h => h⟩; simp [slotOf] at h11; simp [execOp, go_sem, h11]
         ·intro a W hG hG1 hO hp
          have h100 : slotOf a 100 = lkV s f (some false) := hp.1
          have h101 : slotOf a 101 = vi k := hp.2.1
          have h102 : slotOf a 102 = vi b := hp.2.2.1
          refine wp_enters (f := 84) (args := #[lkV s f (some false), vi k, vi b]) ?_ ((HCO.out k b W hltk hltb (HNG.out W hG)).mono ?_)
          ·simp [slotOf] at h100 h101 h102
           simp [go_sem, h100, h101, h102]
          ·rintro e w' ⟨rfl, hb⟩
           exact ⟨_, rfl, _, rfl, rfl, hb, grown_below hG hb, fun _ h => ⟨own_below h.1 hb, newer_trans h.2 hb⟩⟩
         ·intro a W hG hG1 hO hp; have h12 := hO.slot 12 (by kernel_rfl); refine wp_yields (v := vi (mnI 0 b2)) ?_ ⟨_, rfl, rfl, newer_refl _, hG, fun _ h => h⟩; simp [slotOf] at h12; simp [execOp, go_sem, h12]
         ·intro a W hG hG1 hO hp; have h103 : slotOf a 103 = vi (cF_ k b) := hp.1; have h104 : slotOf a 104 = vi (mnI 0 b2) := hp.2.1; refine wp_yields (v := vi (T r k b)) ?_ ⟨_, rfl, rfl, newer_refl _, hG, fun _ h => h⟩; simp [slotOf] at h103 h104; simp [execOp, go_sem, h103, h104, hadd]
         ·intro a W hG hG1 hO hp; have h105 : slotOf a 105 = vi (T r k b) := hp.1; refine wp_makes (v := .slice (some ⟨W.heap.size, 0, none⟩) 1 1) (W' := W.alloc (.cells #[vi (T r k b)] 3)) ?_ ⟨_, rfl, ⟨_, rfl, hG.size, Whole.made _ _ _⟩, newer_allocH _ _, grown_alloc hG _, fun _ h => ⟨own_below h.1 (newer_allocH _ _), newer_trans h.2 (newer_allocH _ _)⟩⟩; simp [slotOf] at h105; simp [execOp, go_sem, h105]
         ·intro a W hG hG1 hO hp; have h99 : slotOf a 99 = .slice y9.a b y9.c := hp.1; have h106 := hp.2.1; obtain ⟨nb, h106, hnb, hW⟩ := h106; obtain ⟨ho, hnw⟩ := hG1 rfl; obtain ⟨i0, hi, hz0, hz1, hz2⟩ := info_parts info_int; refine wp_append_one (.tmp 99) (.tmp 106) 25 rfl w.heap.size 3 i0 (.int .i64 0) 8 Try.underlying25 hi hz0 hz1 hz2 rfl y9.a b y9.c (y9.l.map vi) ((eval_slot a 99).trans h99) ho ⟨nb, 0, none⟩ 1 (vi (T r k b)) ((eval_slot a 106).trans h106) (hW.at 0 rfl) rfl (by unfold maxLen; omega) (by omega) (HNG.out W hG).size ?_; intro g3 c3 w1 hown hon0; have hon : Onto1 y9.a y9.c g3 c3 W w1 := hon0; exact ⟨_, rfl, ⟨g3, c3, rfl, hown, hon.ahead hnw⟩, hon.grown, grown_trans' hG hon.grown, fun e => absurd rfl e⟩
        ·intro wk hG
         rintro _ rfl _ rfl _ rfl _ rfl _ rfl _ rfl _ rfl _ rfl _ rfl _ rfl _ rfl _ rfl _ rfl _ rfl _ rfl _ rfl _ rfl _ rfl _ hv106 _ ⟨g3, c3, rfl, hown, hon⟩
         change wpList _ _ _ _ _ _
         simp only [Act.put, List.setIfInBounds_toArray, List.set_cons_zero, List.set_cons_succ, List.drop_succ_cons, List.drop_zero]
         obtain ⟨cyW, fzW, us2, hpj⟩ := HPUT.out g3 c3 wk hon hown
         have HE := Lib.hid hpj
         clear hpj hown hon hG hv106 x1 l0 l1 l2 l3 hadd hr9
         go_wp2_with fail
         refine ⟨⟨b + 1, us2, by simp, by omega, HE.out⟩, ?_⟩
         simp [intOf]
         omega
      case neg =>
       have e0 : ((r : Int) == 0) = true := by rw [beq_iff_eq]; omega
       have e2 : ¬ (0 < r) := by omega
       have e2I : ¬ (0 < (r : Int)) := by omega
       have qkI : 0 < (k : Int) := by omega
       have e1 : ((r : Int) == s.least - 1) = false := by have := HN1.out; rw [beq_eq_false_iff_ne]; omega
       obtain ⟨k1, hk⟩ : ∃ k1, k1 = k - 1 := ⟨_, rfl⟩
       have hk1 : IntKind.i64.wrap ((k : Int) - 1) = k1 := by rw [IntWalk.i64_in _ (by omega)]; omega
       have hk2 : (k1 : Int) < s.cs.length := by omega
       obtain ⟨bv, hbv⟩ : ∃ bv : Int, bv = 0 := ⟨_, rfl⟩
       have HBV : Hid (befM cF_ bigN farN n K r k b = bv) := Lib.hid (by unfold befM befN; rw [hbv, <- hT]; rw [if_neg (by omega), if_neg (by omega), if_pos (by omega)])
       clear q0 ql hk
       have HJ6 := Lib.hid (HJ5.out.next (newer_refl wr))
       obtain ⟨y9, g9, xc9, cx, cy, hyo, n1, n2, n3, hrow, hput⟩ := HJ6.out.num hltk
       have HCX := Lib.hid (And.intro cx cy)
       have HNE := Lib.hid (And.intro n1 (And.intro n2 (And.intro n3 hrow)))
       have HYO := Lib.hid hyo
       have HPUT := Lib.hid hput
       have HNG : Hid (∀ W2, wr.grownBy W2 (Value.slice y9.a b y9.c).ownBlock -> newer w W2) := Lib.hid (fun W2 h => HJ6.out.tp.nw.grown h HJ6.out.tp.nw.size (fun q hq => (HNE.out.2.2.2 q hq).1))
       have hnB : ∀ q, (Value.slice y9.a b y9.c).ownBlock = some q -> q < wr.heap.size := fun q hq => (HNE.out.2.2.2 q hq).2
       have HNB := Lib.hid hnB
       have hr9 : (r : Int) < (xs.length : Int) + 1 := by have := HLE.out; omega
       have hadd : IntKind.i64.wrap (cF_ k b) = T r k b := by
        have e : T r k b = cF_ k b := by rw [hT, tab_is, HBV.out, hbv]; exact Int.add_zero _
        rw [<- e]
        have := HTB.out r k b (by have := HN1.out; omega) hltk hltb
        exact IntWalk.i64_in _ (by omega)
       clear cx cy hyo n1 n2 n3 hrow hput hnB hbv
       go_upto_region 23 with fail
       refine wp_words (by kernel_rfl) (region_tale 20 (by kernel_rfl) (by kernel_rfl) 19 (fun W => wr.grownBy W (Value.slice y9.a b y9.c).ownBlock) (fun W => W.ownsRow w.heap.size 3 1 (.slice y9.a b y9.c) b (y9.l.map vi) /\ newer wr W) (relAt 19 (fun W W' => W.grownBy W' (Value.slice y9.a b y9.c).ownBlock)) (pickD [vIs (.slice (some ⟨g2, 0, none⟩) (xs.length + 1) c2), vIs (vi r), vIs (.pointer (some ⟨g2, r, none⟩)), vIs (.slice (some ⟨g9, 0, none⟩) s.cs.length xc9), vIs (vi k), vIs (.slice (some ⟨g2, 0, none⟩) (xs.length + 1) c2), vIs (vi r), vIs (.pointer (some ⟨g2, r, none⟩)), vIs (.slice (some ⟨g9, 0, none⟩) s.cs.length xc9), vIs (vi k), vIs (.pointer (some ⟨g9, k, none⟩)), vIs (.slice y9.a b y9.c), vIs (lkV s f (some false)), vIs (vi k), vIs (vi b), vIs (vi (cF_ k b)), vIs (vi 0), vIs (vi (T r k b)), vOne wr.heap.size 3 #[vi (T r k b)], vOn1 w.heap.size y9.a b y9.c y9.l (T r k b) wr]) (allBut_ok (fun _ _ h => grown_of_newer h _) _ ⟨vIs_st, vIs_st, vIs_st, vIs_st, vIs_st, vIs_st, vIs_st, vIs_st, vIs_st, vIs_st, vIs_st, vIs_st, vIs_st, vIs_st, vIs_st, vIs_st, vIs_st, vIs_st, vOne_grown HNB.out, vOn1_st, trivial⟩) (by decide) (grown_drew (grown_refl _ _)) ⟨HYO.out, (Below.refl _ _).drew⟩ ?_ ?_)
       ·refine ⟨?_, ?_, ?_, ?_, ?_, ?_, ?_, ?_, ?_, ?_, ?_, ?_, ?_, ?_, ?_, ?_, ?_, ?_, ?_, ?_, trivial⟩
        ·intro a W hG hG1 hO hp; have h8 := hO.slot 8 (by kernel_rfl); refine wp_yields (v := .slice (some ⟨g2, 0, none⟩) (xs.length + 1) c2) ?_ ⟨_, rfl, rfl, newer_refl _, hG, fun _ h => h⟩; simp [slotOf] at h8; simp [execOp, go_sem, h8]
        ·intro a W hG hG1 hO hp; have h9 := hO.slot 9 (by kernel_rfl); refine wp_yields (v := vi r) ?_ ⟨_, rfl, rfl, newer_refl _, hG, fun _ h => h⟩; simp [slotOf] at h9; simp [execOp, go_sem, h9]
        ·intro a W hG hG1 hO hp; have h88 : slotOf a 88 = .slice (some ⟨g2, 0, none⟩) (xs.length + 1) c2 := hp.1; have h89 : slotOf a 89 = vi r := hp.2.1; refine wp_yields (v := .pointer (some ⟨g2, r, none⟩)) ?_ ⟨_, rfl, rfl, newer_refl _, hG, fun _ h => h⟩; simp [slotOf] at h88 h89; simp [execOp, go_sem, h88, h89, hr9]
        ·intro a W hG hG1 hO hp; have h90 : slotOf a 90 = .pointer (some ⟨g2, r, none⟩) := hp.1; have c0 := hG.cell HCX.out.1 HNE.out.1; refine wp_yields (v := .slice (some ⟨g9, 0, none⟩) s.cs.length xc9) ?_ ⟨_, rfl, rfl, newer_refl _, hG, fun _ h => h⟩; simp [slotOf] at h90; simp [execOp, go_sem, h90, c0]
        ·intro a W hG hG1 hO hp; have h10 := hO.slot 10 (by kernel_rfl); refine wp_yields (v := vi k) ?_ ⟨_, rfl, rfl, newer_refl _, hG, fun _ h => h⟩; simp [slotOf] at h10; simp [execOp, go_sem, h10]
        ·intro a W hG hG1 hO hp; have h8 := hO.slot 8 (by kernel_rfl); refine wp_yields (v := .slice (some ⟨g2, 0, none⟩) (xs.length + 1) c2) ?_ ⟨_, rfl, rfl, newer_refl _, hG, fun _ h => h⟩; simp [slotOf] at h8; simp [execOp, go_sem, h8]
        ·intro a W hG hG1 hO hp; have h9 := hO.slot 9 (by kernel_rfl); refine wp_yields (v := vi r) ?_ ⟨_, rfl, rfl, newer_refl _, hG, fun _ h => h⟩; simp [slotOf] at h9; simp [execOp, go_sem, h9]
        ·intro a W hG hG1 hO hp; have h93 : slotOf a 93 = .slice (some ⟨g2, 0, none⟩) (xs.length + 1) c2 := hp.1; have h94 : slotOf a 94 = vi r := hp.2.1; refine wp_yields (v := .pointer (some ⟨g2, r, none⟩)) ?_ ⟨_, rfl, rfl, newer_refl _, hG, fun _ h => h⟩; simp [slotOf] at h93 h94; simp [execOp, go_sem, h93, h94, hr9]
        ·intro a W hG hG1 hO hp; have h95 : slotOf a 95 = .pointer (some ⟨g2, r, none⟩) := hp.1; have c0 := hG.cell HCX.out.1 HNE.out.1; refine wp_yields (v := .slice (some ⟨g9, 0, none⟩) s.cs.length xc9) ?_ ⟨_, rfl, rfl, newer_refl _, hG, fun _ h => h⟩; simp [slotOf] at h95; simp [execOp, go_sem, h95, c0]
        ·intro a W hG hG1 hO hp; have h10 := hO.slot 10 (by kernel_rfl); refine wp_yields (v := vi k) ?_ ⟨_, rfl, rfl, newer_refl _, hG, fun _ h => h⟩; simp [slotOf] at h10; simp [execOp, go_sem, h10]
        ·intro a W hG hG1 hO hp; have h96 : slotOf a 96 = .slice (some ⟨g9, 0, none⟩) s.cs.length xc9 := hp.1; have h97 : slotOf a 97 = vi k := hp.2.1; refine wp_yields (v := .pointer (some ⟨g9, k, none⟩)) ?_ ⟨_, rfl, rfl, newer_refl _, hG, fun _ h => h⟩; simp [slotOf] at h96 h97; simp [execOp, go_sem, h96, h97, hltkI]
        ·intro a W hG hG1 hO hp; have h98 : slotOf a 98 = .pointer (some ⟨g9, k, none⟩) := hp.1; have c0 := hG.cell HCX.out.2 HNE.out.2.1; refine wp_yields (v := .slice y9.a b y9.c) ?_ ⟨_, rfl, rfl, newer_refl _, hG, fun _ h => h⟩; simp [slotOf] at h98; simp [execOp, go_sem, h98, c0]
        ·intro a W hG hG1 hO hp; have h7 := hO.slot 7 (by kernel_rfl); have c0 := hG.cell l0 HNE.out.2.2.1; have c1 := hG.cell l1 HNE.out.2.2.1; have c2 := hG.cell l2 HNE.out.2.2.1; have c3 := hG.cell l3 HNE.out.2.2.1; refine wp_yields (v := lkV s f (some false)) ?_ ⟨_, rfl, rfl, newer_refl _, hG, fun _ h => h⟩; simp [slotOf] at h7; simp [execOp, go_sem, h7, c0, c1, c2, c3]
        ·intro a W hG hG1 hO hp; have h10 := hO.slot 10 (by kernel_rfl); refine wp_yields (v := vi k) ?_ ⟨_, rfl, rfl, newer_refl _, hG, fun _ h => h⟩; simp [slotOf] at h10; simp [execOp, go_sem, h10]
        ·intro a W hG hG1 hO hp; have h11 := hO.slot 11 (by kernel_rfl); refine wp_yields (v := vi b) ?_ ⟨_, rfl, rfl, newer_refl _, hG, fun _ h => h⟩; simp [slotOf] at h11; simp [execOp, go_sem, h11]
        ·intro a W hG hG1 hO hp
         have h100 : slotOf a 100 = lkV s f (some false) := hp.1
         have h101 : slotOf a 101 = vi k := hp.2.1
         have h102 : slotOf a 102 = vi b := hp.2.2.1
         refine wp_enters (f := 84) (args := #[lkV s f (some false), vi k, vi b]) ?_ ((HCO.out k b W hltk hltb (HNG.out W hG)).mono ?_)
         ·simp [slotOf] at h100 h101 h102
          simp [go_sem, h100, h101, h102]
         ·rintro e w' ⟨rfl, hb⟩
          exact ⟨_, rfl, _, rfl, rfl, hb, grown_below hG hb, fun _ h => ⟨own_below h.1 hb, newer_trans h.2 hb⟩⟩
        ·intro a W hG hG1 hO hp; have h12 := hO.slot 12 (by kernel_rfl); refine wp_yields (v := vi 0) ?_ ⟨_, rfl, rfl, newer_refl _, hG, fun _ h => h⟩; simp [slotOf] at h12; simp [execOp, go_sem, h12]
        ·intro a W hG hG1 hO hp; have h103 : slotOf a 103 = vi (cF_ k b) := hp.1; have h104 : slotOf a 104 = vi 0 := hp.2.1; refine wp_yields (v := vi (T r k b)) ?_ ⟨_, rfl, rfl, newer_refl _, hG, fun _ h => h⟩; simp [slotOf] at h103 h104; simp [execOp, go_sem, h103, h104, hadd]
        ·intro a W hG hG1 hO hp; have h105 : slotOf a 105 = vi (T r k b) := hp.1; refine wp_makes (v := .slice (some ⟨W.heap.size, 0, none⟩) 1 1) (W' := W.alloc (.cells #[vi (T r k b)] 3)) ?_ ⟨_, rfl, ⟨_, rfl, hG.size, Whole.made _ _ _⟩, newer_allocH _ _, grown_alloc hG _, fun _ h => ⟨own_below h.1 (newer_allocH _ _), newer_trans h.2 (newer_allocH _ _)⟩⟩; simp [slotOf] at h105; simp [execOp, go_sem, h105]
        ·intro a W hG hG1 hO hp; have h99 : slotOf a 99 = .slice y9.a b y9.c := hp.1; have h106 := hp.2.1; obtain ⟨nb, h106, hnb, hW⟩ := h106; obtain ⟨ho, hnw⟩ := hG1 rfl; obtain ⟨i0, hi, hz0, hz1, hz2⟩ := info_parts info_int; refine wp_append_one (.tmp 99) (.tmp 106) 25 rfl w.heap.size 3 i0 (.int .i64 0) 8 Try.underlying25 hi hz0 hz1 hz2 rfl y9.a b y9.c (y9.l.map vi) ((eval_slot a 99).trans h99) ho ⟨nb, 0, none⟩ 1 (vi (T r k b)) ((eval_slot a 106).trans h106) (hW.at 0 rfl) rfl (by unfold maxLen; omega) (by omega) (HNG.out W hG).size ?_; intro g3 c3 w1 hown hon0; have hon : Onto1 y9.a y9.c g3 c3 W w1 := hon0; exact ⟨_, rfl, ⟨g3, c3, rfl, hown, hon.ahead hnw⟩, hon.grown, grown_trans' hG hon.grown, fun e => absurd rfl e⟩
       ·intro wk hG
        rintro _ rfl _ rfl _ rfl _ rfl _ rfl _ rfl _ rfl _ rfl _ rfl _ rfl _ rfl _ rfl _ rfl _ rfl _ rfl _ rfl _ rfl _ rfl _ hv106 _ ⟨g3, c3, rfl, hown, hon⟩
        change wpList _ _ _ _ _ _
        simp only [Act.put, List.setIfInBounds_toArray, List.set_cons_zero, List.set_cons_succ, List.drop_succ_cons, List.drop_zero]
        obtain ⟨cyW, fzW, us2, hpj⟩ := HPUT.out g3 c3 wk hon hown
        have HE := Lib.hid hpj
        clear hpj hown hon hG hv106 x1 l0 l1 l2 l3 hadd hr9
        go_wp2_with fail
        refine ⟨⟨b + 1, us2, by simp, by omega, HE.out⟩, ?_⟩
        simp [intOf]
        omega
     case neg =>
      by_cases ql : r = K - 1
      case pos =>
       have e0 : ((r : Int) == 0) = true := by rw [beq_iff_eq]; omega
       have e2 : ¬ (0 < r) := by omega
       have e2I : ¬ (0 < (r : Int)) := by omega
       have qkI : ¬ (0 < (k : Int)) := by omega
       have e1 : ((r : Int) == s.least - 1) = true := by have := HN1.out; rw [beq_iff_eq]; omega
       obtain ⟨bv, hbv⟩ : ∃ bv : Int, bv = 0 := ⟨_, rfl⟩
       have HBV : Hid (befM cF_ bigN farN n K r k b = bv) := Lib.hid (by unfold befM befN; rw [hbv, <- hT]; rw [if_neg (by omega), if_neg (by omega), if_pos (by omega)])
       clear q0 ql
       have HJ6 := Lib.hid (HJ5.out.next (newer_refl wr))
       obtain ⟨y9, g9, xc9, cx, cy, hyo, n1, n2, n3, hrow, hput⟩ := HJ6.out.num hltk
       have HCX := Lib.hid (And.intro cx cy)
       have HNE := Lib.hid (And.intro n1 (And.intro n2 (And.intro n3 hrow)))
       have HYO := Lib.hid hyo
       have HPUT := Lib.hid hput
       have HNG : Hid (∀ W2, wr.grownBy W2 (Value.slice y9.a b y9.c).ownBlock -> newer w W2) := Lib.hid (fun W2 h => HJ6.out.tp.nw.grown h HJ6.out.tp.nw.size (fun q hq => (HNE.out.2.2.2 q hq).1))
       have hnB : ∀ q, (Value.slice y9.a b y9.c).ownBlock = some q -> q < wr.heap.size := fun q hq => (HNE.out.2.2.2 q hq).2
       have HNB := Lib.hid hnB
       have hr9 : (r : Int) < (xs.length : Int) + 1 := by have := HLE.out; omega
       have hadd : IntKind.i64.wrap (cF_ k b) = T r k b := by
        have e : T r k b = cF_ k b := by rw [hT, tab_is, HBV.out, hbv]; exact Int.add_zero _
        rw [<- e]
        have := HTB.out r k b (by have := HN1.out; omega) hltk hltb
        exact IntWalk.i64_in _ (by omega)
       clear cx cy hyo n1 n2 n3 hrow hput hnB hbv
       go_upto_region 23 with fail
       refine wp_words (by kernel_rfl) (region_tale 20 (by kernel_rfl) (by kernel_rfl) 19 (fun W => wr.grownBy W (Value.slice y9.a b y9.c).ownBlock) (fun W => W.ownsRow w.heap.size 3 1 (.slice y9.a b y9.c) b (y9.l.map vi) /\ newer wr W) (relAt 19 (fun W W' => W.grownBy W' (Value.slice y9.a b y9.c).ownBlock)) (pickD [vIs (.slice (some ⟨g2, 0, none⟩) (xs.length + 1) c2), vIs (vi r), vIs (.pointer (some ⟨g2, r, none⟩)), vIs (.slice (some ⟨g9, 0, none⟩) s.cs.length xc9), vIs (vi k), vIs (.slice (some ⟨g2, 0, none⟩) (xs.length + 1) c2), vIs (vi r), vIs (.pointer (some ⟨g2, r, none⟩)), vIs (.slice (some ⟨g9, 0, none⟩) s.cs.length xc9), vIs (vi k), vIs (.pointer (some ⟨g9, k, none⟩)), vIs (.slice y9.a b y9.c), vIs (lkV s f (some false)), vIs (vi k), vIs (vi b), vIs (vi (cF_ k b)), vIs (vi 0), vIs (vi (T r k b)), vOne wr.heap.size 3 #[vi (T r k b)], vOn1 w.heap.size y9.a b y9.c y9.l (T r k b) wr]) (allBut_ok (fun _ _ h => grown_of_newer h _) _ ⟨vIs_st, vIs_st, vIs_st, vIs_st, vIs_st, vIs_st, vIs_st, vIs_st, vIs_st, vIs_st, vIs_st, vIs_st, vIs_st, vIs_st, vIs_st, vIs_st, vIs_st, vIs_st, vOne_grown HNB.out, vOn1_st, trivial⟩) (by decide) (grown_drew (grown_refl _ _)) ⟨HYO.out, (Below.refl _ _).drew⟩ ?_ ?_)
       ·refine ⟨?_, ?_, ?_, ?_, ?_, ?_, ?_, ?_, ?_, ?_, ?_, ?_, ?_, ?_, ?_, ?_, ?_, ?_, ?_, ?_, trivial⟩
        ·intro a W hG hG1 hO hp; have h8 := hO.slot 8 (by kernel_rfl); refine wp_yields (v := .slice (some ⟨g2, 0, none⟩) (xs.length + 1) c2) ?_ ⟨_, rfl, rfl, newer_refl _, hG, fun _ h => h⟩; simp [slotOf] at h8; simp [execOp, go_sem, h8]
        ·intro a W hG hG1 hO hp; have h9 := hO.slot 9 (by kernel_rfl); refine wp_yields (v := vi r) ?_ ⟨_, rfl, rfl, newer_refl _, hG, fun _ h => h⟩; simp [slotOf] at h9; simp [execOp, go_sem, h9]
        ·intro a W hG hG1 hO hp; have h88 : slotOf a 88 = .slice (some ⟨g2, 0, none⟩) (xs.length + 1) c2 := hp.1; have h89 : slotOf a 89 = vi r := hp.2.1; refine wp_yields (v := .pointer (some ⟨g2, r, none⟩)) ?_ ⟨_, rfl, rfl, newer_refl _, hG, fun _ h => h⟩; simp [slotOf] at h88 h89; simp [execOp, go_sem, h88, h89, hr9]
        ·intro a W hG hG1 hO hp; have h90 : slotOf a 90 = .pointer (some ⟨g2, r, none⟩) := hp.1; have c0 := hG.cell HCX.out.1 HNE.out.1; refine wp_yields (v := .slice (some ⟨g9, 0, none⟩) s.cs.length xc9) ?_ ⟨_, rfl, rfl, newer_refl _, hG, fun _ h => h⟩; simp [slotOf] at h90; simp [execOp, go_sem, h90, c0]
        ·intro a W hG hG1 hO hp; have h10 := hO.slot 10 (by kernel_rfl); refine wp_yields (v := vi k) ?_ ⟨_, rfl, rfl, newer_refl _, hG, fun _ h => h⟩; simp [slotOf] at h10; simp [execOp, go_sem, h10]
        ·intro a W hG hG1 hO hp; have h8 := hO.slot 8 (by kernel_rfl); refine wp_yields (v := .slice (some ⟨g2, 0, none⟩) (xs.length + 1) c2) ?_ ⟨_, rfl, rfl, newer_refl _, hG, fun _ h => h⟩; simp [slotOf] at h8; simp [execOp, go_sem, h8]
        ·intro a W hG hG1 hO hp; have h9 := hO.slot 9 (by kernel_rfl); refine wp_yields (v := vi r) ?_ ⟨_, rfl, rfl, newer_refl _, hG, fun _ h => h⟩; simp [slotOf] at h9; simp [execOp, go_sem, h9]
        ·intro a W hG hG1 hO hp; have h93 : slotOf a 93 = .slice (some ⟨g2, 0, none⟩) (xs.length + 1) c2 := hp.1; have h94 : slotOf a 94 = vi r := hp.2.1; refine wp_yields (v := .pointer (some ⟨g2, r, none⟩)) ?_ ⟨_, rfl, rfl, newer_refl _, hG, fun _ h => h⟩; simp [slotOf] at h93 h94; simp [execOp, go_sem, h93, h94, hr9]
        ·intro a W hG hG1 hO hp; have h95 : slotOf a 95 = .pointer (some ⟨g2, r, none⟩) := hp.1; have c0 := hG.cell HCX.out.1 HNE.out.1; refine wp_yields (v := .slice (some ⟨g9, 0, none⟩) s.cs.length xc9) ?_ ⟨_, rfl, rfl, newer_refl _, hG, fun _ h => h⟩; simp [slotOf] at h95; simp [execOp, go_sem, h95, c0]
        ·intro a W hG hG1 hO hp; have h10 := hO.slot 10 (by kernel_rfl); refine wp_yields (v := vi k) ?_ ⟨_, rfl, rfl, newer_refl _, hG, fun _ h => h⟩; simp [slotOf] at h10; simp [execOp, go_sem, h10]
        ·intro a W hG hG1 hO hp; have h96 : slotOf a 96 = .slice (some ⟨g9, 0, none⟩) s.cs.length xc9 := hp.1; have h97 : slotOf a 97 = vi k := hp.2.1; refine wp_yields (v := .pointer (some ⟨g9, k, none⟩)) ?_ ⟨_, rfl, rfl, newer_refl _, hG, fun _ h => h⟩; simp [slotOf] at h96 h97; simp [execOp, go_sem, h96, h97, hltkI]
        ·intro a W hG hG1 hO hp; have h98 : slotOf a 98 = .pointer (some ⟨g9, k, none⟩) := hp.1; have c0 := hG.cell HCX.out.2 HNE.out.2.1; refine wp_yields (v := .slice y9.a b y9.c) ?_ ⟨_, rfl, rfl, newer_refl _, hG, fun _ h => h⟩; simp [slotOf] at h98; simp [execOp, go_sem, h98, c0]
        ·intro a W hG hG1 hO hp; have h7 := hO.slot 7 (by kernel_rfl); have c0 := hG.cell l0 HNE.out.2.2.1; have c1 := hG.cell l1 HNE.out.2.2.1; have c2 := hG.cell l2 HNE.out.2.2.1; have c3 := hG.cell l3 HNE.out.2.2.1; refine wp_yields (v := lkV s f (some false)) ?_ ⟨_, rfl, rfl, newer_refl _, hG, fun _ h => h⟩; simp [slotOf] at h7; simp [execOp, go_sem, h7, c0, c1, c2, c3]
        ·intro a W hG hG1 hO hp; have h10 := hO.slot 10 (by kernel_rfl); refine wp_yields (v := vi k) ?_ ⟨_, rfl, rfl, newer_refl _, hG, fun _ h => h⟩; simp [slotOf] at h10; simp [execOp, go_sem, h10]
        ·intro a W hG hG1 hO hp; have h11 := hO.slot 11 (by kernel_rfl); refine wp_yields (v := vi b) ?_ ⟨_, rfl, rfl, newer_refl _, hG, fun _ h => h⟩; simp [slotOf] at h11; simp [execOp, go_sem, h11]
        ·intro a W hG hG1 hO hp
         have h100 : slotOf a 100 = lkV s f (some false) := hp.1
         have h101 : slotOf a 101 = vi k := hp.2.1
         have h102 : slotOf a 102 = vi b := hp.2.2.1
         refine wp_enters (f := 84) (args := #[lkV s f (some false), vi k, vi b]) ?_ ((HCO.out k b W hltk hltb (HNG.out W hG)).mono ?_)
         ·simp [slotOf] at h100 h101 h102
          simp [go_sem, h100, h101, h102]
         ·rintro e w' ⟨rfl, hb⟩
          exact ⟨_, rfl, _, rfl, rfl, hb, grown_below hG hb, fun _ h => ⟨own_below h.1 hb, newer_trans h.2 hb⟩⟩
        ·intro a W hG hG1 hO hp; have h12 := hO.slot 12 (by kernel_rfl); refine wp_yields (v := vi 0) ?_ ⟨_, rfl, rfl, newer_refl _, hG, fun _ h => h⟩; simp [slotOf] at h12; simp [execOp, go_sem, h12]
        ·intro a W hG hG1 hO hp; have h103 : slotOf a 103 = vi (cF_ k b) := hp.1; have h104 : slotOf a 104 = vi 0 := hp.2.1; refine wp_yields (v := vi (T r k b)) ?_ ⟨_, rfl, rfl, newer_refl _, hG, fun _ h => h⟩; simp [slotOf] at h103 h104; simp [execOp, go_sem, h103, h104, hadd]
        ·intro a W hG hG1 hO hp; have h105 : slotOf a 105 = vi (T r k b) := hp.1; refine wp_makes (v := .slice (some ⟨W.heap.size, 0, none⟩) 1 1) (W' := W.alloc (.cells #[vi (T r k b)] 3)) ?_ ⟨_, rfl, ⟨_, rfl, hG.size, Whole.made _ _ _⟩, newer_allocH _ _, grown_alloc hG _, fun _ h => ⟨own_below h.1 (newer_allocH _ _), newer_trans h.2 (newer_allocH _ _)⟩⟩; simp [slotOf] at h105; simp [execOp, go_sem, h105]
        ·intro a W hG hG1 hO hp; have h99 : slotOf a 99 = .slice y9.a b y9.c := hp.1; have h106 := hp.2.1; obtain ⟨nb, h106, hnb, hW⟩ := h106; obtain ⟨ho, hnw⟩ := hG1 rfl; obtain ⟨i0, hi, hz0, hz1, hz2⟩ := info_parts info_int; refine wp_append_one (.tmp 99) (.tmp 106) 25 rfl w.heap.size 3 i0 (.int .i64 0) 8 Try.underlying25 hi hz0 hz1 hz2 rfl y9.a b y9.c (y9.l.map vi) ((eval_slot a 99).trans h99) ho ⟨nb, 0, none⟩ 1 (vi (T r k b)) ((eval_slot a 106).trans h106) (hW.at 0 rfl) rfl (by unfold maxLen; omega) (by omega) (HNG.out W hG).size ?_; intro g3 c3 w1 hown hon0; have hon : Onto1 y9.a y9.c g3 c3 W w1 := hon0; exact ⟨_, rfl, ⟨g3, c3, rfl, hown, hon.ahead hnw⟩, hon.grown, grown_trans' hG hon.grown, fun e => absurd rfl e⟩
       ·intro wk hG
        rintro _ rfl _ rfl _ rfl _ rfl _ rfl _ rfl _ rfl _ rfl _ rfl _ rfl _ rfl _ rfl _ rfl _ rfl _ rfl _ rfl _ rfl _ rfl _ hv106 _ ⟨g3, c3, rfl, hown, hon⟩
        change wpList _ _ _ _ _ _
        simp only [Act.put, List.setIfInBounds_toArray, List.set_cons_zero, List.set_cons_succ, List.drop_succ_cons, List.drop_zero]
        obtain ⟨cyW, fzW, us2, hpj⟩ := HPUT.out g3 c3 wk hon hown
        have HE := Lib.hid hpj
        clear hpj hown hon hG hv106 x1 l0 l1 l2 l3 hadd hr9
        go_wp2_with fail
        refine ⟨⟨b + 1, us2, by simp, by omega, HE.out⟩, ?_⟩
        simp [intOf]
        omega
      case neg =>
       have e0 : ((r : Int) == 0) = true := by rw [beq_iff_eq]; omega
       have e2 : ¬ (0 < r) := by omega
       have e2I : ¬ (0 < (r : Int)) := by omega
       have qkI : ¬ (0 < (k : Int)) := by omega
       have e1 : ((r : Int) == s.least - 1) = false := by have := HN1.out; rw [beq_eq_false_iff_ne]; omega
       obtain ⟨bv, hbv⟩ : ∃ bv : Int, bv = 0 := ⟨_, rfl⟩
       have HBV : Hid (befM cF_ bigN farN n K r k b = bv) := Lib.hid (by unfold befM befN; rw [hbv, <- hT]; rw [if_neg (by omega), if_neg (by omega), if_pos (by omega)])
       clear q0 ql
       have HJ6 := Lib.hid (HJ5.out.next (newer_refl wr))
       obtain ⟨y9, g9, xc9, cx, cy, hyo, n1, n2, n3, hrow, hput⟩ := HJ6.out.num hltk
       have HCX := Lib.hid (And.intro cx cy)
       have HNE := Lib.hid (And.intro n1 (And.intro n2 (And.intro n3 hrow)))
       have HYO := Lib.hid hyo
       have HPUT := Lib.hid hput
       have HNG : Hid (∀ W2, wr.grownBy W2 (Value.slice y9.a b y9.c).ownBlock -> newer w W2) := Lib.hid (fun W2 h => HJ6.out.tp.nw.grown h HJ6.out.tp.nw.size (fun q hq => (HNE.out.2.2.2 q hq).1))
       have hnB : ∀ q, (Value.slice y9.a b y9.c).ownBlock = some q -> q < wr.heap.size := fun q hq => (HNE.out.2.2.2 q hq).2
       have HNB := Lib.hid hnB
       have hr9 : (r : Int) < (xs.length : Int) + 1 := by have := HLE.out; omega
       have hadd : IntKind.i64.wrap (cF_ k b) = T r k b := by
        have e : T r k b = cF_ k b := by rw [hT, tab_is, HBV.out, hbv]; exact Int.add_zero _
        rw [<- e]
        have := HTB.out r k b (by have := HN1.out; omega) hltk hltb
        exact IntWalk.i64_in _ (by omega)
       clear cx cy hyo n1 n2 n3 hrow hput hnB hbv
       go_upto_region 23 with fail
       refine wp_words (by kernel_rfl) (region_tale 20 (by kernel_rfl) (by kernel_rfl) 19 (fun W => wr.grownBy W (Value.slice y9.a b y9.c).ownBlock) (fun W => W.ownsRow w.heap.size 3 1 (.slice y9.a b y9.c) b (y9.l.map vi) /\ newer wr W) (relAt 19 (fun W W' => W.grownBy W' (Value.slice y9.a b y9.c).ownBlock)) (pickD [vIs (.slice (some ⟨g2, 0, none⟩) (xs.length + 1) c2), vIs (vi r), vIs (.pointer (some ⟨g2, r, none⟩)), vIs (.slice (some ⟨g9, 0, none⟩) s.cs.length xc9), vIs (vi k), vIs (.slice (some ⟨g2, 0, none⟩) (xs.length + 1) c2), vIs (vi r), vIs (.pointer (some ⟨g2, r, none⟩)), vIs (.slice (some ⟨g9, 0, none⟩) s.cs.length xc9), vIs (vi k), vIs (.pointer (some ⟨g9, k, none⟩)), vIs (.slice y9.a b y9.c), vIs (lkV s f (some false)), vIs (vi k), vIs (vi b), vIs (vi (cF_ k b)), vIs (vi 0), vIs (vi (T r k b)), vOne wr.heap.size 3 #[vi (T r k b)], vOn1 w.heap.size y9.a b y9.c y9.l (T r k b) wr]) (allBut_ok (fun _ _ h => grown_of_newer h _) _ ⟨vIs_st, vIs_st, vIs_st, vIs_st, vIs_st, vIs_st, vIs_st, vIs_st, vIs_st, vIs_st, vIs_st, vIs_st, vIs_st, vIs_st, vIs_st, vIs_st, vIs_st, vIs_st, vOne_grown HNB.out, vOn1_st, trivial⟩) (by decide) (grown_drew (grown_refl _ _)) ⟨HYO.out, (Below.refl _ _).drew⟩ ?_ ?_)
       ·refine ⟨?_, ?_, ?_, ?_, ?_, ?_, ?_, ?_, ?_, ?_, ?_, ?_, ?_, ?_, ?_, ?_, ?_, ?_, ?_, ?_, trivial⟩
        ·intro a W hG hG1 hO hp; have h8 := hO.slot 8 (by kernel_rfl); refine wp_yields (v := .slice (some ⟨g2, 0, none⟩) (xs.length + 1) c2) ?_ ⟨_, rfl, rfl, newer_refl _, hG, fun _ h => h⟩; simp [slotOf] at h8; simp [execOp, go_sem, h8]
        ·intro a W hG hG1 hO hp; have h9 := hO.slot 9 (by kernel_rfl); refine wp_yields (v := vi r) ?_ ⟨_, rfl, rfl, newer_refl _, hG, fun _ h => h⟩; simp [slotOf] at h9; simp [execOp, go_sem, h9]
        ·intro a W hG hG1 hO hp; have h88 : slotOf a 88 = .slice (some ⟨g2, 0, none⟩) (xs.length + 1) c2 := hp.1; have h89 : slotOf a 89 = vi r := hp.2.1; refine wp_yields (v := .pointer (some ⟨g2, r, none⟩)) ?_ ⟨_, rfl, rfl, newer_refl _, hG, fun _ h => h⟩; simp [slotOf] at h88 h89; simp [execOp, go_sem, h88, h89, hr9]
        ·intro a W hG hG1 hO hp; have h90 : slotOf a 90 = .pointer (some ⟨g2, r, none⟩) := hp.1; have c0 := hG.cell HCX.out.1 HNE.out.1; refine wp_yields (v := .slice (some ⟨g9, 0, none⟩) s.cs.length xc9) ?_ ⟨_, rfl, rfl, newer_refl _, hG, fun _ h => h⟩; simp [slotOf] at h90; simp [execOp, go_sem, h90, c0]
        ·intro a W hG hG1 hO hp; have h10 := hO.slot 10 (by kernel_rfl); refine wp_yields (v := vi k) ?_ ⟨_, rfl, rfl, newer_refl _, hG, fun _ h => h⟩; simp [slotOf] at h10; simp [execOp, go_sem, h10]
        ·intro a W hG hG1 hO hp; have h8 := hO.slot 8 (by kernel_rfl); refine wp_yields (v := .slice (some ⟨g2, 0, none⟩) (xs.length + 1) c2) ?_ ⟨_, rfl, rfl, newer_refl _, hG, fun _ h => h⟩; simp [slotOf] at h8; simp [execOp, go_sem, h8]
        ·intro a W hG hG1 hO hp; have h9 := hO.slot 9 (by kernel_rfl); refine wp_yields (v := vi r) ?_ ⟨_, rfl, rfl, newer_refl _, hG, fun _ h => h⟩; simp [slotOf] at h9; simp [execOp, go_sem, h9]
        ·intro a W hG hG1 hO hp; have h93 : slotOf a 93 = .slice (some ⟨g2, 0, none⟩) (xs.length + 1) c2 := hp.1; have h94 : slotOf a 94 = vi r := hp.2.1; refine wp_yields (v := .pointer (some ⟨g2, r, none⟩)) ?_ ⟨_, rfl, rfl, newer_refl _, hG, fun _ h => h⟩; simp [slotOf] at h93 h94; simp [execOp, go_sem, h93, h94, hr9]
        ·intro a W hG hG1 hO hp; have h95 : slotOf a 95 = .pointer (some ⟨g2, r, none⟩) := hp.1; have c0 := hG.cell HCX.out.1 HNE.out.1; refine wp_yields (v := .slice (some ⟨g9, 0, none⟩) s.cs.length xc9) ?_ ⟨_, rfl, rfl, newer_refl _, hG, fun _ h => h⟩; simp [slotOf] at h95; simp [execOp, go_sem, h95, c0]
        ·intro a W hG hG1 hO hp; have h10 := hO.slot 10 (by kernel_rfl); refine wp_yields (v := vi k) ?_ ⟨_, rfl, rfl, newer_refl _, hG, fun _ h => h⟩; simp [slotOf] at h10; simp [execOp, go_sem, h10]
        ·intro a W hG hG1 hO hp; have h96 : slotOf a 96 = .slice (some ⟨g9, 0, none⟩) s.cs.length xc9 := hp.1; have h97 : slotOf a 97 = vi k := hp.2.1; refine wp_yields (v := .pointer (some ⟨g9, k, none⟩)) ?_ ⟨_, rfl, rfl, newer_refl _, hG, fun _ h => h⟩; simp [slotOf] at h96 h97; simp [execOp, go_sem, h96, h97, hltkI]
        ·intro a W hG hG1 hO hp; have h98 : slotOf a 98 = .pointer (some ⟨g9, k, none⟩) := hp.1; have c0 := hG.cell HCX.out.2 HNE.out.2.1; refine wp_yields (v := .slice y9.a b y9.c) ?_ ⟨_, rfl, rfl, newer_refl _, hG, fun _ h => h⟩; simp [slotOf] at h98; simp [execOp, go_sem, h98, c0]
        ·intro a W hG hG1 hO hp; have h7 := hO.slot 7 (by kernel_rfl); have c0 := hG.cell l0 HNE.out.2.2.1; have c1 := hG.cell l1 HNE.out.2.2.1; have c2 := hG.cell l2 HNE.out.2.2.1; have c3 := hG.cell l3 HNE.out.2.2.1; refine wp_yields (v := lkV s f (some false)) ?_ ⟨_, rfl, rfl, newer_refl _, hG, fun _ h => h⟩; simp [slotOf] at h7; simp [execOp, go_sem, h7, c0, c1, c2, c3]
        ·intro a W hG hG1 hO hp; have h10 := hO.slot 10 (by kernel_rfl); refine wp_yields (v := vi k) ?_ ⟨_, rfl, rfl, newer_refl _, hG, fun _ h => h⟩; simp [slotOf] at h10; simp [execOp, go_sem, h10]
        ·intro a W hG hG1 hO hp; have h11 := hO.slot 11 (by kernel_rfl); refine wp_yields (v := vi b) ?_ ⟨_, rfl, rfl, newer_refl _, hG, fun _ h => h⟩; simp [slotOf] at h11; simp [execOp, go_sem, h11]
        ·intro a W hG hG1 hO hp
         have h100 : slotOf a 100 = lkV s f (some false) := hp.1
         have h101 : slotOf a 101 = vi k := hp.2.1
         have h102 : slotOf a 102 = vi b := hp.2.2.1
         refine wp_enters (f := 84) (args := #[lkV s f (some false), vi k, vi b]) ?_ ((HCO.out k b W hltk hltb (HNG.out W hG)).mono ?_)
         ·simp [slotOf] at h100 h101 h102
          simp [go_sem, h100, h101, h102]
         ·rintro e w' ⟨rfl, hb⟩
          exact ⟨_, rfl, _, rfl, rfl, hb, grown_below hG hb, fun _ h => ⟨own_below h.1 hb, newer_trans h.2 hb⟩⟩
        ·intro a W hG hG1 hO hp; have h12 := hO.slot 12 (by kernel_rfl); refine wp_yields (v := vi 0) ?_ ⟨_, rfl, rfl, newer_refl _, hG, fun _ h => h⟩; simp [slotOf] at h12; simp [execOp, go_sem, h12]
        ·intro a W hG hG1 hO hp; have h103 : slotOf a 103 = vi (cF_ k b) := hp.1; have h104 : slotOf a 104 = vi 0 := hp.2.1; refine wp_yields (v := vi (T r k b)) ?_ ⟨_, rfl, rfl, newer_refl _, hG, fun _ h => h⟩; simp [slotOf] at h103 h104; simp [execOp, go_sem, h103, h104, hadd]
        ·intro a W hG hG1 hO hp; have h105 : slotOf a 105 = vi (T r k b) := hp.1; refine wp_makes (v := .slice (some ⟨W.heap.size, 0, none⟩) 1 1) (W' := W.alloc (.cells #[vi (T r k b)] 3)) ?_ ⟨_, rfl, ⟨_, rfl, hG.size, Whole.made _ _ _⟩, newer_allocH _ _, grown_alloc hG _, fun _ h => ⟨own_below h.1 (newer_allocH _ _), newer_trans h.2 (newer_allocH _ _)⟩⟩; simp [slotOf] at h105; simp [execOp, go_sem, h105]
        ·intro a W hG hG1 hO hp; have h99 : slotOf a 99 = .slice y9.a b y9.c := hp.1; have h106 := hp.2.1; obtain ⟨nb, h106, hnb, hW⟩ := h106; obtain ⟨ho, hnw⟩ := hG1 rfl; obtain ⟨i0, hi, hz0, hz1, hz2⟩ := info_parts info_int; refine wp_append_one (.tmp 99) (.tmp 106) 25 rfl w.heap.size 3 i0 (.int .i64 0) 8 Try.underlying25 hi hz0 hz1 hz2 rfl y9.a b y9.c (y9.l.map vi) ((eval_slot a 99).trans h99) ho ⟨nb, 0, none⟩ 1 (vi (T r k b)) ((eval_slot a 106).trans h106) (hW.at 0 rfl) rfl (by unfold maxLen; omega) (by omega) (HNG.out W hG).size ?_; intro g3 c3 w1 hown hon0; have hon : Onto1 y9.a y9.c g3 c3 W w1 := hon0; exact ⟨_, rfl, ⟨g3, c3, rfl, hown, hon.ahead hnw⟩, hon.grown, grown_trans' hG hon.grown, fun e => absurd rfl e⟩
       ·intro wk hG
        rintro _ rfl _ rfl _ rfl _ rfl _ rfl _ rfl _ rfl _ rfl _ rfl _ rfl _ rfl _ rfl _ rfl _ rfl _ rfl _ rfl _ rfl _ rfl _ hv106 _ ⟨g3, c3, rfl, hown, hon⟩
        change wpList _ _ _ _ _ _
        simp only [Act.put, List.setIfInBounds_toArray, List.set_cons_zero, List.set_cons_succ, List.drop_succ_cons, List.drop_zero]
        obtain ⟨cyW, fzW, us2, hpj⟩ := HPUT.out g3 c3 wk hon hown
        have HE := Lib.hid hpj
        clear hpj hown hon hG hv106 x1 l0 l1 l2 l3 hadd hr9
        go_wp2_with fail
        refine ⟨⟨b + 1, us2, by simp, by omega, HE.out⟩, ?_⟩
        simp [intOf]
        omega
    case neg =>
     by_cases qk : 0 < k
     case pos =>
      by_cases ql : r = K - 1
      case pos =>
       have e0 : ((r : Int) == 0) = false := by rw [beq_eq_false_iff_ne]; omega
       have e2 : 0 < r := by omega
       have e2I : 0 < (r : Int) := by omega
       have qkI : 0 < (k : Int) := by omega
       have e1 : ((r : Int) == s.least - 1) = true := by have := HN1.out; rw [beq_iff_eq]; omega
       obtain ⟨k1, hk⟩ : ∃ k1, k1 = k - 1 := ⟨_, rfl⟩
       have hk1 : IntKind.i64.wrap ((k : Int) - 1) = k1 := by rw [IntWalk.i64_in _ (by omega)]; omega
       have hk2 : (k1 : Int) < s.cs.length := by omega
       obtain ⟨r1, hr1e⟩ : ∃ r1, r1 = r - 1 := ⟨_, rfl⟩
       have hr1 : IntKind.i64.wrap ((r : Int) - 1) = r1 := by rw [IntWalk.i64_in _ (by omega)]; omega
       have hr2 : (r1 : Int) < (xs.length : Int) + 1 := by have := HLE.out; omega
       obtain ⟨X1, Y1, p1, c1, c2_, HB1⟩ := HROW.out r1 k1 (by omega) (by omega) (by unfold cntP; rw [if_pos (by omega)])
       obtain ⟨b1, hb1⟩ : ∃ b1, b1 = behindN bigN n (T r1 k1) b := ⟨_, rfl⟩
       rw [<- hb1] at HB1
       have HB1 := Lib.hid HB1
       have HC1 := Lib.hid c1
       have HC2 := Lib.hid c2_
       clear c1 c2_
       have hr3 : (r : Int) < (xs.length : Int) + 1 := by have := HLE.out; omega
       obtain ⟨X2, Y2, p2, c3, c4, HB2⟩ := HROW.out r k1 (by omega) (by omega) (by unfold cntP; rw [if_pos (by omega)])
       obtain ⟨b2, hb2⟩ : ∃ b2, b2 = behindN bigN n (T r k1) b := ⟨_, rfl⟩
       rw [<- hb2] at HB2
       have HB2 := Lib.hid HB2
       have HC3 := Lib.hid c3
       have HC4 := Lib.hid c4
       clear c3 c4
       obtain ⟨bv, hbv⟩ : ∃ bv : Int, bv = mnI b1 b2 := ⟨_, rfl⟩
       have HBV : Hid (befM cF_ bigN farN n K r k b = bv) := Lib.hid (by unfold befM befN; rw [hbv, hb1, hr1e, hb2, hk, <- hT]; rw [if_pos (by omega), if_pos (by omega)])
       clear q0 ql hk hb1 hr1e hb2
       go_upto_region 20 with fail
       refine wp_words (by kernel_rfl) (region_told 12 (by kernel_rfl) (by kernel_rfl) (fun W => Below wr.heap.size wr W) newer (pickD [vIs (lkV s f (some false)), vIs (.slice (some ⟨g2, 0, none⟩) (xs.length + 1) c2), vIs (vi r), vIs (vi r1), vIs (.pointer (some ⟨g2, r1, none⟩)), vIs (.slice (some ⟨p1, 0, none⟩) s.cs.length X1.c), vIs (vi k), vIs (vi k1), vIs (.pointer (some ⟨p1, k1, none⟩)), vIs (.slice Y1.a Y1.l.length Y1.c), vIs (vi b), vIs (vi b1)]) (fun h k => newer_trans h k) (pickD_stable _ ⟨vIs_st, vIs_st, vIs_st, vIs_st, vIs_st, vIs_st, vIs_st, vIs_st, vIs_st, vIs_st, vIs_st, vIs_st, trivial⟩) (Below.refl _ wr).drew (Below.refl _ _) ?_ ?_)
       ·refine ⟨?_, ?_, ?_, ?_, ?_, ?_, ?_, ?_, ?_, ?_, ?_, ?_, trivial⟩
        ·intro a W hG hR hO hp; have h7 := hO.slot 7 (by kernel_rfl); have c0 := keep_cell l0 hG; have c1 := keep_cell l1 hG; have c2 := keep_cell l2 hG; have c3 := keep_cell l3 hG; refine kY (v := lkV s f (some false)) hG rfl ?_; simp [slotOf] at h7; simp [execOp, go_sem, h7, c0, c1, c2, c3]
        ·exact fun a W hG _ hO _ => kM 8 rfl (hO.slot 8 (by kernel_rfl)) rfl hG
        ·exact fun a W hG _ hO _ => kM 9 rfl (hO.slot 9 (by kernel_rfl)) rfl hG
        ·intro a W hG hR hO hp; have h55 : slotOf a 55 = vi r := hp.1; refine kY (v := vi r1) hG rfl ?_; simp [slotOf] at h55; simp [execOp, go_sem, h55, hr1]
        ·intro a W hG hR hO hp; have h54 : slotOf a 54 = .slice (some ⟨g2, 0, none⟩) (xs.length + 1) c2 := hp.1; have h56 : slotOf a 56 = vi r1 := hp.2.1; refine kY (v := .pointer (some ⟨g2, r1, none⟩)) hG rfl ?_; simp [slotOf] at h54 h56; simp [execOp, go_sem, h54, h56, hr2]
        ·intro a W hG hR hO hp; have h57 : slotOf a 57 = .pointer (some ⟨g2, r1, none⟩) := hp.1; have c0 := HC1.out W hG; refine kY (v := .slice (some ⟨p1, 0, none⟩) s.cs.length X1.c) hG rfl ?_; simp [slotOf] at h57; simp [execOp, go_sem, h57, c0]
        ·exact fun a W hG _ hO _ => kM 10 rfl (hO.slot 10 (by kernel_rfl)) rfl hG
        ·intro a W hG hR hO hp; have h59 : slotOf a 59 = vi k := hp.1; refine kY (v := vi k1) hG rfl ?_; simp [slotOf] at h59; simp [execOp, go_sem, h59, hk1]
        ·intro a W hG hR hO hp; have h58 : slotOf a 58 = .slice (some ⟨p1, 0, none⟩) s.cs.length X1.c := hp.1; have h60 : slotOf a 60 = vi k1 := hp.2.1; refine kY (v := .pointer (some ⟨p1, k1, none⟩)) hG rfl ?_; simp [slotOf] at h58 h60; simp [execOp, go_sem, h58, h60, hk2]
        ·intro a W hG hR hO hp; have h61 : slotOf a 61 = .pointer (some ⟨p1, k1, none⟩) := hp.1; have c0 := HC2.out W hG; refine kY (v := .slice Y1.a Y1.l.length Y1.c) hG rfl ?_; simp [slotOf] at h61; simp [execOp, go_sem, h61, c0]
        ·exact fun a W hG _ hO _ => kM 11 rfl (hO.slot 11 (by kernel_rfl)) rfl hG
        ·intro a W hG hR hO hp
         have h53 : slotOf a 53 = lkV s f (some false) := hp.1
         have h62 : slotOf a 62 = .slice Y1.a Y1.l.length Y1.c := hp.2.1
         have h63 : slotOf a 63 = vi b := hp.2.2.1
         refine wp_enters (f := 82) (args := #[lkV s f (some false), .slice Y1.a Y1.l.length Y1.c, vi b]) ?_ ((HB1.out W hG).mono ?_)
         ·simp [slotOf] at h53 h62 h63
          simp [go_sem, h53, h62, h63]
         ·rintro e w' ⟨rfl, hb⟩
          exact ⟨_, rfl, _, rfl, rfl, hb, below_next hG hb⟩
       ·intro wz hG hR
        rintro _ rfl _ rfl _ rfl _ rfl _ rfl _ rfl _ rfl _ rfl _ rfl _ rfl _ rfl _ rfl
        change wpList _ _ _ _ _ _
        simp only [Act.put, List.setIfInBounds_toArray, List.set_cons_zero, List.set_cons_succ, List.drop_succ_cons, List.drop_zero]
        have HG := Lib.hid (show newer wr wz from hG)
        clear hG hR
        have x1 := keep_cell x1 HG.out
        have l0 := keep_cell l0 HG.out
        have l1 := keep_cell l1 HG.out
        have l2 := keep_cell l2 HG.out
        have l3 := keep_cell l3 HG.out
        go_upto_region 22 with fail
        refine wp_words (by kernel_rfl) (region_told 14 (by kernel_rfl) (by kernel_rfl) (fun W => Below wz.heap.size wz W) newer (pickD [vIs (vi b1), vIs (lkV s f (some false)), vIs (.slice (some ⟨g2, 0, none⟩) (xs.length + 1) c2), vIs (vi r), vIs (.pointer (some ⟨g2, r, none⟩)), vIs (.slice (some ⟨p2, 0, none⟩) s.cs.length X2.c), vIs (vi k), vIs (vi k1), vIs (.pointer (some ⟨p2, k1, none⟩)), vIs (.slice Y2.a Y2.l.length Y2.c), vIs (vi b), vIs (vi b2), vTwoN wz.heap.size b1 b2, vIs (vi (mnI b1 b2))]) (fun h k => newer_trans h k) (pickD_stable _ ⟨vIs_st, vIs_st, vIs_st, vIs_st, vIs_st, vIs_st, vIs_st, vIs_st, vIs_st, vIs_st, vIs_st, vIs_st, vTwoN_st, vIs_st, trivial⟩) (Below.refl _ wz).drew (Below.refl _ _) ?_ ?_)
        ·refine ⟨?_, ?_, ?_, ?_, ?_, ?_, ?_, ?_, ?_, ?_, ?_, ?_, ?_, ?_, trivial⟩
         ·exact fun a W hG _ hO _ => kM 12 rfl (hO.slot 12 (by kernel_rfl)) rfl hG
         ·intro a W hG hR hO hp; have h7 := hO.slot 7 (by kernel_rfl); have c0 := keep_cell l0 hG; have c1 := keep_cell l1 hG; have c2 := keep_cell l2 hG; have c3 := keep_cell l3 hG; refine kY (v := lkV s f (some false)) hG rfl ?_; simp [slotOf] at h7; simp [execOp, go_sem, h7, c0, c1, c2, c3]
         ·exact fun a W hG _ hO _ => kM 8 rfl (hO.slot 8 (by kernel_rfl)) rfl hG
         ·exact fun a W hG _ hO _ => kM 9 rfl (hO.slot 9 (by kernel_rfl)) rfl hG
         ·intro a W hG hR hO hp; have h76 : slotOf a 76 = .slice (some ⟨g2, 0, none⟩) (xs.length + 1) c2 := hp.1; have h77 : slotOf a 77 = vi r := hp.2.1; refine kY (v := .pointer (some ⟨g2, r, none⟩)) hG rfl ?_; simp [slotOf] at h76 h77; simp [execOp, go_sem, h76, h77, hr3]
         ·intro a W hG hR hO hp; have h78 : slotOf a 78 = .pointer (some ⟨g2, r, none⟩) := hp.1; have c0 := HC3.out W (newer_trans HG.out hG); refine kY (v := .slice (some ⟨p2, 0, none⟩) s.cs.length X2.c) hG rfl ?_; simp [slotOf] at h78; simp [execOp, go_sem, h78, c0]
         ·exact fun a W hG _ hO _ => kM 10 rfl (hO.slot 10 (by kernel_rfl)) rfl hG
         ·intro a W hG hR hO hp; have h80 : slotOf a 80 = vi k := hp.1; refine kY (v := vi k1) hG rfl ?_; simp [slotOf] at h80; simp [execOp, go_sem, h80, hk1]
         ·intro a W hG hR hO hp; have h79 : slotOf a 79 = .slice (some ⟨p2, 0, none⟩) s.cs.length X2.c := hp.1; have h81 : slotOf a 81 = vi k1 := hp.2.1; refine kY (v := .pointer (some ⟨p2, k1, none⟩)) hG rfl ?_; simp [slotOf] at h79 h81; simp [execOp, go_sem, h79, h81, hk2]
         ·intro a W hG hR hO hp; have h82 : slotOf a 82 = .pointer (some ⟨p2, k1, none⟩) := hp.1; have c0 := HC4.out W (newer_trans HG.out hG); refine kY (v := .slice Y2.a Y2.l.length Y2.c) hG rfl ?_; simp [slotOf] at h82; simp [execOp, go_sem, h82, c0]
         ·exact fun a W hG _ hO _ => kM 11 rfl (hO.slot 11 (by kernel_rfl)) rfl hG
         ·intro a W hG hR hO hp
          have h75 : slotOf a 75 = lkV s f (some false) := hp.1
          have h83 : slotOf a 83 = .slice Y2.a Y2.l.length Y2.c := hp.2.1
          have h84 : slotOf a 84 = vi b := hp.2.2.1
          refine wp_enters (f := 82) (args := #[lkV s f (some false), .slice Y2.a Y2.l.length Y2.c, vi b]) ?_ ((HB2.out W (newer_trans HG.out hG)).mono ?_)
          ·simp [slotOf] at h75 h83 h84
           simp [go_sem, h75, h83, h84]
          ·rintro e w' ⟨rfl, hb⟩
           exact ⟨_, rfl, _, rfl, rfl, hb, below_next hG hb⟩
         ·intro a W hG hR hO hp; have h74 : slotOf a 74 = vi b1 := hp.1; have h85 : slotOf a 85 = vi b2 := hp.2.1; refine wp_makes (v := .slice (some ⟨W.heap.size, 0, none⟩) 2 2) (W' := W.alloc (.cells #[vi b1, vi b2] 3)) ?_ ⟨_, rfl, ⟨W.heap.size, rfl, hG.size, Whole.made _ _ _⟩, newer_allocH _ _, below_next hG (newer_allocH _ _)⟩; simp [slotOf] at h74 h85; simp [execOp, go_sem, h74, h85]
         ·intro a W hG hR hO hp
          have h86 := hp.1
          obtain ⟨q, h86, hq1, hq3⟩ := h86
          refine wp_enters (f := 83) (args := #[.slice (some ⟨q, 0, none⟩) 2 2]) ?_ ((least2_any b1 b2 q 2 W hq3).mono ?_)
          ·simp [slotOf] at h86
           simp [go_sem, h86]
          ·rintro e w' ⟨rfl, rfl⟩
           exact ⟨_, rfl, _, rfl, rfl, Below.refl _ _, hG⟩
        ·intro wy hG hR
         rintro _ rfl _ rfl _ rfl _ rfl _ rfl _ rfl _ rfl _ rfl _ rfl _ rfl _ rfl _ rfl _ - _ rfl
         change wpList _ _ _ _ _ _
         simp only [Act.put, List.setIfInBounds_toArray, List.set_cons_zero, List.set_cons_succ, List.drop_succ_cons, List.drop_zero]
         have HG2 := Lib.hid (show newer wr wy from newer_trans HG.out hG)
         have l0 := keep_cell l0 hG
         have l1 := keep_cell l1 hG
         have l2 := keep_cell l2 hG
         have l3 := keep_cell l3 hG
         clear hG hR HG
         have HJ6 := Lib.hid (HJ5.out.next HG2.out)
         obtain ⟨y9, g9, xc9, cx, cy, hyo, n1, n2, n3, hrow, hput⟩ := HJ6.out.num hltk
         have HCX := Lib.hid (And.intro cx cy)
         have HNE := Lib.hid (And.intro n1 (And.intro n2 (And.intro n3 hrow)))
         have HYO := Lib.hid hyo
         have HPUT := Lib.hid hput
         have HNG : Hid (∀ W2, wy.grownBy W2 (Value.slice y9.a b y9.c).ownBlock -> newer w W2) := Lib.hid (fun W2 h => HJ6.out.tp.nw.grown h HJ6.out.tp.nw.size (fun q hq => (HNE.out.2.2.2 q hq).1))
         have hnB : ∀ q, (Value.slice y9.a b y9.c).ownBlock = some q -> q < wy.heap.size := fun q hq => (HNE.out.2.2.2 q hq).2
         have HNB := Lib.hid hnB
         have hr9 : (r : Int) < (xs.length : Int) + 1 := by have := HLE.out; omega
         have hadd : IntKind.i64.wrap (cF_ k b + mnI b1 b2) = T r k b := by
          have e : T r k b = cF_ k b + mnI b1 b2 := by rw [hT, tab_is, HBV.out, hbv]
          rw [<- e]
          have := HTB.out r k b (by have := HN1.out; omega) hltk hltb
          exact IntWalk.i64_in _ (by omega)
         clear cx cy hyo n1 n2 n3 hrow hput hnB hbv
         go_upto_region 23 with fail
         refine wp_words (by kernel_rfl) (region_tale 20 (by kernel_rfl) (by kernel_rfl) 19 (fun W => wy.grownBy W (Value.slice y9.a b y9.c).ownBlock) (fun W => W.ownsRow w.heap.size 3 1 (.slice y9.a b y9.c) b (y9.l.map vi) /\ newer wy W) (relAt 19 (fun W W' => W.grownBy W' (Value.slice y9.a b y9.c).ownBlock)) (pickD [vIs (.slice (some ⟨g2, 0, none⟩) (xs.length + 1) c2), vIs (vi r), vIs (.pointer (some ⟨g2, r, none⟩)), vIs (.slice (some ⟨g9, 0, none⟩) s.cs.length xc9), vIs (vi k), vIs (.slice (some ⟨g2, 0, none⟩) (xs.length + 1) c2), vIs (vi r), vIs (.pointer (some ⟨g2, r, none⟩)), vIs (.slice (some ⟨g9, 0, none⟩) s.cs.length xc9), vIs (vi k), vIs (.pointer (some ⟨g9, k, none⟩)), vIs (.slice y9.a b y9.c), vIs (lkV s f (some false)), vIs (vi k), vIs (vi b), vIs (vi (cF_ k b)), vIs (vi (mnI b1 b2)), vIs (vi (T r k b)), vOne wy.heap.size 3 #[vi (T r k b)], vOn1 w.heap.size y9.a b y9.c y9.l (T r k b) wy]) (allBut_ok (fun _ _ h => grown_of_newer h _) _ ⟨vIs_st, vIs_st, vIs_st, vIs_st, vIs_st, vIs_st, vIs_st, vIs_st, vIs_st, vIs_st, vIs_st, vIs_st, vIs_st, vIs_st, vIs_st, vIs_st, vIs_st, vIs_st, vOne_grown HNB.out, vOn1_st, trivial⟩) (by decide) (grown_drew (grown_refl _ _)) ⟨HYO.out, (Below.refl _ _).drew⟩ ?_ ?_)
         ·refine ⟨?_, ?_, ?_, ?_, ?_, ?_, ?_, ?_, ?_, ?_, ?_, ?_, ?_, ?_, ?_, ?_, ?_, ?_, ?_, ?_, trivial⟩
          ·intro a W hG hG1 hO hp; have h8 := hO.slot 8 (by kernel_rfl); refine wp_yields (v := .slice (some ⟨g2, 0, none⟩) (xs.length + 1) c2) ?_ ⟨_, rfl, rfl, newer_refl _, hG, fun _ h => h⟩; simp [slotOf] at h8; simp [execOp, go_sem, h8]
          ·intro a W hG hG1 hO hp; have h9 := hO.slot 9 (by kernel_rfl); refine wp_yields (v := vi r) ?_ ⟨_, rfl, rfl, newer_refl _, hG, fun _ h => h⟩; simp [slotOf] at h9; simp [execOp, go_sem, h9]
          ·intro a W hG hG1 hO hp; have h88 : slotOf a 88 = .slice (some ⟨g2, 0, none⟩) (xs.length + 1) c2 := hp.1; have h89 : slotOf a 89 = vi r := hp.2.1; refine wp_yields (v := .pointer (some ⟨g2, r, none⟩)) ?_ ⟨_, rfl, rfl, newer_refl _, hG, fun _ h => h⟩; simp [slotOf] at h88 h89; simp [execOp, go_sem, h88, h89, hr9]
          ·intro a W hG hG1 hO hp; have h90 : slotOf a 90 = .pointer (some ⟨g2, r, none⟩) := hp.1; have c0 := hG.cell HCX.out.1 HNE.out.1; refine wp_yields (v := .slice (some ⟨g9, 0, none⟩) s.cs.length xc9) ?_ ⟨_, rfl, rfl, newer_refl _, hG, fun _ h => h⟩; simp [slotOf] at h90; simp [execOp, go_sem, h90, c0]
          ·intro a W hG hG1 hO hp; have h10 := hO.slot 10 (by kernel_rfl); refine wp_yields (v := vi k) ?_ ⟨_, rfl, rfl, newer_refl _, hG, fun _ h => h⟩; simp [slotOf] at h10; simp [execOp, go_sem, h10]
          ·intro a W hG hG1 hO hp; have h8 := hO.slot 8 (by kernel_rfl); refine wp_yields (v := .slice (some ⟨g2, 0, none⟩) (xs.length + 1) c2) ?_ ⟨_, rfl, rfl, newer_refl _, hG, fun _ h => h⟩; simp [slotOf] at h8; simp [execOp, go_sem, h8]
          ·intro a W hG hG1 hO hp; have h9 := hO.slot 9 (by kernel_rfl); refine wp_yields (v := vi r) ?_ ⟨_, rfl, rfl, newer_refl _, hG, fun _ h => h⟩; simp [slotOf] at h9; simp [execOp, go_sem, h9]
          ·intro a W hG hG1 hO hp; have h93 : slotOf a 93 = .slice (some ⟨g2, 0, none⟩) (xs.length + 1) c2 := hp.1; have h94 : slotOf a 94 = vi r := hp.2.1; refine wp_yields (v := .pointer (some ⟨g2, r, none⟩)) ?_ ⟨_, rfl, rfl, newer_refl _, hG, fun _ h => h⟩; simp [slotOf] at h93 h94; simp [execOp, go_sem, h93, h94, hr9]
          ·intro a W hG hG1 hO hp; have h95 : slotOf a 95 = .pointer (some ⟨g2, r, none⟩) := hp.1; have c0 := hG.cell HCX.out.1 HNE.out.1; refine wp_yields (v := .slice (some ⟨g9, 0, none⟩) s.cs.length xc9) ?_ ⟨_, rfl, rfl, newer_refl _, hG, fun _ h => h⟩; simp [slotOf] at h95; simp [execOp, go_sem, h95, c0]
          ·intro a W hG hG1 hO hp; have h10 := hO.slot 10 (by kernel_rfl); refine wp_yields (v := vi k) ?_ ⟨_, rfl, rfl, newer_refl _, hG, fun _ h => h⟩; simp [slotOf] at h10; simp [execOp, go_sem, h10]
          ·intro a W hG hG1 hO hp; have h96 : slotOf a 96 = .slice (some ⟨g9, 0, none⟩) s.cs.length xc9 := hp.1; have h97 : slotOf a 97 = vi k := hp.2.1; refine wp_yields (v := .pointer (some ⟨g9, k, none⟩)) ?_ ⟨_, rfl, rfl, newer_refl _, hG, fun _ h => h⟩; simp [slotOf] at h96 h97; simp [execOp, go_sem, h96, h97, hltkI]
          ·intro a W hG hG1 hO hp; have h98 : slotOf a 98 = .pointer (some ⟨g9, k, none⟩) := hp.1; have c0 := hG.cell HCX.out.2 HNE.out.2.1; refine wp_yields (v := .slice y9.a b y9.c) ?_ ⟨_, rfl, rfl, newer_refl _, hG, fun _ h => h⟩; simp [slotOf] at h98; simp [execOp, go_sem, h98, c0]
          ·intro a W hG hG1 hO hp; have h7 := hO.slot 7 (by kernel_rfl); have c0 := hG.cell l0 HNE.out.2.2.1; have c1 := hG.cell l1 HNE.out.2.2.1; have c2 := hG.cell l2 HNE.out.2.2.1; have c3 := hG.cell l3 HNE.out.2.2.1; refine wp_yields (v := lkV s f (some false)) ?_ ⟨_, rfl, rfl, newer_refl _, hG, fun _ h => h⟩; simp [slotOf] at h7; simp [execOp, go_sem, h7, c0, c1, c2, c3]
          ·intro a W hG hG1 hO hp; have h10 := hO.slot 10 (by kernel_rfl); refine wp_yields (v := vi k) ?_ ⟨_, rfl, rfl, newer_refl _, hG, fun _ h => h⟩; simp [slotOf] at h10; simp [execOp, go_sem, h10]
          ·intro a W hG hG1 hO hp; have h11 := hO.slot 11 (by kernel_rfl); refine wp_yields (v := vi b) ?_ ⟨_, rfl, rfl, newer_refl _, hG, fun _ h => h⟩; simp [slotOf] at h11; simp [execOp, go_sem, h11]
          ·intro a W hG hG1 hO hp
           have h100 : slotOf a 100 = lkV s f (some false) := hp.1
           have h101 : slotOf a 101 = vi k := hp.2.1
           have h102 : slotOf a 102 = vi b := hp.2.2.1
           refine wp_enters (f := 84) (args := #[lkV s f (some false), vi k, vi b]) ?_ ((HCO.out k b W hltk hltb (HNG.out W hG)).mono ?_)
           ·simp [slotOf] at h100 h101 h102
            simp [go_sem, h100, h101, h102]
           ·rintro e w' ⟨rfl, hb⟩
            exact ⟨_, rfl, _, rfl, rfl, hb, grown_below hG hb, fun _ h => ⟨own_below h.1 hb, newer_trans h.2 hb⟩⟩
          ·intro a W hG hG1 hO hp; have h12 := hO.slot 12 (by kernel_rfl); refine wp_yields (v := vi (mnI b1 b2)) ?_ ⟨_, rfl, rfl, newer_refl _, hG, fun _ h => h⟩; simp [slotOf] at h12; simp [execOp, go_sem, h12]
          ·intro a W hG hG1 hO hp; have h103 : slotOf a 103 = vi (cF_ k b) := hp.1; have h104 : slotOf a 104 = vi (mnI b1 b2) := hp.2.1; refine wp_yields (v := vi (T r k b)) ?_ ⟨_, rfl, rfl, newer_refl _, hG, fun _ h => h⟩; simp [slotOf] at h103 h104; simp [execOp, go_sem, h103, h104, hadd]
          ·intro a W hG hG1 hO hp; have h105 : slotOf a 105 = vi (T r k b) := hp.1; refine wp_makes (v := .slice (some ⟨W.heap.size, 0, none⟩) 1 1) (W' := W.alloc (.cells #[vi (T r k b)] 3)) ?_ ⟨_, rfl, ⟨_, rfl, hG.size, Whole.made _ _ _⟩, newer_allocH _ _, grown_alloc hG _, fun _ h => ⟨own_below h.1 (newer_allocH _ _), newer_trans h.2 (newer_allocH _ _)⟩⟩; simp [slotOf] at h105; simp [execOp, go_sem, h105]
          ·intro a W hG hG1 hO hp; have h99 : slotOf a 99 = .slice y9.a b y9.c := hp.1; have h106 := hp.2.1; obtain ⟨nb, h106, hnb, hW⟩ := h106; obtain ⟨ho, hnw⟩ := hG1 rfl; obtain ⟨i0, hi, hz0, hz1, hz2⟩ := info_parts info_int; refine wp_append_one (.tmp 99) (.tmp 106) 25 rfl w.heap.size 3 i0 (.int .i64 0) 8 Try.underlying25 hi hz0 hz1 hz2 rfl y9.a b y9.c (y9.l.map vi) ((eval_slot a 99).trans h99) ho ⟨nb, 0, none⟩ 1 (vi (T r k b)) ((eval_slot a 106).trans h106) (hW.at 0 rfl) rfl (by unfold maxLen; omega) (by omega) (HNG.out W hG).size ?_; intro g3 c3 w1 hown hon0; have hon : Onto1 y9.a y9.c g3 c3 W w1 := hon0; exact ⟨_, rfl, ⟨g3, c3, rfl, hown, hon.ahead hnw⟩, hon.grown, grown_trans' hG hon.grown, fun e => absurd rfl e⟩
         ·intro wk hG
          rintro _ rfl _ rfl _ rfl _ rfl _ rfl _ rfl _ rfl _ rfl _ rfl _ rfl _ rfl _ rfl _ rfl _ rfl _ rfl _ rfl _ rfl _ rfl _ hv106 _ ⟨g3, c3, rfl, hown, hon⟩
          change wpList _ _ _ _ _ _
          simp only [Act.put, List.setIfInBounds_toArray, List.set_cons_zero, List.set_cons_succ, List.drop_succ_cons, List.drop_zero]
          obtain ⟨cyW, fzW, us2, hpj⟩ := HPUT.out g3 c3 wk hon hown
          have HE := Lib.hid hpj
          clear hpj hown hon hG hv106 x1 l0 l1 l2 l3 hadd hr9
          go_wp2_with fail
          refine ⟨⟨b + 1, us2, by simp, by omega, HE.out⟩, ?_⟩
          simp [intOf]
          omega
      case neg =>
       have e0 : ((r : Int) == 0) = false := by rw [beq_eq_false_iff_ne]; omega
       have e2 : 0 < r := by omega
       have e2I : 0 < (r : Int) := by omega
       have qkI : 0 < (k : Int) := by omega
       have e1 : ((r : Int) == s.least - 1) = false := by have := HN1.out; rw [beq_eq_false_iff_ne]; omega
       obtain ⟨k1, hk⟩ : ∃ k1, k1 = k - 1 := ⟨_, rfl⟩
       have hk1 : IntKind.i64.wrap ((k : Int) - 1) = k1 := by rw [IntWalk.i64_in _ (by omega)]; omega
       have hk2 : (k1 : Int) < s.cs.length := by omega
       obtain ⟨r1, hr1e⟩ : ∃ r1, r1 = r - 1 := ⟨_, rfl⟩
       have hr1 : IntKind.i64.wrap ((r : Int) - 1) = r1 := by rw [IntWalk.i64_in _ (by omega)]; omega
       have hr2 : (r1 : Int) < (xs.length : Int) + 1 := by have := HLE.out; omega
       obtain ⟨X1, Y1, p1, c1, c2_, HB1⟩ := HROW.out r1 k1 (by omega) (by omega) (by unfold cntP; rw [if_pos (by omega)])
       obtain ⟨b1, hb1⟩ : ∃ b1, b1 = behindN bigN n (T r1 k1) b := ⟨_, rfl⟩
       rw [<- hb1] at HB1
       have HB1 := Lib.hid HB1
       have HC1 := Lib.hid c1
       have HC2 := Lib.hid c2_
       clear c1 c2_
       obtain ⟨bv, hbv⟩ : ∃ bv : Int, bv = b1 := ⟨_, rfl⟩
       have HBV : Hid (befM cF_ bigN farN n K r k b = bv) := Lib.hid (by unfold befM befN; rw [hbv, hb1, hr1e, hk, <- hT]; rw [if_neg (by omega), if_pos (by omega)])
       clear q0 ql hk hb1 hr1e
       go_upto_region 20 with fail
       refine wp_words (by kernel_rfl) (region_told 12 (by kernel_rfl) (by kernel_rfl) (fun W => Below wr.heap.size wr W) newer (pickD [vIs (lkV s f (some false)), vIs (.slice (some ⟨g2, 0, none⟩) (xs.length + 1) c2), vIs (vi r), vIs (vi r1), vIs (.pointer (some ⟨g2, r1, none⟩)), vIs (.slice (some ⟨p1, 0, none⟩) s.cs.length X1.c), vIs (vi k), vIs (vi k1), vIs (.pointer (some ⟨p1, k1, none⟩)), vIs (.slice Y1.a Y1.l.length Y1.c), vIs (vi b), vIs (vi b1)]) (fun h k => newer_trans h k) (pickD_stable _ ⟨vIs_st, vIs_st, vIs_st, vIs_st, vIs_st, vIs_st, vIs_st, vIs_st, vIs_st, vIs_st, vIs_st, vIs_st, trivial⟩) (Below.refl _ wr).drew (Below.refl _ _) ?_ ?_)
       ·refine ⟨?_, ?_, ?_, ?_, ?_, ?_, ?_, ?_, ?_, ?_, ?_, ?_, trivial⟩
        ·intro a W hG hR hO hp; have h7 := hO.slot 7 (by kernel_rfl); have c0 := keep_cell l0 hG; have c1 := keep_cell l1 hG; have c2 := keep_cell l2 hG; have c3 := keep_cell l3 hG; refine kY (v := lkV s f (some false)) hG rfl ?_; simp [slotOf] at h7; simp [execOp, go_sem, h7, c0, c1, c2, c3]
        ·exact fun a W hG _ hO _ => kM 8 rfl (hO.slot 8 (by kernel_rfl)) rfl hG
        ·exact fun a W hG _ hO _ => kM 9 rfl (hO.slot 9 (by kernel_rfl)) rfl hG
        ·intro a W hG hR hO hp; have h55 : slotOf a 55 = vi r := hp.1; refine kY (v := vi r1) hG rfl ?_; simp [slotOf] at h55; simp [execOp, go_sem, h55, hr1]
        ·intro a W hG hR hO hp; have h54 : slotOf a 54 = .slice (some ⟨g2, 0, none⟩) (xs.length + 1) c2 := hp.1; have h56 : slotOf a 56 = vi r1 := hp.2.1; refine kY (v := .pointer (some ⟨g2, r1, none⟩)) hG rfl ?_; simp [slotOf] at h54 h56; simp [execOp, go_sem, h54, h56, hr2]
        ·intro a W hG hR hO hp; have h57 : slotOf a 57 = .pointer (some ⟨g2, r1, none⟩) := hp.1; have c0 := HC1.out W hG; refine kY (v := .slice (some ⟨p1, 0, none⟩) s.cs.length X1.c) hG rfl ?_; simp [slotOf] at h57; simp [execOp, go_sem, h57, c0]
        ·exact fun a W hG _ hO _ => kM 10 rfl (hO.slot 10 (by kernel_rfl)) rfl hG
        ·intro a W hG hR hO hp; have h59 : slotOf a 59 = vi k := hp.1; refine kY (v := vi k1) hG rfl ?_; simp [slotOf] at h59; simp [execOp, go_sem, h59, hk1]
        ·intro a W hG hR hO hp; have h58 : slotOf a 58 = .slice (some ⟨p1, 0, none⟩) s.cs.length X1.c := hp.1; have h60 : slotOf a 60 = vi k1 := hp.2.1; refine kY (v := .pointer (some ⟨p1, k1, none⟩)) hG rfl ?_; simp [slotOf] at h58 h60; simp [execOp, go_sem, h58, h60, hk2]
        ·intro a W hG hR hO hp; have h61 : slotOf a 61 = .pointer (some ⟨p1, k1, none⟩) := hp.1; have c0 := HC2.out W hG; refine kY (v := .slice Y1.a Y1.l.length Y1.c) hG rfl ?_; simp [slotOf] at h61; simp [execOp, go_sem, h61, c0]
        ·exact fun a W hG _ hO _ => kM 11 rfl (hO.slot 11 (by kernel_rfl)) rfl hG
        ·intro a W hG hR hO hp
         have h53 : slotOf a 53 = lkV s f (some false) := hp.1
         have h62 : slotOf a 62 = .slice Y1.a Y1.l.length Y1.c := hp.2.1
         have h63 : slotOf a 63 = vi b := hp.2.2.1
         refine wp_enters (f := 82) (args := #[lkV s f (some false), .slice Y1.a Y1.l.length Y1.c, vi b]) ?_ ((HB1.out W hG).mono ?_)
         ·simp [slotOf] at h53 h62 h63
          simp [go_sem, h53, h62, h63]
         ·rintro e w' ⟨rfl, hb⟩
          exact ⟨_, rfl, _, rfl, rfl, hb, below_next hG hb⟩
       ·intro wz hG hR
        rintro _ rfl _ rfl _ rfl _ rfl _ rfl _ rfl _ rfl _ rfl _ rfl _ rfl _ rfl _ rfl
        change wpList _ _ _ _ _ _
        simp only [Act.put, List.setIfInBounds_toArray, List.set_cons_zero, List.set_cons_succ, List.drop_succ_cons, List.drop_zero]
        have HG := Lib.hid (show newer wr wz from hG)
        clear hG hR
        have x1 := keep_cell x1 HG.out
        have l0 := keep_cell l0 HG.out
        have l1 := keep_cell l1 HG.out
        have l2 := keep_cell l2 HG.out
        have l3 := keep_cell l3 HG.out
        have HJ6 := Lib.hid (HJ5.out.next HG.out)
        obtain ⟨y9, g9, xc9, cx, cy, hyo, n1, n2, n3, hrow, hput⟩ := HJ6.out.num hltk
        have HCX := Lib.hid (And.intro cx cy)
        have HNE := Lib.hid (And.intro n1 (And.intro n2 (And.intro n3 hrow)))
        have HYO := Lib.hid hyo
        have HPUT := Lib.hid hput
        have HNG : Hid (∀ W2, wz.grownBy W2 (Value.slice y9.a b y9.c).ownBlock -> newer w W2) := Lib.hid (fun W2 h => HJ6.out.tp.nw.grown h HJ6.out.tp.nw.size (fun q hq => (HNE.out.2.2.2 q hq).1))
        have hnB : ∀ q, (Value.slice y9.a b y9.c).ownBlock = some q -> q < wz.heap.size := fun q hq => (HNE.out.2.2.2 q hq).2
        have HNB := Lib.hid hnB
        have hr9 : (r : Int) < (xs.length : Int) + 1 := by have := HLE.out; omega
        have hadd : IntKind.i64.wrap (cF_ k b + b1) = T r k b := by
         have e : T r k b = cF_ k b + b1 := by rw [hT, tab_is, HBV.out, hbv]
         rw [<- e]
         have := HTB.out r k b (by have := HN1.out; omega) hltk hltb
         exact IntWalk.i64_in _ (by omega)
        clear cx cy hyo n1 n2 n3 hrow hput hnB hbv
        go_upto_region 23 with fail
        refine wp_words (by kernel_rfl) (region_tale 20 (by kernel_rfl) (by kernel_rfl) 19 (fun W => wz.grownBy W (Value.slice y9.a b y9.c).ownBlock) (fun W => W.ownsRow w.heap.size 3 1 (.slice y9.a b y9.c) b (y9.l.map vi) /\ newer wz W) (relAt 19 (fun W W' => W.grownBy W' (Value.slice y9.a b y9.c).ownBlock)) (pickD [vIs (.slice (some ⟨g2, 0, none⟩) (xs.length + 1) c2), vIs (vi r), vIs (.pointer (some ⟨g2, r, none⟩)), vIs (.slice (some ⟨g9, 0, none⟩) s.cs.length xc9), vIs (vi k), vIs (.slice (some ⟨g2, 0, none⟩) (xs.length + 1) c2), vIs (vi r), vIs (.pointer (some ⟨g2, r, none⟩)), vIs (.slice (some ⟨g9, 0, none⟩) s.cs.length xc9), vIs (vi k), vIs (.pointer (some ⟨g9, k, none⟩)), vIs (.slice y9.a b y9.c), vIs (lkV s f (some false)), vIs (vi k), vIs (vi b), vIs (vi (cF_ k b)), vIs (vi (b1)), vIs (vi (T r k b)), vOne wz.heap.size 3 #[vi (T r k b)], vOn1 w.heap.size y9.a b y9.c y9.l (T r k b) wz]) (allBut_ok (fun _ _ h => grown_of_newer h _) _ ⟨vIs_st, vIs_st, vIs_st, vIs_st, vIs_st, vIs_st, vIs_st, vIs_st, vIs_st, vIs_st, vIs_st, vIs_st, vIs_st, vIs_st, vIs_st, vIs_st, vIs_st, vIs_st, vOne_grown HNB.out, vOn1_st, trivial⟩) (by decide) (grown_drew (grown_refl _ _)) ⟨HYO.out, (Below.refl _ _).drew⟩ ?_ ?_)
        ·refine ⟨?_, ?_, ?_, ?_, ?_, ?_, ?_, ?_, ?_, ?_, ?_, ?_, ?_, ?_, ?_, ?_, ?_, ?_, ?_, ?_, trivial⟩
         ·intro a W hG hG1 hO hp; have h8 := hO.slot 8 (by kernel_rfl); refine wp_yields (v := .slice (some ⟨g2, 0, none⟩) (xs.length + 1) c2) ?_ ⟨_, rfl, rfl, newer_refl _, hG, fun _ h => h⟩; simp [slotOf] at h8; simp [execOp, go_sem, h8]
         ·intro a W hG hG1 hO hp; have h9 := hO.slot 9 (by kernel_rfl); refine wp_yields (v := vi r) ?_ ⟨_, rfl, rfl, newer_refl _, hG, fun _ h => h⟩; simp [slotOf] at h9; simp [execOp, go_sem, h9]
         ·intro a W hG hG1 hO hp; have h88 : slotOf a 88 = .slice (some ⟨g2, 0, none⟩) (xs.length + 1) c2 := hp.1; have h89 : slotOf a 89 = vi r := hp.2.1; refine wp_yields (v := .pointer (some ⟨g2, r, none⟩)) ?_ ⟨_, rfl, rfl, newer_refl _, hG, fun _ h => h⟩; simp [slotOf] at h88 h89; simp [execOp, go_sem, h88, h89, hr9]
         ·intro a W hG hG1 hO hp; have h90 : slotOf a 90 = .pointer (some ⟨g2, r, none⟩) := hp.1; have c0 := hG.cell HCX.out.1 HNE.out.1; refine wp_yields (v := .slice (some ⟨g9, 0, none⟩) s.cs.length xc9) ?_ ⟨_, rfl, rfl, newer_refl _, hG, fun _ h => h⟩; simp [slotOf] at h90; simp [execOp, go_sem, h90, c0]
         ·intro a W hG hG1 hO hp; have h10 := hO.slot 10 (by kernel_rfl); refine wp_yields (v := vi k) ?_ ⟨_, rfl, rfl, newer_refl _, hG, fun _ h => h⟩; simp [slotOf] at h10; simp [execOp, go_sem, h10]
         ·intro a W hG hG1 hO hp; have h8 := hO.slot 8 (by kernel_rfl); refine wp_yields (v := .slice (some ⟨g2, 0, none⟩) (xs.length + 1) c2) ?_ ⟨_, rfl, rfl, newer_refl _, hG, fun _ h => h⟩; simp [slotOf] at h8; simp [execOp, go_sem, h8]
         ·intro a W hG hG1 hO hp; have h9 := hO.slot 9 (by kernel_rfl); refine wp_yields (v := vi r) ?_ ⟨_, rfl, rfl, newer_refl _, hG, fun _ h => h⟩; simp [slotOf] at h9; simp [execOp, go_sem, h9]
         ·intro a W hG hG1 hO hp; have h93 : slotOf a 93 = .slice (some ⟨g2, 0, none⟩) (xs.length + 1) c2 := hp.1; have h94 : slotOf a 94 = vi r := hp.2.1; refine wp_yields (v := .pointer (some ⟨g2, r, none⟩)) ?_ ⟨_, rfl, rfl, newer_refl _, hG, fun _ h => h⟩; simp [slotOf] at h93 h94; simp [execOp, go_sem, h93, h94, hr9]
         ·intro a W hG hG1 hO hp; have h95 : slotOf a 95 = .pointer (some ⟨g2, r, none⟩) := hp.1; have c0 := hG.cell HCX.out.1 HNE.out.1; refine wp_yields (v := .slice (some ⟨g9, 0, none⟩) s.cs.length xc9) ?_ ⟨_, rfl, rfl, newer_refl _, hG, fun _ h => h⟩; simp [slotOf] at h95; simp [execOp, go_sem, h95, c0]
         ·intro a W hG hG1 hO hp; have h10 := hO.slot 10 (by kernel_rfl); refine wp_yields (v := vi k) ?_ ⟨_, rfl, rfl, newer_refl _, hG, fun _ h => h⟩; simp [slotOf] at h10; simp [execOp, go_sem, h10]
         ·intro a W hG hG1 hO hp; have h96 : slotOf a 96 = .slice (some ⟨g9, 0, none⟩) s.cs.length xc9 := hp.1; have h97 : slotOf a 97 = vi k := hp.2.1; refine wp_yields (v := .pointer (some ⟨g9, k, none⟩)) ?_ ⟨_, rfl, rfl, newer_refl _, hG, fun _ h => h⟩; simp [slotOf] at h96 h97; simp [execOp, go_sem, h96, h97, hltkI]
         ·intro a W hG hG1 hO hp; have h98 : slotOf a 98 = .pointer (some ⟨g9, k, none⟩) := hp.1; have c0 := hG.cell HCX.out.2 HNE.out.2.1; refine wp_yields (v := .slice y9.a b y9.c) ?_ ⟨_, rfl, rfl, newer_refl _, hG, fun _ h => h⟩; simp [slotOf] at h98; simp [execOp, go_sem, h98, c0]
         ·intro a W hG hG1 hO hp; have h7 := hO.slot 7 (by kernel_rfl); have c0 := hG.cell l0 HNE.out.2.2.1; have c1 := hG.cell l1 HNE.out.2.2.1; have c2 := hG.cell l2 HNE.out.2.2.1; have c3 := hG.cell l3 HNE.out.2.2.1; refine wp_yields (v := lkV s f (some false)) ?_ ⟨_, rfl, rfl, newer_refl _, hG, fun _ h => h⟩; simp [slotOf] at h7; simp [execOp, go_sem, h7, c0, c1, c2, c3]
         ·intro a W hG hG1 hO hp; have h10 := hO.slot 10 (by kernel_rfl); refine wp_yields (v := vi k) ?_ ⟨_, rfl, rfl, newer_refl _, hG, fun _ h => h⟩; simp [slotOf] at h10; simp [execOp, go_sem, h10]
         ·intro a W hG hG1 hO hp; have h11 := hO.slot 11 (by kernel_rfl); refine wp_yields (v := vi b) ?_ ⟨_, rfl, rfl, newer_refl _, hG, fun _ h => h⟩; simp [slotOf] at h11; simp [execOp, go_sem, h11]
         ·intro a W hG hG1 hO hp
          have h100 : slotOf a 100 = lkV s f (some false) := hp.1
          have h101 : slotOf a 101 = vi k := hp.2.1
          have h102 : slotOf a 102 = vi b := hp.2.2.1
          refine wp_enters (f := 84) (args := #[lkV s f (some false), vi k, vi b]) ?_ ((HCO.out k b W hltk hltb (HNG.out W hG)).mono ?_)
          ·simp [slotOf] at h100 h101 h102
           simp [go_sem, h100, h101, h102]
          ·rintro e w' ⟨rfl, hb⟩
           exact ⟨_, rfl, _, rfl, rfl, hb, grown_below hG hb, fun _ h => ⟨own_below h.1 hb, newer_trans h.2 hb⟩⟩
         ·intro a W hG hG1 hO hp; have h12 := hO.slot 12 (by kernel_rfl); refine wp_yields (v := vi (b1)) ?_ ⟨_, rfl, rfl, newer_refl _, hG, fun _ h => h⟩; simp [slotOf] at h12; simp [execOp, go_sem, h12]
         ·intro a W hG hG1 hO hp; have h103 : slotOf a 103 = vi (cF_ k b) := hp.1; have h104 : slotOf a 104 = vi (b1) := hp.2.1; refine wp_yields (v := vi (T r k b)) ?_ ⟨_, rfl, rfl, newer_refl _, hG, fun _ h => h⟩; simp [slotOf] at h103 h104; simp [execOp, go_sem, h103, h104, hadd]
         ·intro a W hG hG1 hO hp; have h105 : slotOf a 105 = vi (T r k b) := hp.1; refine wp_makes (v := .slice (some ⟨W.heap.size, 0, none⟩) 1 1) (W' := W.alloc (.cells #[vi (T r k b)] 3)) ?_ ⟨_, rfl, ⟨_, rfl, hG.size, Whole.made _ _ _⟩, newer_allocH _ _, grown_alloc hG _, fun _ h => ⟨own_below h.1 (newer_allocH _ _), newer_trans h.2 (newer_allocH _ _)⟩⟩; simp [slotOf] at h105; simp [execOp, go_sem, h105]
         ·intro a W hG hG1 hO hp; have h99 : slotOf a 99 = .slice y9.a b y9.c := hp.1; have h106 := hp.2.1; obtain ⟨nb, h106, hnb, hW⟩ := h106; obtain ⟨ho, hnw⟩ := hG1 rfl; obtain ⟨i0, hi, hz0, hz1, hz2⟩ := info_parts info_int; refine wp_append_one (.tmp 99) (.tmp 106) 25 rfl w.heap.size 3 i0 (.int .i64 0) 8 Try.underlying25 hi hz0 hz1 hz2 rfl y9.a b y9.c (y9.l.map vi) ((eval_slot a 99).trans h99) ho ⟨nb, 0, none⟩ 1 (vi (T r k b)) ((eval_slot a 106).trans h106) (hW.at 0 rfl) rfl (by unfold maxLen; omega) (by omega) (HNG.out W hG).size ?_; intro g3 c3 w1 hown hon0; have hon : Onto1 y9.a y9.c g3 c3 W w1 := hon0; exact ⟨_, rfl, ⟨g3, c3, rfl, hown, hon.ahead hnw⟩, hon.grown, grown_trans' hG hon.grown, fun e => absurd rfl e⟩
        ·intro wk hG
         rintro _ rfl _ rfl _ rfl _ rfl _ rfl _ rfl _ rfl _ rfl _ rfl _ rfl _ rfl _ rfl _ rfl _ rfl _ rfl _ rfl _ rfl _ rfl _ hv106 _ ⟨g3, c3, rfl, hown, hon⟩
         change wpList _ _ _ _ _ _
         simp only [Act.put, List.setIfInBounds_toArray, List.set_cons_zero, List.set_cons_succ, List.drop_succ_cons, List.drop_zero]
         obtain ⟨cyW, fzW, us2, hpj⟩ := HPUT.out g3 c3 wk hon hown
         have HE := Lib.hid hpj
         clear hpj hown hon hG hv106 x1 l0 l1 l2 l3 hadd hr9
         go_wp2_with fail
         refine ⟨⟨b + 1, us2, by simp, by omega, HE.out⟩, ?_⟩
         simp [intOf]
         omega
     case neg =>
      by_cases ql : r = K - 1
      case pos =>
       have e0 : ((r : Int) == 0) = false := by rw [beq_eq_false_iff_ne]; omega
       have e2 : 0 < r := by omega
       have e2I : 0 < (r : Int) := by omega
       have qkI : ¬ (0 < (k : Int)) := by omega
       have e1 : ((r : Int) == s.least - 1) = true := by have := HN1.out; rw [beq_iff_eq]; omega
       obtain ⟨bv, hbv⟩ : ∃ bv : Int, bv = farN := ⟨_, rfl⟩
       have HBV : Hid (befM cF_ bigN farN n K r k b = bv) := Lib.hid (by unfold befM befN; rw [hbv, <- hT]; rw [if_neg (by omega), if_neg (by omega), if_neg (by omega)])
       clear q0 ql
       have HJ6 := Lib.hid (HJ5.out.next (newer_refl wr))
       obtain ⟨y9, g9, xc9, cx, cy, hyo, n1, n2, n3, hrow, hput⟩ := HJ6.out.num hltk
       have HCX := Lib.hid (And.intro cx cy)
       have HNE := Lib.hid (And.intro n1 (And.intro n2 (And.intro n3 hrow)))
       have HYO := Lib.hid hyo
       have HPUT := Lib.hid hput
       have HNG : Hid (∀ W2, wr.grownBy W2 (Value.slice y9.a b y9.c).ownBlock -> newer w W2) := Lib.hid (fun W2 h => HJ6.out.tp.nw.grown h HJ6.out.tp.nw.size (fun q hq => (HNE.out.2.2.2 q hq).1))
       have hnB : ∀ q, (Value.slice y9.a b y9.c).ownBlock = some q -> q < wr.heap.size := fun q hq => (HNE.out.2.2.2 q hq).2
       have HNB := Lib.hid hnB
       have hr9 : (r : Int) < (xs.length : Int) + 1 := by have := HLE.out; omega
       have hadd : IntKind.i64.wrap (cF_ k b + 100000000000000) = T r k b := by
        have e : T r k b = cF_ k b + 100000000000000 := by rw [hT, tab_is, HBV.out, hbv]
        rw [<- e]
        have := HTB.out r k b (by have := HN1.out; omega) hltk hltb
        exact IntWalk.i64_in _ (by omega)
       clear cx cy hyo n1 n2 n3 hrow hput hnB hbv
       go_upto_region 23 with fail
       refine wp_words (by kernel_rfl) (region_tale 20 (by kernel_rfl) (by kernel_rfl) 19 (fun W => wr.grownBy W (Value.slice y9.a b y9.c).ownBlock) (fun W => W.ownsRow w.heap.size 3 1 (.slice y9.a b y9.c) b (y9.l.map vi) /\ newer wr W) (relAt 19 (fun W W' => W.grownBy W' (Value.slice y9.a b y9.c).ownBlock)) (pickD [vIs (.slice (some ⟨g2, 0, none⟩) (xs.length + 1) c2), vIs (vi r), vIs (.pointer (some ⟨g2, r, none⟩)), vIs (.slice (some ⟨g9, 0, none⟩) s.cs.length xc9), vIs (vi k), vIs (.slice (some ⟨g2, 0, none⟩) (xs.length + 1) c2), vIs (vi r), vIs (.pointer (some ⟨g2, r, none⟩)), vIs (.slice (some ⟨g9, 0, none⟩) s.cs.length xc9), vIs (vi k), vIs (.pointer (some ⟨g9, k, none⟩)), vIs (.slice y9.a b y9.c), vIs (lkV s f (some false)), vIs (vi k), vIs (vi b), vIs (vi (cF_ k b)), vIs (vi 100000000000000), vIs (vi (T r k b)), vOne wr.heap.size 3 #[vi (T r k b)], vOn1 w.heap.size y9.a b y9.c y9.l (T r k b) wr]) (allBut_ok (fun _ _ h => grown_of_newer h _) _ ⟨vIs_st, vIs_st, vIs_st, vIs_st, vIs_st, vIs_st, vIs_st, vIs_st, vIs_st, vIs_st, vIs_st, vIs_st, vIs_st, vIs_st, vIs_st, vIs_st, vIs_st, vIs_st, vOne_grown HNB.out, vOn1_st, trivial⟩) (by decide) (grown_drew (grown_refl _ _)) ⟨HYO.out, (Below.refl _ _).drew⟩ ?_ ?_)
       ·refine ⟨?_, ?_, ?_, ?_, ?_, ?_, ?_, ?_, ?_, ?_, ?_, ?_, ?_, ?_, ?_, ?_, ?_, ?_, ?_, ?_, trivial⟩
        ·intro a W hG hG1 hO hp; have h8 := hO.slot 8 (by kernel_rfl); refine wp_yields (v := .slice (some ⟨g2, 0, none⟩) (xs.length + 1) c2) ?_ ⟨_, rfl, rfl, newer_refl _, hG, fun _ h => h⟩; simp [slotOf] at h8; simp [execOp, go_sem, h8]
        ·intro a W hG hG1 hO hp; have h9 := hO.slot 9 (by kernel_rfl); refine wp_yields (v := vi r) ?_ ⟨_, rfl, rfl, newer_refl _, hG, fun _ h => h⟩; simp [slotOf] at h9; simp [execOp, go_sem, h9]
        ·intro a W hG hG1 hO hp; have h88 : slotOf a 88 = .slice (some ⟨g2, 0, none⟩) (xs.length + 1) c2 := hp.1; have h89 : slotOf a 89 = vi r := hp.2.1; refine wp_yields (v := .pointer (some ⟨g2, r, none⟩)) ?_ ⟨_, rfl, rfl, newer_refl _, hG, fun _ h => h⟩; simp [slotOf] at h88 h89; simp [execOp, go_sem, h88, h89, hr9]
        ·intro a W hG hG1 hO hp; have h90 : slotOf a 90 = .pointer (some ⟨g2, r, none⟩) := hp.1; have c0 := hG.cell HCX.out.1 HNE.out.1; refine wp_yields (v := .slice (some ⟨g9, 0, none⟩) s.cs.length xc9) ?_ ⟨_, rfl, rfl, newer_refl _, hG, fun _ h => h⟩; simp [slotOf] at h90; simp [execOp, go_sem, h90, c0]
        ·intro a W hG hG1 hO hp; have h10 := hO.slot 10 (by kernel_rfl); refine wp_yields (v := vi k) ?_ ⟨_, rfl, rfl, newer_refl _, hG, fun _ h => h⟩; simp [slotOf] at h10; simp [execOp, go_sem, h10]
        ·intro a W hG hG1 hO hp; have h8 := hO.slot 8 (by kernel_rfl); refine wp_yields (v := .slice (some ⟨g2, 0, none⟩) (xs.length + 1) c2) ?_ ⟨_, rfl, rfl, newer_refl _, hG, fun _ h => h⟩; simp [slotOf] at h8; simp [execOp, go_sem, h8]
        ·intro a W hG hG1 hO hp; have h9 := hO.slot 9 (by kernel_rfl); refine wp_yields (v := vi r) ?_ ⟨_, rfl, rfl, newer_refl _, hG, fun _ h => h⟩; simp [slotOf] at h9; simp [execOp, go_sem, h9]
        ·intro a W hG hG1 hO hp; have h93 : slotOf a 93 = .slice (some ⟨g2, 0, none⟩) (xs.length + 1) c2 := hp.1; have h94 : slotOf a 94 = vi r := hp.2.1; refine wp_yields (v := .pointer (some ⟨g2, r, none⟩)) ?_ ⟨_, rfl, rfl, newer_refl _, hG, fun _ h => h⟩; simp [slotOf] at h93 h94; simp [execOp, go_sem, h93, h94, hr9]
        ·intro a W hG hG1 hO hp; have h95 : slotOf a 95 = .pointer (some ⟨g2, r, none⟩) := hp.1; have c0 := hG.cell HCX.out.1 HNE.out.1; refine wp_yields (v := .slice (some ⟨g9, 0, none⟩) s.cs.length xc9) ?_ ⟨_, rfl, rfl, newer_refl _, hG, fun _ h => h⟩; simp [slotOf] at h95; simp [execOp, go_sem, h95, c0]
        ·intro a W hG hG1 hO hp; have h10 := hO.slot 10 (by kernel_rfl); refine wp_yields (v := vi k) ?_ ⟨_, rfl, rfl, newer_refl _, hG, fun _ h => h⟩; simp [slotOf] at h10; simp [execOp, go_sem, h10]
        ·intro a W hG hG1 hO hp; have h96 : slotOf a 96 = .slice (some ⟨g9, 0, none⟩) s.cs.length xc9 := hp.1; have h97 : slotOf a 97 = vi k := hp.2.1; refine wp_yields (v := .pointer (some ⟨g9, k, none⟩)) ?_ ⟨_, rfl, rfl, newer_refl _, hG, fun _ h => h⟩; simp [slotOf] at h96 h97; simp [execOp, go_sem, h96, h97, hltkI]
        ·intro a W hG hG1 hO hp; have h98 : slotOf a 98 = .pointer (some ⟨g9, k, none⟩) := hp.1; have c0 := hG.cell HCX.out.2 HNE.out.2.1; refine wp_yields (v := .slice y9.a b y9.c) ?_ ⟨_, rfl, rfl, newer_refl _, hG, fun _ h => h⟩; simp [slotOf] at h98; simp [execOp, go_sem, h98, c0]
        ·intro a W hG hG1 hO hp; have h7 := hO.slot 7 (by kernel_rfl); have c0 := hG.cell l0 HNE.out.2.2.1; have c1 := hG.cell l1 HNE.out.2.2.1; have c2 := hG.cell l2 HNE.out.2.2.1; have c3 := hG.cell l3 HNE.out.2.2.1; refine wp_yields (v := lkV s f (some false)) ?_ ⟨_, rfl, rfl, newer_refl _, hG, fun _ h => h⟩; simp [slotOf] at h7; simp [execOp, go_sem, h7, c0, c1, c2, c3]
        ·intro a W hG hG1 hO hp; have h10 := hO.slot 10 (by kernel_rfl); refine wp_yields (v := vi k) ?_ ⟨_, rfl, rfl, newer_refl _, hG, fun _ h => h⟩; simp [slotOf] at h10; simp [execOp, go_sem, h10]
        ·intro a W hG hG1 hO hp; have h11 := hO.slot 11 (by kernel_rfl); refine wp_yields (v := vi b) ?_ ⟨_, rfl, rfl, newer_refl _, hG, fun _ h => h⟩; simp [slotOf] at h11; simp [execOp, go_sem, h11]
        ·intro a W hG hG1 hO hp
         have h100 : slotOf a 100 = lkV s f (some false) := hp.1
         have h101 : slotOf a 101 = vi k := hp.2.1
         have h102 : slotOf a 102 = vi b := hp.2.2.1
         refine wp_enters (f := 84) (args := #[lkV s f (some false), vi k, vi b]) ?_ ((HCO.out k b W hltk hltb (HNG.out W hG)).mono ?_)
         ·simp [slotOf] at h100 h101 h102
          simp [go_sem, h100, h101, h102]
         ·rintro e w' ⟨rfl, hb⟩
          exact ⟨_, rfl, _, rfl, rfl, hb, grown_below hG hb, fun _ h => ⟨own_below h.1 hb, newer_trans h.2 hb⟩⟩
        ·intro a W hG hG1 hO hp; have h12 := hO.slot 12 (by kernel_rfl); refine wp_yields (v := vi 100000000000000) ?_ ⟨_, rfl, rfl, newer_refl _, hG, fun _ h => h⟩; simp [slotOf] at h12; simp [execOp, go_sem, h12]
        ·intro a W hG hG1 hO hp; have h103 : slotOf a 103 = vi (cF_ k b) := hp.1; have h104 : slotOf a 104 = vi 100000000000000 := hp.2.1; refine wp_yields (v := vi (T r k b)) ?_ ⟨_, rfl, rfl, newer_refl _, hG, fun _ h => h⟩; simp [slotOf] at h103 h104; simp [execOp, go_sem, h103, h104, hadd]
        ·intro a W hG hG1 hO hp; have h105 : slotOf a 105 = vi (T r k b) := hp.1; refine wp_makes (v := .slice (some ⟨W.heap.size, 0, none⟩) 1 1) (W' := W.alloc (.cells #[vi (T r k b)] 3)) ?_ ⟨_, rfl, ⟨_, rfl, hG.size, Whole.made _ _ _⟩, newer_allocH _ _, grown_alloc hG _, fun _ h => ⟨own_below h.1 (newer_allocH _ _), newer_trans h.2 (newer_allocH _ _)⟩⟩; simp [slotOf] at h105; simp [execOp, go_sem, h105]
        ·intro a W hG hG1 hO hp; have h99 : slotOf a 99 = .slice y9.a b y9.c := hp.1; have h106 := hp.2.1; obtain ⟨nb, h106, hnb, hW⟩ := h106; obtain ⟨ho, hnw⟩ := hG1 rfl; obtain ⟨i0, hi, hz0, hz1, hz2⟩ := info_parts info_int; refine wp_append_one (.tmp 99) (.tmp 106) 25 rfl w.heap.size 3 i0 (.int .i64 0) 8 Try.underlying25 hi hz0 hz1 hz2 rfl y9.a b y9.c (y9.l.map vi) ((eval_slot a 99).trans h99) ho ⟨nb, 0, none⟩ 1 (vi (T r k b)) ((eval_slot a 106).trans h106) (hW.at 0 rfl) rfl (by unfold maxLen; omega) (by omega) (HNG.out W hG).size ?_; intro g3 c3 w1 hown hon0; have hon : Onto1 y9.a y9.c g3 c3 W w1 := hon0; exact ⟨_, rfl, ⟨g3, c3, rfl, hown, hon.ahead hnw⟩, hon.grown, grown_trans' hG hon.grown, fun e => absurd rfl e⟩
       ·intro wk hG
        rintro _ rfl _ rfl _ rfl _ rfl _ rfl _ rfl _ rfl _ rfl _ rfl _ rfl _ rfl _ rfl _ rfl _ rfl _ rfl _ rfl _ rfl _ rfl _ hv106 _ ⟨g3, c3, rfl, hown, hon⟩
        change wpList _ _ _ _ _ _
        simp only [Act.put, List.setIfInBounds_toArray, List.set_cons_zero, List.set_cons_succ, List.drop_succ_cons, List.drop_zero]
        obtain ⟨cyW, fzW, us2, hpj⟩ := HPUT.out g3 c3 wk hon hown
        have HE := Lib.hid hpj
        clear hpj hown hon hG hv106 x1 l0 l1 l2 l3 hadd hr9
        go_wp2_with fail
        refine ⟨⟨b + 1, us2, by simp, by omega, HE.out⟩, ?_⟩
        simp [intOf]
        omega
      case neg =>
       have e0 : ((r : Int) == 0) = false := by rw [beq_eq_false_iff_ne]; omega
       have e2 : 0 < r := by omega
       have e2I : 0 < (r : Int) := by omega
       have qkI : ¬ (0 < (k : Int)) := by omega
       have e1 : ((r : Int) == s.least - 1) = false := by have := HN1.out; rw [beq_eq_false_iff_ne]; omega
       obtain ⟨bv, hbv⟩ : ∃ bv : Int, bv = farN := ⟨_, rfl⟩
       have HBV : Hid (befM cF_ bigN farN n K r k b = bv) := Lib.hid (by unfold befM befN; rw [hbv, <- hT]; rw [if_neg (by omega), if_neg (by omega), if_neg (by omega)])
       clear q0 ql
       have HJ6 := Lib.hid (HJ5.out.next (newer_refl wr))
       obtain ⟨y9, g9, xc9, cx, cy, hyo, n1, n2, n3, hrow, hput⟩ := HJ6.out.num hltk
       have HCX := Lib.hid (And.intro cx cy)
       have HNE := Lib.hid (And.intro n1 (And.intro n2 (And.intro n3 hrow)))
       have HYO := Lib.hid hyo
       have HPUT := Lib.hid hput
       have HNG : Hid (∀ W2, wr.grownBy W2 (Value.slice y9.a b y9.c).ownBlock -> newer w W2) := Lib.hid (fun W2 h => HJ6.out.tp.nw.grown h HJ6.out.tp.nw.size (fun q hq => (HNE.out.2.2.2 q hq).1))
       have hnB : ∀ q, (Value.slice y9.a b y9.c).ownBlock = some q -> q < wr.heap.size := fun q hq => (HNE.out.2.2.2 q hq).2
       have HNB := Lib.hid hnB
       have hr9 : (r : Int) < (xs.length : Int) + 1 := by have := HLE.out; omega
       have hadd : IntKind.i64.wrap (cF_ k b + 100000000000000) = T r k b := by
        have e : T r k b = cF_ k b + 100000000000000 := by rw [hT, tab_is, HBV.out, hbv]
        rw [<- e]
        have := HTB.out r k b (by have := HN1.out; omega) hltk hltb
        exact IntWalk.i64_in _ (by omega)
       clear cx cy hyo n1 n2 n3 hrow hput hnB hbv
       go_upto_region 23 with fail
       refine wp_words (by kernel_rfl) (region_tale 20 (by kernel_rfl) (by kernel_rfl) 19 (fun W => wr.grownBy W (Value.slice y9.a b y9.c).ownBlock) (fun W => W.ownsRow w.heap.size 3 1 (.slice y9.a b y9.c) b (y9.l.map vi) /\ newer wr W) (relAt 19 (fun W W' => W.grownBy W' (Value.slice y9.a b y9.c).ownBlock)) (pickD [vIs (.slice (some ⟨g2, 0, none⟩) (xs.length + 1) c2), vIs (vi r), vIs (.pointer (some ⟨g2, r, none⟩)), vIs (.slice (some ⟨g9, 0, none⟩) s.cs.length xc9), vIs (vi k), vIs (.slice (some ⟨g2, 0, none⟩) (xs.length + 1) c2), vIs (vi r), vIs (.pointer (some ⟨g2, r, none⟩)), vIs (.slice (some ⟨g9, 0, none⟩) s.cs.length xc9), vIs (vi k), vIs (.pointer (some ⟨g9, k, none⟩)), vIs (.slice y9.a b y9.c), vIs (lkV s f (some false)), vIs (vi k), vIs (vi b), vIs (vi (cF_ k b)), vIs (vi 100000000000000), vIs (vi (T r k b)), vOne wr.heap.size 3 #[vi (T r k b)], vOn1 w.heap.size y9.a b y9.c y9.l (T r k b) wr]) (allBut_ok (fun _ _ h => grown_of_newer h _) _ ⟨vIs_st, vIs_st, vIs_st, vIs_st, vIs_st, vIs_st, vIs_st, vIs_st, vIs_st, vIs_st, vIs_st, vIs_st, vIs_st, vIs_st, vIs_st, vIs_st, vIs_st, vIs_st, vOne_grown HNB.out, vOn1_st, trivial⟩) (by decide) (grown_drew (grown_refl _ _)) ⟨HYO.out, (Below.refl _ _).drew⟩ ?_ ?_)
       ·refine ⟨?_, ?_, ?_, ?_, ?_, ?_, ?_, ?_, ?_, ?_, ?_, ?_, ?_, ?_, ?_, ?_, ?_, ?_, ?_, ?_, trivial⟩
        ·intro a W hG hG1 hO hp; have h8 := hO.slot 8 (by kernel_rfl); refine wp_yields (v := .slice (some ⟨g2, 0, none⟩) (xs.length + 1) c2) ?_ ⟨_, rfl, rfl, newer_refl _, hG, fun _ h => h⟩; simp [slotOf] at h8; simp [execOp, go_sem, h8]
        ·intro a W hG hG1 hO hp; have h9 := hO.slot 9 (by kernel_rfl); refine wp_yields (v := vi r) ?_ ⟨_, rfl, rfl, newer_refl _, hG, fun _ h => h⟩; simp [slotOf] at h9; simp [execOp, go_sem, h9]
        ·intro a W hG hG1 hO hp; have h88 : slotOf a 88 = .slice (some ⟨g2, 0, none⟩) (xs.length + 1) c2 := hp.1; have h89 : slotOf a 89 = vi r := hp.2.1; refine wp_yields (v := .pointer (some ⟨g2, r, none⟩)) ?_ ⟨_, rfl, rfl, newer_refl _, hG, fun _ h => h⟩; simp [slotOf] at h88 h89; simp [execOp, go_sem, h88, h89, hr9]
        ·intro a W hG hG1 hO hp; have h90 : slotOf a 90 = .pointer (some ⟨g2, r, none⟩) := hp.1; have c0 := hG.cell HCX.out.1 HNE.out.1; refine wp_yields (v := .slice (some ⟨g9, 0, none⟩) s.cs.length xc9) ?_ ⟨_, rfl, rfl, newer_refl _, hG, fun _ h => h⟩; simp [slotOf] at h90; simp [execOp, go_sem, h90, c0]
        ·intro a W hG hG1 hO hp; have h10 := hO.slot 10 (by kernel_rfl); refine wp_yields (v := vi k) ?_ ⟨_, rfl, rfl, newer_refl _, hG, fun _ h => h⟩; simp [slotOf] at h10; simp [execOp, go_sem, h10]
        ·intro a W hG hG1 hO hp; have h8 := hO.slot 8 (by kernel_rfl); refine wp_yields (v := .slice (some ⟨g2, 0, none⟩) (xs.length + 1) c2) ?_ ⟨_, rfl, rfl, newer_refl _, hG, fun _ h => h⟩; simp [slotOf] at h8; simp [execOp, go_sem, h8]
        ·intro a W hG hG1 hO hp; have h9 := hO.slot 9 (by kernel_rfl); refine wp_yields (v := vi r) ?_ ⟨_, rfl, rfl, newer_refl _, hG, fun _ h => h⟩; simp [slotOf] at h9; simp [execOp, go_sem, h9]
        ·intro a W hG hG1 hO hp; have h93 : slotOf a 93 = .slice (some ⟨g2, 0, none⟩) (xs.length + 1) c2 := hp.1; have h94 : slotOf a 94 = vi r := hp.2.1; refine wp_yields (v := .pointer (some ⟨g2, r, none⟩)) ?_ ⟨_, rfl, rfl, newer_refl _, hG, fun _ h => h⟩; simp [slotOf] at h93 h94; simp [execOp, go_sem, h93, h94, hr9]
        ·intro a W hG hG1 hO hp; have h95 : slotOf a 95 = .pointer (some ⟨g2, r, none⟩) := hp.1; have c0 := hG.cell HCX.out.1 HNE.out.1; refine wp_yields (v := .slice (some ⟨g9, 0, none⟩) s.cs.length xc9) ?_ ⟨_, rfl, rfl, newer_refl _, hG, fun _ h => h⟩; simp [slotOf] at h95; simp [execOp, go_sem, h95, c0]
        ·intro a W hG hG1 hO hp; have h10 := hO.slot 10 (by kernel_rfl); refine wp_yields (v := vi k) ?_ ⟨_, rfl, rfl, newer_refl _, hG, fun _ h => h⟩; simp [slotOf] at h10; simp [execOp, go_sem, h10]
        ·intro a W hG hG1 hO hp; have h96 : slotOf a 96 = .slice (some ⟨g9, 0, none⟩) s.cs.length xc9 := hp.1; have h97 : slotOf a 97 = vi k := hp.2.1; refine wp_yields (v := .pointer (some ⟨g9, k, none⟩)) ?_ ⟨_, rfl, rfl, newer_refl _, hG, fun _ h => h⟩; simp [slotOf] at h96 h97; simp [execOp, go_sem, h96, h97, hltkI]
        ·intro a W hG hG1 hO hp; have h98 : slotOf a 98 = .pointer (some ⟨g9, k, none⟩) := hp.1; have c0 := hG.cell HCX.out.2 HNE.out.2.1; refine wp_yields (v := .slice y9.a b y9.c) ?_ ⟨_, rfl, rfl, newer_refl _, hG, fun _ h => h⟩; simp [slotOf] at h98; simp [execOp, go_sem, h98, c0]
        ·intro a W hG hG1 hO hp; have h7 := hO.slot 7 (by kernel_rfl); have c0 := hG.cell l0 HNE.out.2.2.1; have c1 := hG.cell l1 HNE.out.2.2.1; have c2 := hG.cell l2 HNE.out.2.2.1; have c3 := hG.cell l3 HNE.out.2.2.1; refine wp_yields (v := lkV s f (some false)) ?_ ⟨_, rfl, rfl, newer_refl _, hG, fun _ h => h⟩; simp [slotOf] at h7; simp [execOp, go_sem, h7, c0, c1, c2, c3]
        ·intro a W hG hG1 hO hp; have h10 := hO.slot 10 (by kernel_rfl); refine wp_yields (v := vi k) ?_ ⟨_, rfl, rfl, newer_refl _, hG, fun _ h => h⟩; simp [slotOf] at h10; simp [execOp, go_sem, h10]
        ·intro a W hG hG1 hO hp; have h11 := hO.slot 11 (by kernel_rfl); refine wp_yields (v := vi b) ?_ ⟨_, rfl, rfl, newer_refl _, hG, fun _ h => h⟩; simp [slotOf] at h11; simp [execOp, go_sem, h11]
        ·intro a W hG hG1 hO hp
         have h100 : slotOf a 100 = lkV s f (some false) := hp.1
         have h101 : slotOf a 101 = vi k := hp.2.1
         have h102 : slotOf a 102 = vi b := hp.2.2.1
         refine wp_enters (f := 84) (args := #[lkV s f (some false), vi k, vi b]) ?_ ((HCO.out k b W hltk hltb (HNG.out W hG)).mono ?_)
         ·simp [slotOf] at h100 h101 h102
          simp [go_sem, h100, h101, h102]
         ·rintro e w' ⟨rfl, hb⟩
          exact ⟨_, rfl, _, rfl, rfl, hb, grown_below hG hb, fun _ h => ⟨own_below h.1 hb, newer_trans h.2 hb⟩⟩
        ·intro a W hG hG1 hO hp; have h12 := hO.slot 12 (by kernel_rfl); refine wp_yields (v := vi 100000000000000) ?_ ⟨_, rfl, rfl, newer_refl _, hG, fun _ h => h⟩; simp [slotOf] at h12; simp [execOp, go_sem, h12]
        ·intro a W hG hG1 hO hp; have h103 : slotOf a 103 = vi (cF_ k b) := hp.1; have h104 : slotOf a 104 = vi 100000000000000 := hp.2.1; refine wp_yields (v := vi (T r k b)) ?_ ⟨_, rfl, rfl, newer_refl _, hG, fun _ h => h⟩; simp [slotOf] at h103 h104; simp [execOp, go_sem, h103, h104, hadd]
        ·intro a W hG hG1 hO hp; have h105 : slotOf a 105 = vi (T r k b) := hp.1; refine wp_makes (v := .slice (some ⟨W.heap.size, 0, none⟩) 1 1) (W' := W.alloc (.cells #[vi (T r k b)] 3)) ?_ ⟨_, rfl, ⟨_, rfl, hG.size, Whole.made _ _ _⟩, newer_allocH _ _, grown_alloc hG _, fun _ h => ⟨own_below h.1 (newer_allocH _ _), newer_trans h.2 (newer_allocH _ _)⟩⟩; simp [slotOf] at h105; simp [execOp, go_sem, h105]
        ·intro a W hG hG1 hO hp; have h99 : slotOf a 99 = .slice y9.a b y9.c := hp.1; have h106 := hp.2.1; obtain ⟨nb, h106, hnb, hW⟩ := h106; obtain ⟨ho, hnw⟩ := hG1 rfl; obtain ⟨i0, hi, hz0, hz1, hz2⟩ := info_parts info_int; refine wp_append_one (.tmp 99) (.tmp 106) 25 rfl w.heap.size 3 i0 (.int .i64 0) 8 Try.underlying25 hi hz0 hz1 hz2 rfl y9.a b y9.c (y9.l.map vi) ((eval_slot a 99).trans h99) ho ⟨nb, 0, none⟩ 1 (vi (T r k b)) ((eval_slot a 106).trans h106) (hW.at 0 rfl) rfl (by unfold maxLen; omega) (by omega) (HNG.out W hG).size ?_; intro g3 c3 w1 hown hon0; have hon : Onto1 y9.a y9.c g3 c3 W w1 := hon0; exact ⟨_, rfl, ⟨g3, c3, rfl, hown, hon.ahead hnw⟩, hon.grown, grown_trans' hG hon.grown, fun e => absurd rfl e⟩
       ·intro wk hG
        rintro _ rfl _ rfl _ rfl _ rfl _ rfl _ rfl _ rfl _ rfl _ rfl _ rfl _ rfl _ rfl _ rfl _ rfl _ rfl _ rfl _ rfl _ rfl _ hv106 _ ⟨g3, c3, rfl, hown, hon⟩
        change wpList _ _ _ _ _ _
        simp only [Act.put, List.setIfInBounds_toArray, List.set_cons_zero, List.set_cons_succ, List.drop_succ_cons, List.drop_zero]
        obtain ⟨cyW, fzW, us2, hpj⟩ := HPUT.out g3 c3 wk hon hown
        have HE := Lib.hid hpj
        clear hpj hown hon hG hv106 x1 l0 l1 l2 l3 hadd hr9
        go_wp2_with fail
        refine ⟨⟨b + 1, us2, by simp, by omega, HE.out⟩, ?_⟩
        simp [intOf]
        omega
end

section
open Go.ChangeShapes Go.WideShapes Go.ChangeAt Go.RowKit Go.Shelf Go.Deep
theorem Try.cells89 : Try.prog.cellsOf 89 = 1 := by kernel_rfl
section
variable {H : Type} {enc : TypeId × Value -> H} {w : World} {base : Nat} {spare : Nat -> Bool} {held : Bool} {fuel : Nat} {cs : List Value} {x : DataW H × List MemPlace}
theorem ln_cells (h : DataW.trod enc Try.prog w base spare held fuel 25 cs = some x) : ∃ y : Ln, cs = lnL y /\ (y.l.length <= maxLen /\ Row intL 1 w w.heap.size y.a y.l) := by
 obtain ⟨A, l, cp, e, hl, hr⟩ := ints_open h
 exact ⟨⟨l, A, cp⟩, e, hl, hr⟩
theorem rw_cells (h : DataW.trod enc Try.prog w base spare held fuel 89 cs = some x) : ∃ y : Rw, cs = rwL y /\ (Row lnL 1 w w.heap.size y.a y.ls /\ ∀ z ∈ y.ls, Row intL 1 w w.heap.size z.a z.l) := by
 obtain ⟨A, l, cp, e, hl, hr, hc⟩ := open_rowP (ec := lnL) Try.underlying89 Try.cells25 (fun _ => rfl) (by omega) ln_cells h
 exact ⟨⟨l, A, cp⟩, e, hr, fun z hz => (hc z hz).2⟩
theorem table_open (h : DataW.trod enc Try.prog w base spare held fuel 87 cs = some x) : ∃ (A : Option Addr) (ts : List Rw) (cp : Nat), cs = [.slice A ts.length cp] /\ ts.length <= maxLen /\ TbOk ts A w := by
 obtain ⟨A, l, cp, e, hl, hr, hc⟩ := open_rowP (ec := rwL) Try.underlying87 Try.cells89 (fun _ => rfl) (by omega) rw_cells h
 exact ⟨A, l, cp, e, hl, hr, fun y hy => (hc y hy).1, fun y hy => (hc y hy).2⟩
end
theorem few_map {ts xs : List Rw} (h : xs.map Rw.d = ts.map Rw.d) (ht : TbFew ts) : TbFew xs := by
 have hm : ∀ x ∈ xs, ∃ t ∈ ts, t.d = x.d := fun x hx => by
  have h1 : x.d ∈ xs.map Rw.d := List.mem_map.2 ⟨x, hx, rfl⟩
  rw [h] at h1
  exact List.mem_map.1 h1
 refine ⟨?_, fun x hx => ?_, fun x hx y hy => ?_⟩
 ·have := congrArg List.length h
  simp only [List.length_map] at this
  have := ht.rows
  omega
 ·obtain ⟨t, ht1, ht2⟩ := hm x hx
  have := congrArg List.length ht2
  unfold Rw.d at this
  simp only [List.length_map] at this
  have := ht.lss t ht1
  omega
 ·obtain ⟨t, ht1, ht2⟩ := hm x hx
  have h1 : y.l ∈ x.d := List.mem_map.2 ⟨y, hy, rfl⟩
  rw [<- ht2] at h1
  obtain ⟨z, hz, e⟩ := List.mem_map.1 h1
  have := ht.nums t ht1 z hz
  rw [e] at this
  exact this
theorem few_tab {s : Sd} {f : Int} (hs : SdOk s) {xs : List Rw} (h : xs.map Rw.d = tabD s f) : TbFew xs := by
 have h1 := hs.cols
 have h2 := hs.beds
 have h3 := hs.least
 have hK : s.K <= 4 := by unfold Sd.K; omega
 refine ⟨?_, fun x hx => ?_, fun x hx y hy => ?_⟩
 ·have := congrArg List.length h
  unfold tabD at this
  simp only [List.length_map, List.length_range] at this
  omega
 ·have h4 : x.d ∈ xs.map Rw.d := List.mem_map.2 ⟨x, hx, rfl⟩
  rw [h] at h4
  obtain ⟨r, _, e⟩ := List.mem_map.1 h4
  have := congrArg List.length e
  unfold Rw.d at this
  simp only [List.length_map, List.length_range] at this
  omega
 ·have h4 : x.d ∈ xs.map Rw.d := List.mem_map.2 ⟨x, hx, rfl⟩
  rw [h] at h4
  obtain ⟨r, _, e⟩ := List.mem_map.1 h4
  have h5 : y.l ∈ x.d := List.mem_map.2 ⟨y, hy, rfl⟩
  rw [<- e] at h5
  obtain ⟨k, _, e2⟩ := List.mem_map.1 h5
  have := congrArg List.length e2
  simp only [List.length_map, List.length_range] at this
  omega
theorem prove_chain (s : Sm) (d : Sd) (f : Int) (D : List (List (List Int))) (p : Bool) (w : World) (hok : SmOk s w) (hd : s.sd = d) (few : SmFew s) (hp : provO d f D = p) : Calls Try.prog 19 #[smV s] w fun e w' => ∃ s2 : Sm, e = .returned (smV s2) /\ (∀ (ts : List Rw) (A : Option Addr) (c : Nat) W, newer w' W -> TbOk ts A W -> TbFew ts -> ts.map Rw.d = D -> Calls Try.prog 51 #[smV s2, vi f, .slice A ts.length c] W fun e w3 => e = .returned (.bool p) /\ newer W w3) /\ newer w w' := by
 subst hd
 refine (lawSlope s w hok few).mono ?_
 rintro e w' ⟨s2, rfl, h1, h2, h3⟩
 refine ⟨s2, rfl, fun ts A c W hW ht tf hD => ?_, h3⟩
 have h4 := prove_any s2 f ts A c W (h2.next hW) (few_sd h1 few) ht tf
 rw [h1, hD, hp] at h4
 exact h4
end

section
open Go.RowKit Go.Shelf Go.Deep
set_option maxRecDepth 100000 in
set_option maxHeartbeats 2000000 in
theorem refCost_any (b : Bd) (f : Int) (w : World) (hbd : bdB b = true) (f0 : 0 <= f) (f1 : f <= 10001) : Calls Try.prog 86 #[bdV b, vi f] w fun e w' => e = .returned (vi (costB f (some false) b)) /\ newer w w' := by
 have hnw := newer_allocH w (.cells (bdC b) 69)
 have hbx := Whole.made w 69 (bdC b)
 unfold costB
 obtain ⟨y, hy⟩ : ∃ y, y = trR (some false) b := ⟨_, rfl⟩
 obtain ⟨h, hh⟩ : ∃ h, h = holdsN b y := ⟨_, rfl⟩
 have htb := tr_bd (some false) hbd
 have hhb := holds_bd (b := b) (x := y) (bdB_parts hbd).2.1 (by rw [hy]; exact htb.1) (by rw [hy]; exact htb.2.1) (by rw [hy]; exact htb.2.2.1)
 have HT : Hid (∀ W, Calls Try.prog 79 #[bdV b] W fun e w' => e = .returned (rlV y) /\ newer W w') := Lib.hid (fun W => by rw [hy]; exact refLeast_any b W)
 have HH := Lib.hid (fun W => refHolds_any b y W (bdB_parts hbd).2.1 (by rw [hy]; exact htb.1) (by rw [hy]; exact htb.2.1) (by rw [hy]; exact htb.2.2))
 rw [<- hh] at HH hhb
 rw [<- hy, <- hh]
 have hdr := (bdB_parts hbd).1
 have m1 := Int.mul_le_mul_of_nonneg_left hdr.1 f0
 have m2 := Int.mul_le_mul_of_nonneg_left hdr.2 f0
 obtain ⟨fd, hfd⟩ : ∃ fd, fd = f * b.drive := ⟨_, rfl⟩
 rw [<- hfd] at m1 m2 ⊢
 have c23 : IntKind.i64.wrap (1000 * h) = 1000 * h := IntWalk.i64_in _ (by omega)
 have c28 : IntKind.i64.wrap (f * b.drive) = fd := by rw [<- hfd]; exact IntWalk.i64_in _ (by omega)
 have c29 : IntKind.i64.wrap (1000 * h - fd) = 1000 * h - fd := IntWalk.i64_in _ (by omega)
 have HC := Lib.hid (And.intro c23 (And.intro c28 c29))
 obtain ⟨w1, hw1⟩ : ∃ x, x = w.alloc (.cells (bdC b) 69) := ⟨_, rfl⟩
 rw [<- hw1] at hnw hbx
 have H1 := Lib.hid (And.intro hnw hbx)
 have HW := Lib.hid hw1
 clear hbd htb hhb hdr m1 m2 hfd hy hh c23 c28 c29 hnw hbx f0 f1 hw1
 have z0 := H1.out.2.at 0 (v := vi b.drive) rfl
 have z1 := H1.out.2.at 1 (v := vi b.normal) rfl
 have z2 := H1.out.2.at 2 (v := vi b.fr.lo) rfl
 have z3 := H1.out.2.at 3 (v := vi b.fr.hi) rfl
 have z4 := H1.out.2.at 4 (v := vi b.co.lo) rfl
 have z5 := H1.out.2.at 5 (v := vi b.co.hi) rfl
 have z6 := H1.out.2.at 6 (v := vi b.wa.lo) rfl
 have z7 := H1.out.2.at 7 (v := vi b.wa.hi) rfl
 go_enter Try.func86, Try.ntmps86
 go_upto_region 1 with fail
 rw [<- HW.out]
 refine wp_words (by kernel_rfl) (region_told 10 (by kernel_rfl) (by kernel_rfl) (fun W => Below w1.heap.size w1 W) newer (pickD [vIs (bdV b), vIs (bdV b), vIs (rlV y), vIs (vi h), vIs (vi (1000 * h)), vIs (vi f), vIs (.pointer (some ⟨w.heap.size, 0, none⟩)), vIs (vi b.drive), vIs (vi fd), vIs (vi (1000 * h - fd))]) (fun h k => newer_trans h k) (pickD_stable _ ⟨vIs_st, vIs_st, vIs_st, vIs_st, vIs_st, vIs_st, vIs_st, vIs_st, vIs_st, vIs_st, trivial⟩) (Below.refl _ w1).drew (Below.refl _ _) ?_ ?_)
 ·refine ⟨?_, ?_, ?_, ?_, ?_, ?_, ?_, ?_, ?_, ?_, trivial⟩
  ·intro a W hG hR hO hp; have h2 := hO.slot 2 (by kernel_rfl); have c0 := keep_cell z0 hG; have c1 := keep_cell z1 hG; have c2 := keep_cell z2 hG; have c3 := keep_cell z3 hG; have c4 := keep_cell z4 hG; have c5 := keep_cell z5 hG; have c6 := keep_cell z6 hG; have c7 := keep_cell z7 hG; refine kY (v := bdV b) hG rfl ?_; simp [slotOf] at h2; simp [execOp, go_sem, h2, c0, c1, c2, c3, c4, c5, c6, c7]
  ·intro a W hG hR hO hp; have h2 := hO.slot 2 (by kernel_rfl); have c0 := keep_cell z0 hG; have c1 := keep_cell z1 hG; have c2 := keep_cell z2 hG; have c3 := keep_cell z3 hG; have c4 := keep_cell z4 hG; have c5 := keep_cell z5 hG; have c6 := keep_cell z6 hG; have c7 := keep_cell z7 hG; refine kY (v := bdV b) hG rfl ?_; simp [slotOf] at h2; simp [execOp, go_sem, h2, c0, c1, c2, c3, c4, c5, c6, c7]
  ·intro a W hG hR hO hp
   have h6 : slotOf a 6 = bdV b := hp.1
   refine wp_enters (f := 79) (args := #[bdV b]) ?_ ((HT.out W).mono ?_)
   ·simp [slotOf] at h6
    simp [go_sem, h6]
   ·rintro e w' ⟨rfl, hb⟩
    exact ⟨_, rfl, _, rfl, rfl, hb, below_next hG hb⟩
  ·intro a W hG hR hO hp
   have h5 : slotOf a 5 = bdV b := hp.1
   have h7 : slotOf a 7 = rlV y := hp.2.1
   refine wp_enters (f := 80) (args := #[bdV b, rlV y]) ?_ ((HH.out W).mono ?_)
   ·simp [slotOf] at h5 h7
    simp [go_sem, h5, h7]
   ·rintro e w' ⟨rfl, hb⟩
    exact ⟨_, rfl, _, rfl, rfl, hb, below_next hG hb⟩
  ·intro a W hG hR hO hp; have h8 : slotOf a 8 = vi h := hp.1; refine kY (v := vi (1000 * h)) hG rfl ?_; simp [slotOf] at h8; simp [execOp, go_sem, h8, HC.out.1]
  ·exact fun a W hG _ hO _ => kM 1 rfl (hO.slot 1 (by kernel_rfl)) rfl hG
  ·intro a W hG hR hO hp; have h2 := hO.slot 2 (by kernel_rfl); refine kY (v := .pointer (some ⟨w.heap.size, 0, none⟩)) hG rfl ?_; simp [slotOf] at h2; simp [execOp, go_sem, h2]
  ·intro a W hG hR hO hp; have h11 : slotOf a 11 = .pointer (some ⟨w.heap.size, 0, none⟩) := hp.1; have c0 := keep_cell z0 hG; refine kY (v := vi b.drive) hG rfl ?_; simp [slotOf] at h11; simp [execOp, go_sem, h11, c0]
  ·intro a W hG hR hO hp; have h10 : slotOf a 10 = vi f := hp.1; have h12 : slotOf a 12 = vi b.drive := hp.2.1; refine kY (v := vi fd) hG rfl ?_; simp [slotOf] at h10 h12; simp [execOp, go_sem, h10, h12, HC.out.2.1]
  ·intro a W hG hR hO hp; have h9 : slotOf a 9 = vi (1000 * h) := hp.1; have h13 : slotOf a 13 = vi fd := hp.2.1; refine kY (v := vi (1000 * h - fd)) hG rfl ?_; simp [slotOf] at h9 h13; simp [execOp, go_sem, h9, h13, HC.out.2.2]
 ·intro wz hG hR
  rintro _ rfl _ rfl _ rfl _ rfl _ rfl _ rfl _ rfl _ rfl _ rfl _ rfl
  change wpList _ _ _ _ _ _
  simp only [Act.put, List.setIfInBounds_toArray, List.set_cons_zero, List.set_cons_succ, List.drop_succ_cons, List.drop_zero]
  have HN := Lib.hid (newer_trans H1.out.1 hG)
  clear hG hR H1 z0 z1 z2 z3 z4 z5 z6 z7
  go_wp2_with fail
  go_ret
  exact ⟨rfl, HN.out⟩
end

end Go.Proofs.Ytkenokpobbichaa
