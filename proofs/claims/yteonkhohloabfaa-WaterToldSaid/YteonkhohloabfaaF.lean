/- Water comes down on the cells and goes on: what pass does to a ground on its way. -/
import Derived.Test.YteonkhohloabfaaD
import Derived.Test.YteonkhohloabfaaE
import Derived.Deep.DeepCutAuto
import Derived.StillTailTactics
namespace Go.Proofs.Yteonkhohloabfaa
open Go.RowKit

def nowCs (f : Nat → Int) : Array Value := #[vi (f 0), vi (f 1), vi (f 2), vi (f 3), vi (f 4), vi (f 5), vi (f 6), vi (f 7)]
theorem nowCs_at (f : Nat → Int) {k : Nat} (h : k < 8) : (nowCs f)[k]? = some (vi (f k)) := by
  rcases lt8 h with rfl | rfl | rfl | rfl | rfl | rfl | rfl | rfl <;> rfl
theorem nowCs_set (f : Nat → Int) {k : Nat} (h : k < 8) (x : Int) : (nowCs f).setIfInBounds k (vi x) = nowCs (upd f k x) := by
  rcases lt8 h with rfl | rfl | rfl | rfl | rfl | rfl | rfl | rfl <;> rfl
theorem now_set {W : World} {g : Nat} {f f' : Nat → Int} (h : Whole W g 117 (nowCs f)) {k : Nat} (hk : k < 8) (x : Int) (he : ∀ i, f' i = if i = k then x else f i) : Whole (W.setCell ⟨g, k, none⟩ (vi x)) g 117 (nowCs f') := by
  have := h.set k (vi x)
  rw [nowCs_set f hk] at this
  have e : f' = upd f k x := funext fun i => by rw [he i]; rfl
  rw [e]; exact this
theorem level_set {W : World} {g : Nat} {s : Way} {f f' : Nat → Int} {snow left : Int} (h : Whole W g 119 (wayCs s f snow left)) {k : Nat} (hk : k < 8) (x : Int) (he : ∀ i, f' i = if i = k then x else f i) : Whole (W.setCell ⟨g, 11 + k, none⟩ (vi x)) g 119 (wayCs s f' snow left) := by
  have := h.set (11 + k) (vi x)
  rw [wayCs_set_level s f snow left hk] at this
  have e : f' = upd f k x := funext fun i => by rw [he i]; rfl
  rw [e]; exact this
theorem left_set {W : World} {g : Nat} {s : Way} {f : Nat → Int} {snow left : Int} (h : Whole W g 119 (wayCs s f snow left)) (x : Int) : Whole (W.setCell ⟨g, 20, none⟩ (vi x)) g 119 (wayCs s f snow x) := h.set 20 (vi x)

theorem gen_world {P : Program} {c : Code} {Q : Exit → Act → World → Prop} {a : Act} {w : World} (F : World → Prop) (hF : F w) (h : ∀ w', F w' → Code.wp P c Q a w') : Code.wp P c Q a w := h w hF

/-- Between two statements of the first loop: the block of the way with what has left, the new levels, the cell at hand. -/
structure Mid (w : World) (b : Nat) (s : Way) (f : Nat → Int) (snow left : Int) (nw : Nat → Int) (cb : Nat) (c : Cell) (W : World) : Prop where
  grown : w.grownBy W (some b)
  way : OnWay W b s f snow left
  now : Whole W w.heap.size 117 (nowCs nw)
  cell : Whole W cb 99 #[vi c.lo, vi c.hi, vi c.cap, vi c.keep, vi c.pass, vi c.to, vi c.pump]
  far : b < w.heap.size ∧ w.heap.size < cb

theorem Mid.left {w : World} {b : Nat} {s : Way} {f : Nat → Int} {snow left : Int} {nw : Nat → Int} {cb : Nat} {c : Cell} {W : World} (h : Mid w b s f snow left nw cb c W) (x : Int) : Mid w b s f snow x nw cb c (W.setCell ⟨b, 20, none⟩ (vi x)) := by
  have hg := grown_set (p := ⟨b, 20, none⟩) h.grown (.inl rfl) (vi x)
  have hf := h.far
  have hg1 := grown_set (p := ⟨b, 20, none⟩) (grown_refl W (some b)) (.inl rfl) (vi x)
  exact ⟨hg, h.way.grown hg1 (left_set h.way.blk x), h.now.far (by show w.heap.size ≠ b; omega) _, h.cell.far (by show cb ≠ b; omega) _, hf⟩
theorem Mid.turn {w : World} {b : Nat} {s : Way} {f : Nat → Int} {snow left : Int} {nw nw' : Nat → Int} {cb : Nat} {c : Cell} {W : World} (h : Mid w b s f snow left nw cb c W) {k : Nat} (hk : k < 8) (x : Int) (he : ∀ i, nw' i = if i = k then x else nw i) :
    Mid w b s f snow left nw' cb c (W.setCell ⟨w.heap.size, k, none⟩ (vi x)) := by
  have hf := h.far
  have hg := grown_set (p := ⟨w.heap.size, k, none⟩) h.grown (.inr (Nat.le_refl _)) (vi x)
  have hB : Below w.heap.size W (W.setCell ⟨w.heap.size, k, none⟩ (vi x)) := (Below.refl _ _).setCell (p := ⟨w.heap.size, k, none⟩) (Nat.le_refl _) _
  have hB' : Below b W (W.setCell ⟨w.heap.size, k, none⟩ (vi x)) := hB.mono (by omega)
  exact ⟨hg, ⟨h.way.blk.far (by show b ≠ w.heap.size; omega) _, h.way.cells.below hB', h.way.days.below hB', h.way.levels.below hB', h.way.rain.below hB'⟩, now_set h.now hk x he, h.cell.far (by show cb ≠ w.heap.size; omega) _, hf⟩
theorem Mid.alloc {w : World} {b : Nat} {s : Way} {f : Nat → Int} {snow left : Int} {nw : Nat → Int} {cb : Nat} {c : Cell} {W : World} (h : Mid w b s f snow left nw cb c W) (o : Obj) : Mid w b s f snow left nw cb c (W.alloc o) := by
  have hB : Below b W (W.alloc o) := (Below.refl _ _).alloc (Nat.le_of_lt h.way.blk.lt) _
  exact ⟨grown_alloc h.grown _, ⟨h.way.blk.alloc _, h.way.cells.below hB, h.way.days.below hB, h.way.levels.below hB, h.way.rain.below hB⟩, h.now.alloc _, h.cell.alloc _, h.far⟩
theorem Mid.drewN {w : World} {b : Nat} {s : Way} {f : Nat → Int} {snow left : Int} {nw : Nat → Int} {cb : Nat} {c : Cell} {W : World} (h : Mid w b s f snow left nw cb c W) (n : Nat) : Mid w b s f snow left nw cb c (W.drewN n) :=
  ⟨grown_drewN h.grown n, ⟨h.way.blk, h.way.cells, h.way.days, h.way.levels, h.way.rain⟩, h.now, h.cell, h.far⟩

theorem Mid.drew {w : World} {b : Nat} {s : Way} {f : Nat → Int} {snow left : Int} {nw : Nat → Int} {cb : Nat} {c : Cell} {W : World} (h : Mid w b s f snow left nw cb c W) : Mid w b s f snow left nw cb c W.drew :=
  ⟨⟨h.grown.os, h.grown.tape, h.grown.output, h.grown.size, h.grown.block⟩, ⟨h.way.blk, h.way.cells, h.way.days, h.way.levels, h.way.rain⟩, h.now, h.cell, h.far⟩
theorem Mid.level {w : World} {b : Nat} {s : Way} {f f' : Nat → Int} {snow left : Int} {nw : Nat → Int} {cb : Nat} {c : Cell} {W : World} (h : Mid w b s f snow left nw cb c W) {k : Nat} (hk : k < 8) (x : Int) (he : ∀ i, f' i = if i = k then x else f i) :
    Mid w b s f' snow left nw cb c (W.setCell ⟨b, 11 + k, none⟩ (vi x)) := by
  have hg := grown_set (p := ⟨b, 11 + k, none⟩) h.grown (.inl rfl) (vi x)
  have hf := h.far
  have hg1 := grown_set (p := ⟨b, 11 + k, none⟩) (grown_refl W (some b)) (.inl rfl) (vi x)
  exact ⟨hg, h.way.grown hg1 (level_set h.way.blk hk x he), h.now.far (by show w.heap.size ≠ b; omega) _, h.cell.far (by show cb ≠ b; omega) _, hf⟩
theorem OnWay.alloc {W : World} {b : Nat} {s : Way} {f : Nat → Int} {snow left : Int} (h : OnWay W b s f snow left) (o : Obj) : OnWay (W.alloc o) b s f snow left := by
  have hB : Below b W (W.alloc o) := (Below.refl _ _).alloc (Nat.le_of_lt h.blk.lt) _
  exact ⟨h.blk.alloc _, h.cells.below hB, h.days.below hB, h.levels.below hB, h.rain.below hB⟩

/-- The levels while the second loop goes through the cells. -/
def lvTo (l : List Cell) (f : Nat → Int) (soaks : Int) (j i : Nat) : Int := if i < j then newLv l f soaks i else f i
theorem lvTo_zero (l : List Cell) (f : Nat → Int) (soaks : Int) : lvTo l f soaks 0 = f := by funext i; simp [lvTo]
theorem lvTo_step (l : List Cell) (f : Nat → Int) (soaks : Int) (j : Nat) (c : Cell) (hc : l[j]? = some c) (i : Nat) : lvTo l f soaks (j + 1) i = if i = j then min (nowF l f soaks l.length j) c.cap else lvTo l f soaks j i := by
  have hl : j < l.length := (List.getElem?_eq_some_iff.1 hc).1
  unfold lvTo
  by_cases h1 : i = j
  · subst h1
    rw [if_pos (by omega), if_pos rfl]
    unfold newLv
    rw [if_pos hl, cAt_of hc]
  · rw [if_neg h1]
    by_cases h2 : i < j
    · rw [if_pos (by omega), if_pos h2]
    · rw [if_neg (by omega), if_neg h2]
theorem lvTo_all (l : List Cell) (f : Nat → Int) (soaks : Int) : lvTo l f soaks l.length = newLv l f soaks := by
  funext i
  unfold lvTo
  split
  · rfl
  · rename_i h
    unfold newLv
    rw [if_neg h]

def baseNow (l : List Cell) (f : Nat → Int) (soaks : Int) (k : Nat) (c : Cell) (i : Nat) : Int := nowF l f soaks k i + if i = k then baseF c (f k) soaks else 0

set_option maxRecDepth 100000 in
set_option maxHeartbeats 1000000 in
theorem pass_any (s : Way) (f : Nat → Int) (snow left down soaks : Int) (b : Nat) (w : World) (h : OnWay w b s f snow left) (hc : CsOk s.l) (hf : LvOk s.l f) (h8 : s.l.length ≤ 8)
    (d0 : 0 ≤ down) (d1 : down ≤ 10000) (p0 : 0 ≤ down * s.soak) (p1 : down * s.soak ≤ 10000000) (hs : soaks = down * s.soak / 1000) (hs1 : soaks ≤ down) :
    Calls Try.prog 88 #[.pointer (some ⟨b, 0, none⟩), .int .i64 down] w fun e w' => e = .returned (.tuple #[]) ∧ w.grownBy w' (some b) ∧ OnWay w' b s (newLv s.l f soaks) snow (newLeft s.l f down soaks) := by
  obtain ⟨l, A, ap, slo, shi, klo, khi, melt, days, D, dp, tsnow, soak, levels, L, lp, rain, R, rp⟩ := s
  dsimp only at hc hf h8 p0 p1 hs ⊢
  have c0 := h.blk.at 0 (v := .slice A l.length ap) rfl
  have c8 := h.blk.at 8 (v := vi soak) rfl
  have c20 := h.blk.at 20 (v := vi left) rfl
  have f20 := h.blk.free 20
  have hlt := h.blk.lt
  have hne : ¬ b = w.heap.size := by omega
  have H := Lib.hid h
  clear h
  obtain ⟨n, hn⟩ : ∃ n, n = l.length := ⟨_, rfl⟩
  rw [← hn] at c0 h8
  have HN := Lib.hid hn
  clear hn
  have HS := Lib.hid hs
  clear hs
  go_enter Try.func88, Try.ntmps88
  go_wp2
  rw [← HS.out]
  have s0 : 0 ≤ soaks := by have := HS.out; omega
  clear p0 p1 c8 c20 f20 c0
  go_loopw [6, 7, 8, 9, 10, 30] (fun _ _ _ _ _ i wr => ∃ k : Nat, k ≤ n ∧ i = .int .i64 k ∧ w.grownBy wr (some b) ∧ OnWay wr b ⟨l, A, ap, slo, shi, klo, khi, melt, days, D, dp, tsnow, soak, levels, L, lp, rain, R, rp⟩ f snow (leftA l f down soaks k) ∧ Whole wr w.heap.size 117 (nowCs (nowF l f soaks k))) (fun _ _ _ _ _ i _ => n - (intOf i).toNat)
  case atStart =>
    have h0 := left_set (H.out).blk 0
    have hsz : (w.setCell ⟨b, 20, none⟩ (vi 0)).heap.size = w.heap.size := by simp [World.setCell]
    have hg0 := grown_set (p := ⟨b, 20, none⟩) (grown_refl w (some b)) (.inl rfl) (vi 0)
    have hw0 := (H.out).grown hg0 h0
    have hmade := Whole.made (w.setCell ⟨b, 20, none⟩ (vi 0)) 117 (nowCs (fun _ => 0))
    rw [hsz] at hmade
    have e0 : nowF l f soaks 0 = fun _ => 0 := by funext i; simp [nowF, inflow]
    refine ⟨0, Nat.zero_le _, rfl, grown_alloc hg0 _, hw0.alloc _, ?_⟩
    rw [e0]
    exact hmade
  case round =>
    obtain ⟨k, hk, rfl, hg, hway, hnow⟩ := hrel
    by_cases hlt : k < n
    · obtain ⟨c, hck⟩ := get_of_lt (l := l) (k := k) (by have := HN.out; omega)
      obtain ⟨b2, off, eA, _, h0, h1, h2, h3, h4, h5, h6⟩ := row7 hway.cells hck
      have hok := hc k (by have := HN.out; omega)
      rw [cAt_of hck] at hok
      obtain ⟨x0, x1⟩ := hf k (by have := HN.out; omega)
      have cl := hway.blk.at (11 + k) (wayCs_level _ f snow _ (show k < 8 by omega))
      have cn := hnow.at k (nowCs_at _ (show k < 8 by omega))
      have fn := hnow.free k
      have lb := leftA_bd hc hf s0 hs1 d1 k (by have := HN.out; omega)
      have nb := now_bd hc hf s0 (by omega) k k (by have := HN.out; omega)
      have hlt2 : b < wr.heap.size := hway.blk.lt
      have hlt3 : w.heap.size < wr.heap.size := hnow.lt
      have hne2 : ¬ b = wr.heap.size := by omega
      have hne3 : ¬ w.heap.size = wr.heap.size := by omega
      have k1 := hok.keep1
      have k2 := hok.pump1
      have k3 := hok.keep2
      have k4 := hok.cap2
      have HMID : Hid (Mid w b ⟨l, A, ap, slo, shi, klo, khi, melt, days, D, dp, tsnow, soak, levels, L, lp, rain, R, rp⟩ f snow (leftA l f down soaks k) (nowF l f soaks k) wr.heap.size c (wr.alloc (.cells #[vi c.lo, vi c.hi, vi c.cap, vi c.keep, vi c.pass, vi c.to, vi c.pump] 99))) := by
        have hB : Below b wr (wr.alloc (.cells #[vi c.lo, vi c.hi, vi c.cap, vi c.keep, vi c.pass, vi c.to, vi c.pump] 99)) := (Below.refl _ _).alloc (by omega) _
        exact ⟨grown_alloc hg _, ⟨hway.blk.alloc _, hway.cells.below hB, hway.days.below hB, hway.levels.below hB, hway.rain.below hB⟩, hnow.alloc _, Whole.made _ _ _, by omega, by omega⟩
      have HC := Lib.hid hck
      dsimp only at eA
      subst eA
      clear hway hnow hck hg
      obtain ⟨cb, hcb⟩ : ∃ cb, cb = wr.heap.size := ⟨_, rfl⟩
      have HCB := Lib.hid hcb
      have tb := taken_bd hok x0
      go_upto_region 6 with fail
      rw [← hcb] at HMID ⊢
      clear hcb h0 h1 h2 h3 h4 h5 h6 cl cn fn hlt2 hlt3 hne2 hne3
      refine gen_world (Mid w b ⟨l, some ⟨b2, off, none⟩, ap, slo, shi, klo, khi, melt, days, D, dp, tsnow, soak, levels, L, lp, rain, R, rp⟩ f snow (leftA l f down soaks k) (nowF l f soaks k) cb c) HMID.out ?_
      intro wv hm
      clear HMID
      have cl := hm.way.blk.at (11 + k) (wayCs_level _ f snow _ (show k < 8 by omega))
      have m6 := hm.cell.at 6 (v := vi c.pump) rfl
      have HM := Lib.hid hm
      clear hm
      go_cut [8] (fun s8 wx => s8 = .int .i64 (takenF c (f k)) ∧ Mid w b ⟨l, some ⟨b2, off, none⟩, ap, slo, shi, klo, khi, melt, days, D, dp, tsnow, soak, levels, L, lp, rain, R, rp⟩ f snow (leftA l f down soaks k) (nowF l f soaks k) cb c wx)
      case first =>
        by_cases hA : f k ≤ c.pump
        · have e1 : takenF c (f k) = f k := by unfold takenF; omega
          have E1 := Lib.hid e1
          clear e1
          go_quiet (fail)
          go_wp2_with fail
          go_meet
          exact ⟨by rw [E1.out], (HM.out).drewN _⟩
        · have e1 : takenF c (f k) = c.pump := by unfold takenF; omega
          have E1 := Lib.hid e1
          clear e1
          go_quiet (fail)
          go_wp2_with fail
          go_meet
          exact ⟨by rw [E1.out], (HM.out).drewN _⟩
      case rest =>
        obtain ⟨rfl, hm⟩ := hcut
        clear HM cl m6
        have cl := hm.way.blk.at (11 + k) (wayCs_level _ f snow _ (show k < 8 by omega))
        have m3 := hm.cell.at 3 (v := vi c.keep) rfl
        have m4 := hm.cell.at 4 (v := vi c.pass) rfl
        have HM := Lib.hid hm
        clear hm
        have ob := on_bd hok x0 x1
        have vb := over_bd hok x0
        have pb := prod_bd hok x0 x1
        go_upto_region 8 with fail
        go_cut [10] (fun s10 wx => s10 = .int .i64 (onF c (f k)) ∧ Mid w b ⟨l, some ⟨b2, off, none⟩, ap, slo, shi, klo, khi, melt, days, D, dp, tsnow, soak, levels, L, lp, rain, R, rp⟩ f snow (leftA l f down soaks k) (nowF l f soaks k) cb c wx)
        case first =>
          by_cases hA : f k - takenF c (f k) - c.keep ≤ 0
          · have e1 : onF c (f k) = 0 := by unfold onF overF staysF; rw [Int.max_eq_left hA]; simp
            have E1 := Lib.hid e1
            clear e1
            go_wp2_with fail
            go_meet
            exact ⟨by rw [E1.out], HM.out⟩
          · have e2 : overF c (f k) = f k - takenF c (f k) - c.keep := by unfold overF staysF; omega
            rw [e2] at pb
            have E1 : Hid (onF c (f k) = (f k - takenF c (f k) - c.keep) * c.pass / 1000) := by unfold onF; rw [e2]; exact rfl
            clear e2
            go_wp2_with fail
            go_meet
            exact ⟨by rw [E1.out], HM.out⟩
        case rest =>
          obtain ⟨rfl, hm⟩ := hcut
          clear HM cl m3 m4 pb
          have cn := hm.now.at k (nowCs_at _ (show k < 8 by omega))
          have fn := hm.now.free k
          have HM := Lib.hid hm
          clear hm
          go_upto_region 10 with fail
          refine gen_world (Mid w b ⟨l, some ⟨b2, off, none⟩, ap, slo, shi, klo, khi, melt, days, D, dp, tsnow, soak, levels, L, lp, rain, R, rp⟩ f snow (leftA l f down soaks k) (baseNow l f soaks k c) cb c) ?_ ?_
          · refine (HM.out).turn (by omega) _ ?_
            intro i
            unfold baseNow baseF staysF
            split
            · rename_i hi; subst hi; omega
            · omega
          intro wv hm
          clear HM cn fn
          have c20 := hm.way.blk.at 20 (v := vi (leftA l f down soaks k)) rfl
          have f20 := hm.way.blk.free 20
          have hb1 : ¬ b = wv.heap.size := by have := hm.way.blk.lt; omega
          have HM := Lib.hid hm
          clear hm
          go_cut [8] (fun s8 wx => s8 = .int .i64 (takenF c (f k)) ∧ Mid w b ⟨l, some ⟨b2, off, none⟩, ap, slo, shi, klo, khi, melt, days, D, dp, tsnow, soak, levels, L, lp, rain, R, rp⟩ f snow (leftA l f down soaks k + (down - soaks + takenF c (f k))) (baseNow l f soaks k c) cb c wx)
          case first =>
            have z1 : -1000000000 ≤ down - soaks := by omega
            have z2 : down - soaks ≤ 1000000000 := by omega
            have z3 : -1000000000 ≤ takenF c (f k) := by omega
            have z4 : takenF c (f k) ≤ 1000000000 := by omega
            have q1 : IntKind.i64.wrap (down - soaks) = down - soaks := IntWalk.i64_in _ (by omega)
            have q2 : IntKind.i64.wrap (leftA l f down soaks k + (down - soaks + takenF c (f k))) = leftA l f down soaks k + (down - soaks + takenF c (f k)) := IntWalk.i64_in _ (by omega)
            have hsum : Calls Try.prog 100 #[.slice (some ⟨wv.heap.size, 0, none⟩) 2 2] (wv.alloc (.cells #[.int .i64 (down - soaks), .int .i64 (takenF c (f k))] 3)).drew fun e w' => e = .returned (.int .i64 (down - soaks + takenF c (f k))) ∧ (wv.alloc (.cells #[.int .i64 (down - soaks), .int .i64 (takenF c (f k))] 3)).drew = w' :=
              sum2_any _ _ _ _ ((Whole.made wv 3 #[.int .i64 (down - soaks), .int .i64 (takenF c (f k))]).at 0 rfl) ((Whole.made wv 3 #[.int .i64 (down - soaks), .int .i64 (takenF c (f k))]).at 1 rfl) z1 z2 z3 z4
            have g1 := ((HM.out).alloc (.cells #[.int .i64 (down - soaks), .int .i64 (takenF c (f k))] 3)).way.blk.at 20 (v := vi (leftA l f down soaks k)) rfl
            have g2 := ((HM.out).alloc (.cells #[.int .i64 (down - soaks), .int .i64 (takenF c (f k))] 3)).way.blk.free 20
            have HSUM := Lib.hid hsum
            clear hsum z1 z2 z3 z4
            go_region_with (go_at_call 100; go_loud (refine (HSUM.out).mono ?_); rintro e w' ⟨rfl, rfl⟩)
            all_goals (go_wp2_with fail; go_meet; exact ⟨rfl, (((HM.out).alloc _).left _).drew⟩)
          case rest =>
            obtain ⟨rfl, hm⟩ := hcut
            clear HM c20 f20 hb1
            have c20 := hm.way.blk.at 20 (v := vi (leftA l f down soaks k + (down - soaks + takenF c (f k)))) rfl
            have f20 := hm.way.blk.free 20
            have m5 := hm.cell.at 5 (v := vi c.to) rfl
            by_cases ht : c.to = -1
            · have HM := Lib.hid hm
              clear hm
              go_wp2_with fail
              have hm2 := (HM.out).left (leftA l f down soaks k + (down - soaks + takenF c (f k)) + onF c (f k))
              have ea : leftA l f down soaks (k + 1) = leftA l f down soaks k + (down - soaks + takenF c (f k)) + onF c (f k) := by rw [leftA_step _ _ _ _ _ c HC.out, if_pos ht]
              have en : nowF l f soaks (k + 1) = baseNow l f soaks k c := funext fun i => by
                rw [nowF_step _ _ _ _ _ c HC.out, if_neg (show ¬ c.to = (i : Int) by omega)]
                unfold baseNow
                omega
              exact ⟨⟨k + 1, by omega, by push_cast; rfl, hm2.grown, by rw [ea]; exact hm2.way, by rw [en]; exact hm2.now⟩, by (simp only [intOf]; omega)⟩
            · obtain ⟨t, htt⟩ : ∃ t : Nat, c.to = t := ⟨c.to.toNat, by have := hok.to1; omega⟩
              have ht8 : t < 8 := by have := hok.to2; have := HN.out; omega
              have ht8i : (t : Int) < 8 := by omega
              rw [htt] at m5
              have cn := hm.now.at t (nowCs_at _ ht8)
              have fn := hm.now.free t
              have nt : 0 ≤ baseNow l f soaks k c t ∧ baseNow l f soaks k c t ≤ 100000000 := by
                have a1 := now_bd hc hf s0 (by omega) k t (by have := HN.out; omega)
                have a2 := base_bd hok x0 x1 s0 (show soaks ≤ 10000 by omega)
                unfold baseNow
                split <;> omega
              have HM := Lib.hid hm
              have HT := Lib.hid htt
              clear hm htt ht
              go_wp2_with fail
              have hm2 := (HM.out).turn (nw' := nowF l f soaks (k + 1)) ht8 (baseNow l f soaks k c t + onF c (f k)) (fun i => by
                rw [nowF_step _ _ _ _ _ c HC.out, HT.out]
                unfold baseNow
                by_cases hi : i = t
                · subst hi; rw [if_pos rfl, if_pos rfl]
                · rw [if_neg hi, if_neg (show ¬ (t : Int) = (i : Int) by omega)]; omega)
              have ea : leftA l f down soaks (k + 1) = leftA l f down soaks k + (down - soaks + takenF c (f k)) := by rw [leftA_step _ _ _ _ _ c HC.out, if_neg (by rw [HT.out]; omega)]; omega
              exact ⟨⟨k + 1, by omega, by push_cast; rfl, hm2.grown, by rw [ea]; exact hm2.way, hm2.now⟩, by (simp only [intOf]; omega)⟩
    · have hkn : k = n := by omega
      subst hkn
      have c0 := hway.blk.at 0 (v := .slice A l.length ap) rfl
      rw [← HN.out] at c0
      have lb := leftA_bd hc hf s0 hs1 d1 k (by have := HN.out; omega)
      have HW := Lib.hid (And.intro hg (And.intro hway hnow))
      clear hg hway hnow
      go_wp2_with fail
      clear c0
      go_loopw [11, 12, 109] (fun _ _ i wr2 => ∃ j : Nat, j ≤ k ∧ i = .int .i64 j ∧ w.grownBy wr2 (some b) ∧ OnWay wr2 b ⟨l, A, ap, slo, shi, klo, khi, melt, days, D, dp, tsnow, soak, levels, L, lp, rain, R, rp⟩ (lvTo l f soaks j) snow (leftA l f down soaks k + leftB l f soaks j) ∧ Whole wr2 w.heap.size 117 (nowCs (nowF l f soaks k))) (fun _ _ i _ => k - (intOf i).toNat)
      case atStart =>
        obtain ⟨a1, a2, a3⟩ := HW.out
        refine ⟨0, Nat.zero_le _, rfl, a1, ?_, a3⟩
        rw [lvTo_zero]
        simpa [leftB] using a2
      case round =>
        obtain ⟨j, hj, rfl, hg, hway, hnow⟩ := hrel
        clear HW
        by_cases hjn : j < k
        · obtain ⟨c, hck⟩ := get_of_lt (l := l) (k := j) (by have := HN.out; omega)
          obtain ⟨b2, off, eA, _, h0, h1, h2, h3, h4, h5, h6⟩ := row7 hway.cells hck
          have hok := hc j (by have := HN.out; omega)
          rw [cAt_of hck] at hok
          have nb := now_bd hc hf s0 (by omega) k j (by have := HN.out; omega)
          have bb := leftB_bd hc hf s0 (by omega) (by have := HN.out; omega) j (by have := HN.out; omega)
          have k1 := hok.cap1
          have k2 := hok.cap2
          have hlt2 : b < wr.heap.size := hway.blk.lt
          have hlt3 : w.heap.size < wr.heap.size := hnow.lt
          have HMID : Hid (Mid w b ⟨l, A, ap, slo, shi, klo, khi, melt, days, D, dp, tsnow, soak, levels, L, lp, rain, R, rp⟩ (lvTo l f soaks j) snow (leftA l f down soaks k + leftB l f soaks j) (nowF l f soaks k) wr.heap.size c (wr.alloc (.cells #[vi c.lo, vi c.hi, vi c.cap, vi c.keep, vi c.pass, vi c.to, vi c.pump] 99))) :=
            ⟨grown_alloc hg _, hway.alloc _, hnow.alloc _, Whole.made _ _ _, by omega, hlt3⟩
          have HC := Lib.hid hck
          dsimp only at eA
          subst eA
          clear hway hnow hck hg
          obtain ⟨cb, hcb⟩ : ∃ cb, cb = wr.heap.size := ⟨_, rfl⟩
          go_upto_region 18 with fail
          rw [← hcb] at HMID ⊢
          clear hcb h0 h1 h2 h3 h4 h5 h6 hlt2 hlt3
          refine gen_world (Mid w b ⟨l, some ⟨b2, off, none⟩, ap, slo, shi, klo, khi, melt, days, D, dp, tsnow, soak, levels, L, lp, rain, R, rp⟩ (lvTo l f soaks j) snow (leftA l f down soaks k + leftB l f soaks j) (nowF l f soaks k) cb c) HMID.out ?_
          intro wv hm
          clear HMID
          have c20 := hm.way.blk.at 20 (v := vi (leftA l f down soaks k + leftB l f soaks j)) rfl
          have f20 := hm.way.blk.free 20
          have cn := hm.now.at j (nowCs_at _ (show j < 8 by omega))
          have m2 := hm.cell.at 2 (v := vi c.cap) rfl
          have HM := Lib.hid hm
          clear hm
          have hj8 : (j : Int) < 8 := by omega
          have hj0 : 0 ≤ (j : Int) := by omega
          go_cut [] (fun wx => Mid w b ⟨l, some ⟨b2, off, none⟩, ap, slo, shi, klo, khi, melt, days, D, dp, tsnow, soak, levels, L, lp, rain, R, rp⟩ (lvTo l f soaks j) snow (leftA l f down soaks k + leftB l f soaks (j + 1)) (nowF l f soaks k) cb c wx)
          case first =>
            have q0 : IntKind.i64.wrap (nowF l f soaks k j - c.cap) = nowF l f soaks k j - c.cap := IntWalk.i64_in _ (by omega)
            by_cases hA : nowF l f soaks k j - c.cap ≤ 0
            · have e1 : leftB l f soaks (j + 1) = leftB l f soaks j := by
                rw [leftB_step l f soaks j c HC.out, ← HN.out, Int.max_eq_left hA]
                omega
              have E1 := Lib.hid e1
              clear e1
              have q1 : IntKind.i64.wrap (leftA l f down soaks k + leftB l f soaks j) = leftA l f down soaks k + leftB l f soaks j := IntWalk.i64_in _ (by omega)
              refine wp_region_still_tail 14 (by kernel_rfl) (by kernel_rfl) ?_
              simp only [List.take_succ_cons, List.take_zero, List.drop_succ_cons, List.drop_zero]
              change wpStill Try.prog _ (World.drew _) _ _ _
              repeat still_step
              refine wpStill_nil ?_
              change wpList _ _ _ _ _ (World.drew _)
              go_wp2_with fail
              go_meet
              rw [E1.out]
              first | exact ((HM.out).left _) | exact ((HM.out).left _).drew | exact ((HM.out).left _).drewN _
            · have e1 : leftB l f soaks (j + 1) = leftB l f soaks j + (nowF l f soaks k j - c.cap) := by
                rw [leftB_step l f soaks j c HC.out, ← HN.out, Int.max_eq_right (by omega)]
              have E1 : Hid (leftA l f down soaks k + leftB l f soaks (j + 1) = leftA l f down soaks k + leftB l f soaks j + (nowF l f soaks k j - c.cap)) := by
                show _ = _
                rw [e1]
                omega
              clear e1
              have q1 : IntKind.i64.wrap (leftA l f down soaks k + leftB l f soaks j + (nowF l f soaks k j - c.cap)) = leftA l f down soaks k + leftB l f soaks j + (nowF l f soaks k j - c.cap) := IntWalk.i64_in _ (by omega)
              refine wp_region_still_tail 14 (by kernel_rfl) (by kernel_rfl) ?_
              simp only [List.take_succ_cons, List.take_zero, List.drop_succ_cons, List.drop_zero]
              change wpStill Try.prog _ (World.drew _) _ _ _
              repeat still_step
              refine wpStill_nil ?_
              change wpList _ _ _ _ _ (World.drew _)
              go_wp2_with fail
              go_meet
              rw [E1.out]
              first | exact ((HM.out).left _) | exact ((HM.out).left _).drew | exact ((HM.out).left _).drewN _
          case rest =>
            have hm := hcut
            clear HM c20 f20 cn m2 hcut
            have cl := hm.way.blk.at (11 + j) (wayCs_level _ _ snow _ (show j < 8 by omega))
            have fl := hm.way.blk.free (11 + j)
            have cn := hm.now.at j (nowCs_at _ (show j < 8 by omega))
            have m2 := hm.cell.at 2 (v := vi c.cap) rfl
            have HM := Lib.hid hm
            clear hm
            go_upto_region 19 with fail
            by_cases hA : nowF l f soaks k j ≤ c.cap
            · have he : Hid (∀ i, lvTo l f soaks (j + 1) i = if i = j then nowF l f soaks k j else lvTo l f soaks j i) := by
                intro i
                rw [lvTo_step l f soaks j c HC.out, ← HN.out, Int.min_eq_left hA]
              refine wp_region_still_tail 11 (by kernel_rfl) (by kernel_rfl) ?_
              simp only [List.take_succ_cons, List.take_zero, List.drop_succ_cons, List.drop_zero]
              change wpStill Try.prog _ (World.drew _) _ _ _
              repeat still_step
              refine wpStill_nil ?_
              change wpList _ _ _ _ _ (World.drew _)
              go_wp2_with fail
              have hm := ((HM.out).level (show j < 8 by omega) _ he.out).drew
              exact ⟨⟨j + 1, by omega, by push_cast; rfl, hm.grown, hm.way, hm.now⟩, by (simp only [intOf]; omega)⟩
            · have he : Hid (∀ i, lvTo l f soaks (j + 1) i = if i = j then c.cap else lvTo l f soaks j i) := by
                intro i
                rw [lvTo_step l f soaks j c HC.out, ← HN.out, Int.min_eq_right (by omega)]
              refine wp_region_still_tail 11 (by kernel_rfl) (by kernel_rfl) ?_
              simp only [List.take_succ_cons, List.take_zero, List.drop_succ_cons, List.drop_zero]
              change wpStill Try.prog _ (World.drew _) _ _ _
              repeat still_step
              refine wpStill_nil ?_
              change wpList _ _ _ _ _ (World.drew _)
              go_wp2_with fail
              have hm := ((HM.out).level (show j < 8 by omega) _ he.out).drew
              exact ⟨⟨j + 1, by omega, by push_cast; rfl, hm.grown, hm.way, hm.now⟩, by (simp only [intOf]; omega)⟩
        · have hkj : j = k := by omega
          subst hkj
          have hE : Hid (w.grownBy wr (some b) ∧ OnWay wr b ⟨l, A, ap, slo, shi, klo, khi, melt, days, D, dp, tsnow, soak, levels, L, lp, rain, R, rp⟩ (newLv l f soaks) snow (newLeft l f down soaks)) := by
            refine ⟨hg, ?_⟩
            have e1 := lvTo_all l f soaks
            rw [← HN.out] at e1
            unfold newLeft
            rw [← HN.out, ← e1]
            exact hway
          clear hg hway hnow
          go_wp2_with fail
          go_end0; exact ⟨rfl, hE.out⟩
end Go.Proofs.Yteonkhohloabfaa
