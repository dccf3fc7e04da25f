/-
  The walk of DiskWoven. (Printed by wip/gen/woven.py.)
-/
import Derived.Outline
import Derived.Deep.OwnRows
import Derived.Deep.RegionHeld3
import Derived.Deep.CutRange
import Derived.Test.YtlljlkeknklplaaWoven1
namespace Go.Proofs.Ytlljlkeknklplaa
open Go.RowKit Go.Maps Go.MapKept

set_option maxRecDepth 100000 in
set_option maxHeartbeats 8000000 in
theorem woven_walk (w : World) (vl vm vord : Value) (cs ds : List ACall) (bs : List Bool) (hcs : CallsAt w vl cs) (hds : CallsAt w vm ds) (hbs : BoolsAt w vord bs) :
    Calls Try.prog 9 #[vl, vm, vord] w fun e w' => e = .returned (.bool true) ∧ Below w.heap.size w w' := by
  obtain ⟨aO, cO, rfl⟩ := SliceOf.shape hbs
  have hol := SliceOf.len_le hbs
  simp only [maxLen] at hol
  obtain ⟨ex, hex⟩ : ∃ ex : Nat → Prop, ex = fun k => k < w.heap.size := ⟨_, rfl⟩
  have Hex := Lib.hid hex
  have hx0 : ∀ k, ex k → k < w.heap.size := fun k hk => by rw [hex] at hk; exact hk
  clear hex
  have hxx : ∀ k, k < w.heap.size → ex k := fun k hk => by rw [Hex.out]; exact hk
  go_enter Try.func9, Try.ntmps9
  go_wp2_with fail
  refine (New_at (ex := ex) 1048576 (by decide) (by decide) hx0).mono ?_
  generalize w.heap.size + 1 = pa
  generalize hma : w.heap.size = ma
  rintro e w0 ⟨rfl, h0, kk0⟩
  obtain ⟨ex1, hx1, hx1l, hx1t⟩ := TwoAt.ofOne h0
  dsimp only
  go_wp2_with fail
  refine (New_at (ex := ex1) 1048576 (by decide) (by decide) hx1l).mono ?_
  generalize w0.heap.size + 1 = pb
  generalize w0.heap.size = mb
  rintro e w2 ⟨rfl, h1, kk1⟩
  have hT := hx1t _ _ _ _ h1 kk1
  have hK2 := kk0.trans (kk1.mono hx1)
  clear h0 kk0 hx1 hx1l hx1t h1 kk1
  have hbw2 : Below w.heap.size w w2 := hK2.below hxx
  dsimp only
  go_wp2_with fail
  refine (own_any hcs hbw2 ⟨#[45]⟩ rfl).mono ?_
  have mL := mine_of hcs 45
  obtain ⟨L, hL⟩ : ∃ L, ownL ⟨#[45]⟩ (cs.take 25) = L := ⟨_, rfl⟩
  rw [hL] at mL ⊢
  clear hL
  rintro e w3 ⟨aL, cL, rfl, hrL, hb3⟩
  dsimp only
  go_wp2_with fail
  refine (own_any hds (hbw2.trans (hb3.mono hbw2.size)) ⟨#[46]⟩ rfl).mono ?_
  have mM := mine_of hds 46
  obtain ⟨M, hM⟩ : ∃ M, ownL ⟨#[46]⟩ (ds.take 25) = M := ⟨_, rfl⟩
  rw [hM] at mM ⊢
  clear hM
  rintro e w4 ⟨aM, cM, rfl, hrM, hb4⟩
  have hs3 := hb3.size
  have hs4 := hb4.size
  have hb24 : Below w2.heap.size w2 w4 := hb3.trans (hb4.mono hb3.size)
  obtain ⟨ex2, hex2⟩ : ∃ ex2 : Nat → Prop, ex2 = fun k => ex k ∨ w2.heap.size ≤ k ∧ k < w4.heap.size := ⟨_, rfl⟩
  obtain ⟨d0, hd0⟩ : ∃ d0 : ADisk, (⟨1048576, -1, false, []⟩ : ADisk) = d0 := ⟨_, rfl⟩
  rw [hd0] at hT
  have st0 : St d0 0 [] := by rw [← hd0]; exact ⟨⟨rfl, rfl⟩, rfl, rfl, by simp [usedF], by simp⟩
  have sb0 : StB d0 L M 0 0 := by
    rw [← hd0]
    exact ⟨⟨rfl, rfl⟩, rfl, by simp [usedF], by simp, fun s _ => by simp [runF], fun s hs => by simpa [runF] using (runF_other (c := 45) (c' := 46) (by decide) L [] (fun x hx => ⟨(mL.2 x hx).2.1, (mL.2 x hx).2.2.1⟩) s hs).symm, by simp⟩
  clear hd0
  have hT4 : TwoAt ex2 w4 pa ma d0 pb mb d0 := hT.more hb24 (fun k hk => by rw [hex2] at hk; exact hk)
  have hx2 : ∀ k, ex k → ex2 k := fun k hk => by rw [hex2]; exact Or.inl hk
  have hx2n : ∀ k, w2.heap.size ≤ k → k < w4.heap.size → ex2 k := fun k h1 h2 => by rw [hex2]; exact Or.inr ⟨h1, h2⟩
  have hK4 := hK2.trans (Keep.ofBelow hb24 (fun k hk => hT.lt hk))
  have hrL4 := (Upd.ofBelow (fp := fun _ => False) hb4).row hrL (fun _ _ h => h)
  have hgL : ∀ g, (Value.slice aL L.length cL).ownBlock = some g → ex2 g := fun g hg => by have := hrL4.lt g hg; exact hx2n g this.1 this.2
  have hgM : ∀ g, (Value.slice aM M.length cM).ownBlock = some g → ex2 g := fun g hg => by have := hrM.lt g hg; exact hx2n g (by omega) this.2
  have hl25 := mL.1
  have hm25 := mM.1
  have hbw4 : Below w.heap.size w w4 := hK4.below hxx
  have hx24 : ∀ k, ex2 k → k < w4.heap.size := fun k hk => hT4.lt hk
  clear hT hK2 hbw2 hb3 hb4 hrL hex2 hb24
  dsimp only
  go_wp2_with fail
  go_loopw [11, 41] (fun v t wr => ∃ (i : Nat) (vo : Option Addr) (co : Nat) (da : ADisk) (exq : Nat → Prop), i ≤ L.length ∧ t = .int .i64 i ∧ v = .slice vo i co ∧ (∀ k, ex2 k → exq k) ∧ (∀ g, (Value.slice vo i co).ownBlock = some g → exq g) ∧ wr.ownsRow w4.heap.size 25 1 (.slice vo i co) i (iCells (errs [] L i)) ∧ TwoAt exq wr pa ma da pb mb d0 ∧ Keep ex2 w4 wr ∧ St da (0 + i) (runF [] (L.take i))) (fun _ t _ => L.length - (intOf t).toNat)
  case atStart => exact ⟨0, none, 0, d0, ex2, by omega, rfl, rfl, fun _ h => h, by simp [Value.ownBlock], World.ownsRow_nil _ _ _ _, hT4, Keep.refl _ _, (by simpa [runF] using st0)⟩
  case round =>
    obtain ⟨i, vo, co, da, exq, hi, rfl, rfl, hxq, hvo, hrow, hT, hK, hst⟩ := hrel
    have hbr : Below w.heap.size w wr := (hK4.trans (hK.mono hx2)).below hxx
    by_cases hlt : i < L.length
    · obtain ⟨gX, rfl, _, c0, c1, c2, c3, c4, c5⟩ := row_call (hK.row hrL4 hgL) i hlt
      obtain ⟨hok0, _, _, hlb⟩ := mL.2 L[i] (List.getElem_mem _)
      have hok := hok0.below hbr
      obtain ⟨e1, st'⟩ := hst.step hT.wfa (by omega) L[i] hlb
      rw [← runF_take _ _ _ hlt] at st'
      rw [← errF_at _ _ _ hlt] at e1
      have hes := errs_succ [] L i
      obtain ⟨er, her⟩ : ∃ er, errF [] L i = er := ⟨_, rfl⟩
      rw [her] at e1 hes
      have Hes := Lib.hid hes
      clear her hes hok0
      obtain ⟨cc, hcc⟩ : ∃ cc, L[i] = cc := ⟨_, rfl⟩
      rw [hcc] at hok hlb c0 c1 c2 c3 c4 c5 e1 st'
      clear hcc
      obtain ⟨ab, cb, hvb⟩ := hok.rb.shape
      obtain ⟨ak, ck, hvk⟩ := hok.rk.shape
      obtain ⟨what, name, tt, vb, b', n, vk, keeps⟩ := cc
      simp only [Nat.zero_add] at c0 c1 c2 c3 c4 c5
      simp only at hvb hvk hlb
      rw [bcells_length] at hvb
      rw [show (iCells keeps).length = keeps.length by simp [iCells]] at hvk
      subst hvb
      subst hvk
      obtain ⟨da', hda'⟩ : ∃ da', da.does ⟨what, name, tt, .slice ab b'.length cb, b', n, .slice ak keeps.length ck, keeps⟩ = da' := ⟨_, rfl⟩
      rw [hda'] at st'
      have Hda' := Lib.hid hda'
      have He1 := Lib.hid e1
      clear hda' e1
      have hbX : Below wr.heap.size wr (wr.alloc (.cells #[.int .u8 what, .string name, .string tt, .slice ab b'.length cb, .int .i64 n, .slice ak keeps.length ck] 48)) := (Below.refl _ _).alloc (Nat.le_refl _) _
      have hokX := hok.below hbX
      obtain ⟨exa, hxa, hDa, hxat⟩ := (hT.below hbX).left
      obtain ⟨w1, hw1⟩ : ∃ w1, wr.alloc (.cells #[.int .u8 what, .string name, .string tt, .slice ab b'.length cb, .int .i64 n, .slice ak keeps.length ck] 48) = w1 := ⟨_, rfl⟩
      rw [hw1] at hbX hokX hDa hxat
      have hrow1 := (Upd.ofBelow (fp := fun _ => False) hbX).row hrow (fun _ _ h => h)
      have Hrow := Lib.hid hrow
      have Hrow1 := Lib.hid hrow1
      have Hw1 := Lib.hid hw1
      clear hrow hrow1 hw1
      go_wp2_with fail
      rw [Hw1.out]
      refine (does_at _ hDa hokX (by show b'.length ≤ _; omega)).mono ?_
      rw [He1.out, Hda'.out]
      rintro e w5 ⟨rfl, hD5, hK5⟩
      have hT5 := hxat _ _ hD5 hK5
      have hrow5 := (hK5.mono hxa).row Hrow1.out hvo
      have hrow5' : w5.ownsRow 0 25 1 (.slice vo i co) (errs [] L i).length (iCells (errs [] L i)) := by rw [errs_len]; exact ownsRow_base0 hrow5
      have Hrow5 := Lib.hid hrow5
      have Hrow5' := Lib.hid hrow5'
      have hs5 := hK5.size
      have hsX := hbX.size
      have hsK := hK.size
      clear hrow5 hrow5' hokX hok c0 c1 c2 c3 c4 c5
      dsimp only
      go_wp2_with (refine append_err rfl (.tmp 45) (.tmp 49) rfl (.slice vo i co) (.slice (some ⟨w5.heap.size, 0, none⟩) 1 1) (errs [] L i) [er] (errs [] L (i + 1)) Hes.out.symm rfl (((Upd.refl (fun _ => False) w5).alloc _).row Hrow5'.out (fun _ _ h => h)) rfl (Rd_new _ _ _ _ (iCells [_]) _ _ rfl rfl) (by rw [errs_len]; simp; omega) ?_)
      intro vo' w6 hrow6 hg6 ho6
      rw [errs_len] at hrow6
      obtain ⟨ao', co', rfl, _⟩ := row_slice hrow6
      have hvoB : ∀ g, (Value.slice vo i co).ownBlock = some g → w4.heap.size ≤ g ∧ g < w5.heap.size := fun g hg => Hrow5.out.lt g hg
      have hU6 : Upd (fun g => (Value.slice vo i co).ownBlock = some g) w5 w6 := ((Upd.refl _ w5).alloc _).grown hg6 (fun g hg => Or.inl hg)
      have hrow6' : w6.ownsRow w4.heap.size 25 1 (.slice ao' (i + 1) co') (i + 1) (iCells (errs [] L (i + 1))) := by
        refine ownsRow_from hrow6 (fun g hg => ?_)
        rcases ho6 with ho6 | ⟨g6, ho6, hg6'⟩
        · exact (hvoB g (ho6 ▸ hg)).1
        · rw [ho6] at hg; cases hg; have : w5.heap.size ≤ (w5.alloc (.cells #[.int .i64 er] 25)).heap.size := by simp
          omega
      have hvo6 : ∀ g, (Value.slice ao' (i + 1) co').ownBlock = some g → exq g ∨ w5.heap.size ≤ g ∧ g < w6.heap.size := by
        intro g hg
        rcases ho6 with ho6 | ⟨g6, ho6, hg6'⟩
        · exact Or.inl (hvo g (ho6 ▸ hg))
        · have hlt6 := (hrow6'.lt g hg).2
          rw [ho6] at hg; cases hg
          have : w5.heap.size ≤ (w5.alloc (.cells #[.int .i64 er] 25)).heap.size := by simp
          exact Or.inr ⟨by omega, hlt6⟩
      have hT6 : TwoAt (fun k => exq k ∨ w5.heap.size ≤ k ∧ k < w6.heap.size) w6 pa ma da' pb mb d0 := hT5.grow hU6 (fun k _ hk => hvo k hk) (fun k hk => hk)
      have hK6 : Keep ex2 w4 w6 := ((hK.trans (Keep.ofBelow hbX (fun k hk => hT.lt (hxq k hk)))).trans (hK5.mono (fun k hk => hxa k (hxq k hk)))).trans (Keep.ofUpd hU6 (fun k hk => ⟨by have := hx24 k hk; omega, fun e => by have := hx24 k hk; have := (hvoB k e).1; omega⟩))
      have Hrow6' := Lib.hid hrow6'
      clear hrow6 hrow6' hg6 ho6 hU6
      go_wp2
      go_roundw
      case rel => exact ⟨i + 1, ao', co', da', _, by omega, by go_num, rfl, fun k hk => Or.inl (hxq k hk), hvo6, Hrow6'.out, hT6, hK6, st'⟩
      case measure => simp [intOf]; omega
    · obtain rfl : i = L.length := by omega
      obtain ⟨W5, hW5⟩ : ∃ x, x = wr := ⟨_, rfl⟩
      subst hW5
      obtain ⟨ex3, hex3⟩ : ∃ x, x = exq := ⟨_, rfl⟩
      subst hex3
      obtain ⟨vo1, hvo1⟩ : ∃ x, x = vo := ⟨_, rfl⟩
      subst hvo1
      obtain ⟨co1, hco1⟩ : ∃ x, x = co := ⟨_, rfl⟩
      subst hco1
      obtain ⟨da1, hda1⟩ : ∃ x, x = da := ⟨_, rfl⟩
      subst hda1
      have hstL : St da1 L.length (runF [] L) := by simpa [List.take_length] using hst
      have hrow1 := hrow
      have hvo1 := hvo
      have hK5 := hK4.trans (hK.mono hx2)
      have hx35 : ∀ k, ex3 k → k < W5.heap.size := fun k hk => hT.lt hk
      have hrM5 := hK.row hrM hgM
      have hrL5 := hK.row hrL4 hgL
      have hgM3 := fun g hg => hxq g (hgM g hg)
      have hgL3 := fun g hg => hxq g (hgL g hg)
      have hx3 : ∀ k, ex k → ex3 k := fun k hk => hxq k (hx2 k hk)
      clear hrow hvo hK hxq hgM hgL hrM hrL4 hT4 hst hlt hi
      go_wp2_with fail
      go_loopw [12, 54] (fun v t wr => ∃ (i : Nat) (vo : Option Addr) (co : Nat) (da : ADisk) (exq : Nat → Prop), i ≤ M.length ∧ t = .int .i64 i ∧ v = .slice vo i co ∧ (∀ k, ex3 k → exq k) ∧ (∀ g, (Value.slice vo i co).ownBlock = some g → exq g) ∧ wr.ownsRow W5.heap.size 25 1 (.slice vo i co) i (iCells (errs (runF [] L) M i)) ∧ TwoAt exq wr pa ma da pb mb d0 ∧ Keep ex3 W5 wr ∧ St da (L.length + i) (runF (runF [] L) (M.take i))) (fun _ t _ => M.length - (intOf t).toNat)
      case atStart => exact ⟨0, none, 0, da1, ex3, by omega, rfl, rfl, fun _ h => h, by simp [Value.ownBlock], World.ownsRow_nil _ _ _ _, hT, Keep.refl _ _, (by simpa [runF] using hstL)⟩
      case round =>
        obtain ⟨i, vo, co, da, exq, hi, rfl, rfl, hxq, hvo, hrow, hT, hK, hst⟩ := hrel
        have hbr : Below w.heap.size w wr := (hK5.trans (hK.mono hx3)).below hxx
        by_cases hlt : i < M.length
        · obtain ⟨gX, rfl, _, c0, c1, c2, c3, c4, c5⟩ := row_call (hK.row hrM5 hgM3) i hlt
          obtain ⟨hok0, _, _, hlb⟩ := mM.2 M[i] (List.getElem_mem _)
          have hok := hok0.below hbr
          obtain ⟨e1, st'⟩ := hst.step hT.wfa (by omega) M[i] hlb
          rw [← runF_take _ _ _ hlt] at st'
          rw [← errF_at _ _ _ hlt] at e1
          have hes := errs_succ (runF [] L) M i
          obtain ⟨er, her⟩ : ∃ er, errF (runF [] L) M i = er := ⟨_, rfl⟩
          rw [her] at e1 hes
          have Hes := Lib.hid hes
          clear her hes hok0
          obtain ⟨cc, hcc⟩ : ∃ cc, M[i] = cc := ⟨_, rfl⟩
          rw [hcc] at hok hlb c0 c1 c2 c3 c4 c5 e1 st'
          clear hcc
          obtain ⟨ab, cb, hvb⟩ := hok.rb.shape
          obtain ⟨ak, ck, hvk⟩ := hok.rk.shape
          obtain ⟨what, name, tt, vb, b', n, vk, keeps⟩ := cc
          simp only [Nat.zero_add] at c0 c1 c2 c3 c4 c5
          simp only at hvb hvk hlb
          rw [bcells_length] at hvb
          rw [show (iCells keeps).length = keeps.length by simp [iCells]] at hvk
          subst hvb
          subst hvk
          obtain ⟨da', hda'⟩ : ∃ da', da.does ⟨what, name, tt, .slice ab b'.length cb, b', n, .slice ak keeps.length ck, keeps⟩ = da' := ⟨_, rfl⟩
          rw [hda'] at st'
          have Hda' := Lib.hid hda'
          have He1 := Lib.hid e1
          clear hda' e1
          have hbX : Below wr.heap.size wr (wr.alloc (.cells #[.int .u8 what, .string name, .string tt, .slice ab b'.length cb, .int .i64 n, .slice ak keeps.length ck] 48)) := (Below.refl _ _).alloc (Nat.le_refl _) _
          have hokX := hok.below hbX
          obtain ⟨exa, hxa, hDa, hxat⟩ := (hT.below hbX).left
          obtain ⟨w1, hw1⟩ : ∃ w1, wr.alloc (.cells #[.int .u8 what, .string name, .string tt, .slice ab b'.length cb, .int .i64 n, .slice ak keeps.length ck] 48) = w1 := ⟨_, rfl⟩
          rw [hw1] at hbX hokX hDa hxat
          have hrow1 := (Upd.ofBelow (fp := fun _ => False) hbX).row hrow (fun _ _ h => h)
          have Hrow := Lib.hid hrow
          have Hrow1 := Lib.hid hrow1
          have Hw1 := Lib.hid hw1
          clear hrow hrow1 hw1
          go_wp2_with fail
          rw [Hw1.out]
          refine (does_at _ hDa hokX (by show b'.length ≤ _; omega)).mono ?_
          rw [He1.out, Hda'.out]
          rintro e w5 ⟨rfl, hD5, hK5⟩
          have hT5 := hxat _ _ hD5 hK5
          have hrow5 := (hK5.mono hxa).row Hrow1.out hvo
          have hrow5' : w5.ownsRow 0 25 1 (.slice vo i co) (errs (runF [] L) M i).length (iCells (errs (runF [] L) M i)) := by rw [errs_len]; exact ownsRow_base0 hrow5
          have Hrow5 := Lib.hid hrow5
          have Hrow5' := Lib.hid hrow5'
          have hs5 := hK5.size
          have hsX := hbX.size
          have hsK := hK.size
          clear hrow5 hrow5' hokX hok c0 c1 c2 c3 c4 c5
          dsimp only
          go_wp2_with (refine append_err rfl (.tmp 58) (.tmp 62) rfl (.slice vo i co) (.slice (some ⟨w5.heap.size, 0, none⟩) 1 1) (errs (runF [] L) M i) [er] (errs (runF [] L) M (i + 1)) Hes.out.symm rfl (((Upd.refl (fun _ => False) w5).alloc _).row Hrow5'.out (fun _ _ h => h)) rfl (Rd_new _ _ _ _ (iCells [_]) _ _ rfl rfl) (by rw [errs_len]; simp; omega) ?_)
          intro vo' w6 hrow6 hg6 ho6
          rw [errs_len] at hrow6
          obtain ⟨ao', co', rfl, _⟩ := row_slice hrow6
          have hvoB : ∀ g, (Value.slice vo i co).ownBlock = some g → W5.heap.size ≤ g ∧ g < w5.heap.size := fun g hg => Hrow5.out.lt g hg
          have hU6 : Upd (fun g => (Value.slice vo i co).ownBlock = some g) w5 w6 := ((Upd.refl _ w5).alloc _).grown hg6 (fun g hg => Or.inl hg)
          have hrow6' : w6.ownsRow W5.heap.size 25 1 (.slice ao' (i + 1) co') (i + 1) (iCells (errs (runF [] L) M (i + 1))) := by
            refine ownsRow_from hrow6 (fun g hg => ?_)
            rcases ho6 with ho6 | ⟨g6, ho6, hg6'⟩
            · exact (hvoB g (ho6 ▸ hg)).1
            · rw [ho6] at hg; cases hg; have : w5.heap.size ≤ (w5.alloc (.cells #[.int .i64 er] 25)).heap.size := by simp
              omega
          have hvo6 : ∀ g, (Value.slice ao' (i + 1) co').ownBlock = some g → exq g ∨ w5.heap.size ≤ g ∧ g < w6.heap.size := by
            intro g hg
            rcases ho6 with ho6 | ⟨g6, ho6, hg6'⟩
            · exact Or.inl (hvo g (ho6 ▸ hg))
            · have hlt6 := (hrow6'.lt g hg).2
              rw [ho6] at hg; cases hg
              have : w5.heap.size ≤ (w5.alloc (.cells #[.int .i64 er] 25)).heap.size := by simp
              exact Or.inr ⟨by omega, hlt6⟩
          have hT6 : TwoAt (fun k => exq k ∨ w5.heap.size ≤ k ∧ k < w6.heap.size) w6 pa ma da' pb mb d0 := hT5.grow hU6 (fun k _ hk => hvo k hk) (fun k hk => hk)
          have hK6 : Keep ex3 W5 w6 := ((hK.trans (Keep.ofBelow hbX (fun k hk => hT.lt (hxq k hk)))).trans (hK5.mono (fun k hk => hxa k (hxq k hk)))).trans (Keep.ofUpd hU6 (fun k hk => ⟨by have := hx35 k hk; omega, fun e => by have := hx35 k hk; have := (hvoB k e).1; omega⟩))
          have Hrow6' := Lib.hid hrow6'
          clear hrow6 hrow6' hg6 ho6 hU6
          go_wp2
          go_roundw
          case rel => exact ⟨i + 1, ao', co', da', _, by omega, by go_num, rfl, fun k hk => Or.inl (hxq k hk), hvo6, Hrow6'.out, hT6, hK6, st'⟩
          case measure => simp [intOf]; omega
        · obtain rfl : i = M.length := by omega
          obtain ⟨W6, hW6⟩ : ∃ x, x = wr := ⟨_, rfl⟩
          subst hW6
          obtain ⟨ex4, hex4⟩ : ∃ x, x = exq := ⟨_, rfl⟩
          subst hex4
          obtain ⟨vo2, hvo2⟩ : ∃ x, x = vo := ⟨_, rfl⟩
          subst hvo2
          obtain ⟨co2, hco2⟩ : ∃ x, x = co := ⟨_, rfl⟩
          subst hco2
          obtain ⟨da2, hda2⟩ : ∃ x, x = da := ⟨_, rfl⟩
          subst hda2
          have hstM : St da2 (L.length + M.length) (runF (runF [] L) M) := by simpa [List.take_length] using hst
          have hrow2 := hrow
          have hvo2 := hvo
          have hrow1 := hK.row hrow1 hvo1
          have hvo1 := fun g hg => hxq g (hvo1 g hg)
          have hK6 := hK5.trans (hK.mono hx3)
          have hrM6 := hK.row hrM5 hgM3
          have hrL6 := hK.row hrL5 hgL3
          have hgM4 := fun g hg => hxq g (hgM3 g hg)
          have hgL4 := fun g hg => hxq g (hgL3 g hg)
          have hx4 : ∀ k, ex k → ex4 k := fun k hk => hxq k (hx3 k hk)
          clear hrow hvo hK hxq hgM3 hgL3 hrM5 hrL5 hst hlt hi hx35 hx3
          go_wp2_with fail
          go_loopw [17, 18, 19] (fun a b c wr => ∃ (i k n : Nat) (db : ADisk), i ≤ L.length ∧ k ≤ M.length ∧ n = i + k ∧ a = .int .i64 i ∧ b = .int .i64 k ∧ c = .int .i64 n ∧ TwoAt ex4 wr pa ma da2 pb mb db ∧ Keep ex4 W6 wr ∧ StB db L M i k) (fun _ _ c _ => L.length + M.length - (intOf c).toNat)
          case atStart => exact ⟨0, 0, 0, d0, by omega, by omega, rfl, rfl, rfl, rfl, hT, Keep.refl _ _, sb0⟩
          case round =>
            obtain ⟨i, k, n, db, hi, hk, hn, rfl, rfl, rfl, hT, hK, sb⟩ := hrel
            have hKw := hK6.trans (hK.mono hx4)
            have Hn := Lib.hid hn
            clear hn
            have hbr : Below w.heap.size w wr := hKw.below hxx
            by_cases h1 : i < L.length
            · go_upto_region 21 with fail
              go_cut [20] from 65 to 125 (fun b wx => ∃ f : Bool, b = .bool f ∧ wx = wr ∧ (f = false → k < M.length))
              case first =>
                by_cases hkM : k = M.length
                · have hq : ((k : Int) == (M.length : Int)) = true := by simp [hkM]
                  go_wp2_with fail
                  go_meet
                  case rel => exact ⟨true, rfl, rfl, by simp⟩
                · have hq : ((k : Int) == (M.length : Int)) = false := by simp; omega
                  by_cases hnb : n < bs.length
                  · obtain ⟨bo, oo, rfl, co⟩ := hbs.at hbr n hnb
                    obtain ⟨f, hf⟩ : ∃ f, bs[n] = f := ⟨_, rfl⟩
                    rw [hf] at co
                    clear hf
                    cases f with
                    | true =>
                      go_wp2_with fail
                      go_meet
                      case rel => exact ⟨true, rfl, rfl, fun _ => by omega⟩
                    | false =>
                      go_wp2_with fail
                      go_meet
                      case rel => exact ⟨false, rfl, rfl, fun _ => by omega⟩
                  · go_wp2_with fail
                    go_meet
                    case rel => exact ⟨false, rfl, rfl, fun _ => by omega⟩
              case rest =>
                obtain ⟨f, rfl, rfl, hf⟩ := hcut
                cases f with
                | true =>
                  obtain ⟨exb, hxb, hDb, hxbt⟩ := hT.right
                  obtain ⟨gX, hgXe, _, c0, c1, c2, c3, c4, c5⟩ := row_call (hK.row hrL6 hgL4) i h1
                  obtain ⟨gb, cO', hve, _, _, hcb⟩ := row_cell (hK.row hrow1 hvo1) i h1
                  cases hve
                  have hexg : exb gX := hxb _ (hgL4 gX (by rw [hgXe]; rfl))
                  have hexb : exb gb := hxb _ (hvo1 gb rfl)
                  subst hgXe
                  have ce := (hcb i h1).trans (errs_at [] L i L.length h1)
                  obtain ⟨hok0, n1, n2, hlb⟩ := mL.2 L[i] (List.getElem_mem _)
                  have hok := hok0.below hbr
                  obtain ⟨e1, sb'⟩ := sb.stepL hT.wfb h1 mL.1 (by omega) n1 n2 hlb
                  obtain ⟨er, her⟩ : ∃ er, errF [] L i = er := ⟨_, rfl⟩
                  rw [her] at e1 ce
                  obtain ⟨cc, hcc⟩ : ∃ cc, L[i] = cc := ⟨_, rfl⟩
                  rw [hcc] at hok hlb c0 c1 c2 c3 c4 c5 e1 sb'
                  obtain ⟨db', hdb'⟩ : ∃ db', db.does cc = db' := ⟨_, rfl⟩
                  rw [hdb'] at sb'
                  have He1 := Lib.hid e1
                  have Hdb' := Lib.hid hdb'
                  simp only [Nat.zero_add] at c0 c1 c2 c3 c4 c5
                  clear her hcc e1 hdb' hok0 n1 n2 hcb
                  have hDd := hDb.drew
                  have hn50 : n ≤ 50 := by have := Hn.out; omega
                  have hnm : n < L.length + M.length := by have := Hn.out; omega
                  have hokd := hok.below ((Below.refl wc.heap.size wc).drew)
                  go_wp2_with fail
                  go_region_held3 (fun w' => w'.cell? ⟨gb, i, none⟩ = some (.int .i64 er) ∧ w'.cell? ⟨gX, i * 6, none⟩ = some (.int .u8 cc.what) ∧ w'.cell? ⟨gX, i * 6 + 1, none⟩ = some (.string cc.name) ∧ w'.cell? ⟨gX, i * 6 + 2, none⟩ = some (.string (ACall.to cc)) ∧ w'.cell? ⟨gX, i * 6 + 3, none⟩ = some cc.vb ∧ w'.cell? ⟨gX, i * 6 + 4, none⟩ = some (.int .i64 cc.n) ∧ w'.cell? ⟨gX, i * 6 + 5, none⟩ = some cc.vk) (first | exact ⟨ce, c0, c1, c2, c3, c4, c5⟩ | exact S7 | go_keep)
                    (first
                      | (go_at_call 42; refine (does_at cc hDd hokd (by omega)).mono ?_; rw [He1.out, Hdb'.out]; rintro e w7 ⟨rfl, hD7, hK7⟩; have S7 : w7.cell? ⟨gb, i, none⟩ = some (.int .i64 er) ∧ w7.cell? ⟨gX, i * 6, none⟩ = some (.int .u8 cc.what) ∧ w7.cell? ⟨gX, i * 6 + 1, none⟩ = some (.string cc.name) ∧ w7.cell? ⟨gX, i * 6 + 2, none⟩ = some (.string (ACall.to cc)) ∧ w7.cell? ⟨gX, i * 6 + 3, none⟩ = some cc.vb ∧ w7.cell? ⟨gX, i * 6 + 4, none⟩ = some (.int .i64 cc.n) ∧ w7.cell? ⟨gX, i * 6 + 5, none⟩ = some cc.vk := ⟨(hK7.cell hexb _).trans ce, (hK7.cell hexg _).trans c0, (hK7.cell hexg _).trans c1, (hK7.cell hexg _).trans c2, (hK7.cell hexg _).trans c3, (hK7.cell hexg _).trans c4, (hK7.cell hexg _).trans c5⟩))
                  have hK07 : Keep exb wc w7 := ((Keep.refl exb wc).drew).trans hK7
                  have hT7 := hxbt _ _ hD7 hK07
                  go_wp2
                  go_roundw
                  case rel => exact ⟨i + 1, k, n + 1, db', by omega, hk, by have := Hn.out; omega, by go_num, by go_num, by go_num, hT7, hK.trans (hK07.mono hxb), sb'⟩
                  case measure => simp [intOf]; omega
                | false =>
                  have h2 := hf rfl
                  obtain ⟨exb, hxb, hDb, hxbt⟩ := hT.right
                  obtain ⟨gX, hgXe, _, c0, c1, c2, c3, c4, c5⟩ := row_call (hK.row hrM6 hgM4) k h2
                  obtain ⟨gb, cO', hve, _, _, hcb⟩ := row_cell (hK.row hrow2 hvo2) k h2
                  cases hve
                  have hexg : exb gX := hxb _ (hgM4 gX (by rw [hgXe]; rfl))
                  have hexb : exb gb := hxb _ (hvo2 gb rfl)
                  subst hgXe
                  have ce := (hcb k h2).trans (errs_at (runF [] L) M k M.length h2)
                  obtain ⟨hok0, n1, n2, hlb⟩ := mM.2 M[k] (List.getElem_mem _)
                  have hok := hok0.below hbr
                  obtain ⟨e1, sb'⟩ := sb.stepM hT.wfb h2 mM.1 (by omega) n1 n2 hlb
                  obtain ⟨er, her⟩ : ∃ er, errF (runF [] L) M k = er := ⟨_, rfl⟩
                  rw [her] at e1 ce
                  obtain ⟨cc, hcc⟩ : ∃ cc, M[k] = cc := ⟨_, rfl⟩
                  rw [hcc] at hok hlb c0 c1 c2 c3 c4 c5 e1 sb'
                  obtain ⟨db', hdb'⟩ : ∃ db', db.does cc = db' := ⟨_, rfl⟩
                  rw [hdb'] at sb'
                  have He1 := Lib.hid e1
                  have Hdb' := Lib.hid hdb'
                  simp only [Nat.zero_add] at c0 c1 c2 c3 c4 c5
                  clear her hcc e1 hdb' hok0 n1 n2 hcb
                  have hDd := hDb.drew
                  have hn50 : n ≤ 50 := by have := Hn.out; omega
                  have hnm : n < L.length + M.length := by have := Hn.out; omega
                  have hokd := hok.below ((Below.refl wc.heap.size wc).drew)
                  go_wp2_with fail
                  go_region_held3 (fun w' => w'.cell? ⟨gb, k, none⟩ = some (.int .i64 er) ∧ w'.cell? ⟨gX, k * 6, none⟩ = some (.int .u8 cc.what) ∧ w'.cell? ⟨gX, k * 6 + 1, none⟩ = some (.string cc.name) ∧ w'.cell? ⟨gX, k * 6 + 2, none⟩ = some (.string (ACall.to cc)) ∧ w'.cell? ⟨gX, k * 6 + 3, none⟩ = some cc.vb ∧ w'.cell? ⟨gX, k * 6 + 4, none⟩ = some (.int .i64 cc.n) ∧ w'.cell? ⟨gX, k * 6 + 5, none⟩ = some cc.vk) (first | exact ⟨ce, c0, c1, c2, c3, c4, c5⟩ | exact S7 | go_keep)
                    (first
                      | (go_at_call 42; refine (does_at cc hDd hokd (by omega)).mono ?_; rw [He1.out, Hdb'.out]; rintro e w7 ⟨rfl, hD7, hK7⟩; have S7 : w7.cell? ⟨gb, k, none⟩ = some (.int .i64 er) ∧ w7.cell? ⟨gX, k * 6, none⟩ = some (.int .u8 cc.what) ∧ w7.cell? ⟨gX, k * 6 + 1, none⟩ = some (.string cc.name) ∧ w7.cell? ⟨gX, k * 6 + 2, none⟩ = some (.string (ACall.to cc)) ∧ w7.cell? ⟨gX, k * 6 + 3, none⟩ = some cc.vb ∧ w7.cell? ⟨gX, k * 6 + 4, none⟩ = some (.int .i64 cc.n) ∧ w7.cell? ⟨gX, k * 6 + 5, none⟩ = some cc.vk := ⟨(hK7.cell hexb _).trans ce, (hK7.cell hexg _).trans c0, (hK7.cell hexg _).trans c1, (hK7.cell hexg _).trans c2, (hK7.cell hexg _).trans c3, (hK7.cell hexg _).trans c4, (hK7.cell hexg _).trans c5⟩))
                  have hK07 : Keep exb wc w7 := ((Keep.refl exb wc).drew).trans hK7
                  have hT7 := hxbt _ _ hD7 hK07
                  go_wp2
                  go_roundw
                  case rel => exact ⟨i, k + 1, n + 1, db', hi, by omega, by have := Hn.out; omega, by go_num, by go_num, by go_num, hT7, hK.trans (hK07.mono hxb), sb'⟩
                  case measure => simp [intOf]; omega
            · by_cases h2 : k < M.length
              · have hi' : i = L.length := by omega
                have hlL : ¬ i < L.length := h1
                obtain ⟨exb, hxb, hDb, hxbt⟩ := hT.right
                obtain ⟨gX, hgXe, _, c0, c1, c2, c3, c4, c5⟩ := row_call (hK.row hrM6 hgM4) k h2
                obtain ⟨gb, cO', hve, _, _, hcb⟩ := row_cell (hK.row hrow2 hvo2) k h2
                cases hve
                have hexg : exb gX := hxb _ (hgM4 gX (by rw [hgXe]; rfl))
                have hexb : exb gb := hxb _ (hvo2 gb rfl)
                subst hgXe
                have ce := (hcb k h2).trans (errs_at (runF [] L) M k M.length h2)
                obtain ⟨hok0, n1, n2, hlb⟩ := mM.2 M[k] (List.getElem_mem _)
                have hok := hok0.below hbr
                obtain ⟨e1, sb'⟩ := sb.stepM hT.wfb h2 mM.1 (by omega) n1 n2 hlb
                obtain ⟨er, her⟩ : ∃ er, errF (runF [] L) M k = er := ⟨_, rfl⟩
                rw [her] at e1 ce
                obtain ⟨cc, hcc⟩ : ∃ cc, M[k] = cc := ⟨_, rfl⟩
                rw [hcc] at hok hlb c0 c1 c2 c3 c4 c5 e1 sb'
                obtain ⟨db', hdb'⟩ : ∃ db', db.does cc = db' := ⟨_, rfl⟩
                rw [hdb'] at sb'
                have He1 := Lib.hid e1
                have Hdb' := Lib.hid hdb'
                simp only [Nat.zero_add] at c0 c1 c2 c3 c4 c5
                clear her hcc e1 hdb' hok0 n1 n2 hcb
                have hDd := hDb.drew
                have hn50 : n ≤ 50 := by have := Hn.out; omega
                have hnm : n < L.length + M.length := by have := Hn.out; omega
                have hokd := hok.below ((Below.refl wr.heap.size wr).drew)
                go_wp2_with fail
                go_region_held3 (fun w' => w'.cell? ⟨gb, k, none⟩ = some (.int .i64 er) ∧ w'.cell? ⟨gX, k * 6, none⟩ = some (.int .u8 cc.what) ∧ w'.cell? ⟨gX, k * 6 + 1, none⟩ = some (.string cc.name) ∧ w'.cell? ⟨gX, k * 6 + 2, none⟩ = some (.string (ACall.to cc)) ∧ w'.cell? ⟨gX, k * 6 + 3, none⟩ = some cc.vb ∧ w'.cell? ⟨gX, k * 6 + 4, none⟩ = some (.int .i64 cc.n) ∧ w'.cell? ⟨gX, k * 6 + 5, none⟩ = some cc.vk) (first | exact ⟨ce, c0, c1, c2, c3, c4, c5⟩ | exact S7 | go_keep)
                  (first
                    | (go_at_call 42; refine (does_at cc hDd hokd (by omega)).mono ?_; rw [He1.out, Hdb'.out]; rintro e w7 ⟨rfl, hD7, hK7⟩; have S7 : w7.cell? ⟨gb, k, none⟩ = some (.int .i64 er) ∧ w7.cell? ⟨gX, k * 6, none⟩ = some (.int .u8 cc.what) ∧ w7.cell? ⟨gX, k * 6 + 1, none⟩ = some (.string cc.name) ∧ w7.cell? ⟨gX, k * 6 + 2, none⟩ = some (.string (ACall.to cc)) ∧ w7.cell? ⟨gX, k * 6 + 3, none⟩ = some cc.vb ∧ w7.cell? ⟨gX, k * 6 + 4, none⟩ = some (.int .i64 cc.n) ∧ w7.cell? ⟨gX, k * 6 + 5, none⟩ = some cc.vk := ⟨(hK7.cell hexb _).trans ce, (hK7.cell hexg _).trans c0, (hK7.cell hexg _).trans c1, (hK7.cell hexg _).trans c2, (hK7.cell hexg _).trans c3, (hK7.cell hexg _).trans c4, (hK7.cell hexg _).trans c5⟩))
                have hK07 : Keep exb wr w7 := ((Keep.refl exb wr).drew).trans hK7
                have hT7 := hxbt _ _ hD7 hK07
                go_wp2
                go_roundw
                case rel => exact ⟨i, k + 1, n + 1, db', hi, by omega, by have := Hn.out; omega, by go_num, by go_num, by go_num, hT7, hK.trans (hK07.mono hxb), sb'⟩
                case measure => simp [intOf]; omega
              · obtain rfl : i = L.length := by omega
                obtain rfl : k = M.length := by omega
                obtain ⟨exa, hxa, hDa, hxat⟩ := hT.left
                have hfin := sb.all hT.wfb hstM hT.wfa (fun x hx => ⟨(mL.2 x hx).2.1, (mL.2 x hx).2.2.1⟩) (fun x hx => ⟨(mM.2 x hx).2.1, (mM.2 x hx).2.2.1⟩)
                go_wp2_with fail
                refine (taken_at hDa).mono ?_
                rintro e w7 ⟨v1, v2, v3, rfl, hsa, hb7⟩
                obtain ⟨exb, hxb, hDb, hxbt⟩ := (hT.below hb7).right
                dsimp only
                go_wp2_with fail
                refine (taken_at hDb).mono ?_
                rintro e w8 ⟨u1, u2, u3, rfl, hsb, hb8⟩
                dsimp only
                go_wp2_with fail
                refine (same_any _ _ _ _ _ _ _ da2.shot db.shot (hsa.at.below hb8) hsb.at).mono ?_
                rw [decide_eq_true hfin]
                rintro e w9 ⟨rfl, hb9⟩
                dsimp only
                go_wp2_with fail
                refine (awake_any _).mono ?_
                rintro e w10 ⟨rfl, hb10⟩
                go_wp2
                go_ret
                exact ⟨rfl, (((hbr.trans (hb7.mono hbr.size)).trans (hb8.mono (Nat.le_trans hbr.size hb7.size))).trans (hb9.mono (Nat.le_trans (Nat.le_trans hbr.size hb7.size) hb8.size))).trans (hb10.mono (Nat.le_trans (Nat.le_trans (Nat.le_trans hbr.size hb7.size) hb8.size) hb9.size))⟩
/-- .. as the frame hands it. -/
theorem woven_law (w : World) {v0 v1 v2 : Value} (b0 : List ACall) (r0 : CallsAt w v0 b0) (b1 : List ACall) (r1 : CallsAt w v1 b1) (b2 : List Bool) (r2 : BoolsAt w v2 b2) :
    Calls Try.prog 9 #[v0, v1, v2] w fun e w' => e = .returned (.bool true) ∧ Below w.heap.size w w' :=
  woven_walk w v0 v1 v2 b0 b1 b2 r0 r1 r2
end Go.Proofs.Ytlljlkeknklplaa
