/-
  A life of a journal: what stands between its calls.
-/
import Derived.Outline
import Derived.Test.YtbiadclmonakkaaGreatDoorMWam30
import Derived.Test.YtbiadclmonakkaaGreatDoorMWam28
import Derived.Test.YtbiadclmonakkaaGreatDoorMWal25
import Derived.Test.YtbiadclmonakkaaGreatDoorMWam27
namespace Go.Proofs.YtbiadclmonakkaaGreatDoor
open Go.RowKit Go.Maps Go.MapKept

/-- W: the world of the arguments; wI: that where the life began; L: what was appended. -/
structure KLoop (W wI w : World) (ex : Nat → Prop) (q p m : Nat) (L : List (List UInt8)) (d : ADisk) (al : ALog) (a : Option Addr) (n c : Nat) (XA : List XRec) : Prop where
  nL : n = L.length
  log : LogAt (fun g => ex g ∨ (Value.slice a n c).ownBlock = some g) w q p m d al
  up : RecsUp w wI.heap.size a n c XA
  map : XA.map XRec.rec4 = numbered 1 L
  low : ∀ x ∈ XA, Rd W x.vb (bcells x.b)
  keep : Keep ex wI w
structure KBase (W wI : World) (ex : Nat → Prop) : Prop where
  below : Below W.heap.size W wI
  low : ∀ k, k < W.heap.size → ex k
  lt : ∀ k, ex k → k < wI.heap.size
variable {W wI w w' : World} {ex : Nat → Prop} {q p m n c : Nat} {L : List (List UInt8)} {d d' : ADisk} {al al' : ALog} {a : Option Addr} {XA : List XRec}
theorem KLoop.belowW (h : KLoop W wI w ex q p m L d al a n c XA) (hb : KBase W wI ex) : Below W.heap.size W w := hb.below.trans (h.keep.below hb.low)
theorem KLoop.call (h : KLoop W wI w ex q p m L d al a n c XA) (hb : KBase W wI ex) (hl : LogAt (fun g => ex g ∨ (Value.slice a n c).ownBlock = some g) w' q p m d' al') (hk : Keep (fun g => ex g ∨ (Value.slice a n c).ownBlock = some g) w w') : KLoop W wI w' ex q p m L d' al' a n c XA := by
  have hk' : Keep ex w w' := hk.mono (fun _ h => Or.inl h)
  have hB : Below W.heap.size W w' := (h.belowW hb).trans (hk'.below hb.low)
  exact ⟨h.nL, hl, h.up.keep hk (fun g hg => Or.inr hg) (fun x hx => (h.low x hx).keepLow hB), h.map, h.low, h.keep.trans hk'⟩
theorem KLoop.add (h : KLoop W wI w ex q p m L d al a n c XA) (hb : KBase W wI ex) (b : List UInt8) (vb : Value) (h1 : vb.oneCell' = true) (hrd : Rd W vb (bcells b)) (h63 : n ≤ 1000000) (z : Int) (hz : z = (n : Int) + 1) :
    ∃ a' c' w', (Builtin.append_ #[28, 28] 28 #[.slice a n c, .slice (some ⟨w.heap.size, 0, none⟩) 1 1]).run Tryz.prog (w.alloc (.cells #[.int .i64 z, vb] 47)) = .ok (.slice a' (n + 1) c') w' ∧ Keep ex w w' ∧
      KLoop W wI w' ex q p m (L ++ [b]) d al a' (n + 1) c' (XA ++ [⟨n + 1, b, vb⟩]) := by
  have hs := h.keep.size
  have hlow : ∀ y ∈ XA ++ [(⟨n + 1, b, vb⟩ : XRec)], Rd W y.vb (bcells y.b) := by
    intro y hy
    rcases List.mem_append.1 hy with hy | hy
    · exact h.low y hy
    · rw [List.mem_singleton] at hy; subst hy; exact hrd
  have hU0 : ∀ w', Upd (fun g => wI.heap.size ≤ g ∧ (Value.slice a n c).ownBlock = some g) w w' → Keep ex w w' := fun w' hU =>
    Keep.ofUpd hU (fun j hj => ⟨by have := hb.lt j hj; omega, fun e => by have := hb.lt j hj; omega⟩)
  obtain ⟨a', c', w', r1, r2, r3, r4⟩ := recs_up1 w wI.heap.size a n c XA ⟨n + 1, b, vb⟩ z (by rw [hz]; simp) h.up hs h1 h63 (fun w' hU y hy => (hlow y hy).keepLow ((h.belowW hb).trans ((hU0 w' hU).below hb.low)))
  have hk := hU0 w' r3
  refine ⟨a', c', w', r1, hk, by rw [List.length_append, ← h.nL]; rfl, ?_, r2, ?_, hlow, h.keep.trans hk⟩
  · obtain ⟨vL, hvL⟩ := h.log
    refine ⟨vL, hvL.more_upd r3 (fun j _ hj => Or.inr hj.2) (fun j hj => ?_)⟩
    rcases hj with hj | hj
    · exact Or.inl (Or.inl hj)
    · rcases r4 j hj with e | e
      · exact Or.inl (Or.inr e)
      · exact Or.inr e
  · rw [List.map_append, h.map, numbered_snoc, ← h.nL]
    show _ ++ [(⟨n + 1, b⟩ : ARec)] = _ ++ [⟨1 + n, b⟩]
    rw [Nat.add_comm]
theorem KLoop.env (h : KLoop W wI w ex q p m L d al a n c XA) (hE : WEnv wI) (hG : GlIn ex) : WEnv w := hE.keep h.keep hG
def KX (ex : Nat → Prop) (a : Option Addr) (n c : Nat) : Nat → Prop := fun g => ex g ∨ (Value.slice a n c).ownBlock = some g
theorem kl_arm (z : Int) (h : KLoop W wI w ex q p m L d al a n c XA) (hb : KBase W wI ex) (hz : isI64 z) :
    Calls Tryz.prog 34 #[.pointer (some ⟨p, 0, none⟩), .int .i64 z] w fun e w' => e = .returned (.tuple #[]) ∧ KLoop W wI w' ex q p m L (d.arm z) al a n c XA := by
  obtain ⟨v, hv⟩ := h.log
  refine (Arm_at z hv.disk hz.1 hz.2).mono fun e w' hw => ⟨hw.1, ?_⟩
  obtain ⟨hl, hk⟩ := hv.disk_turned hw.2.1 hw.2.2
  exact h.call hb ⟨v, hl⟩ hk
theorem kl_append (z : Int) (vb : Value) (b : List UInt8) (er : Int) (h : KLoop W wI w ex q p m L d al a n c XA) (hb : KBase W wI ex) (hE : WEnv wI) (hG : GlIn ex) (hok : al.Ok ∧ al.segs.length ≤ 501) (hz : z = ((1 + L.length : Nat) : Int)) (hL : L.length ≤ 1000) (hrd : Rd W vb (bcells b)) (hbl : b.length ≤ 40) (he : wAppend d al ((1 + L.length : Nat) : Int) b = (d', al', er)) :
    Calls Tryz.prog 22 #[.pointer (some ⟨q, 0, none⟩), .int .i64 z, vb] w fun e w' => e = .returned (.int .i64 er) ∧ KLoop W wI w' ex q p m L d' al' a n c XA := by
  subst hz
  have hA := wAppend_at ((1 + L.length : Nat) : Int) vb b h.log (h.env hE hG) (hG.mono (fun _ hj => Or.inl hj)) (by unfold isI64; omega) (fun w' hw' => hrd.keepLow ((h.belowW hb).trans (hw'.below (N := W.heap.size) (fun j hj => Or.inl (hb.low j hj))))) (by omega) hok.1 (by omega)
  rw [he] at hA
  exact hA.mono fun e w' hw => ⟨hw.1, h.call hb hw.2.1 hw.2.2⟩
theorem kl_sync (er : Int) (h : KLoop W wI w ex q p m L d al a n c XA) (hb : KBase W wI ex) (hE : WEnv wI) (hG : GlIn ex) (hok : al.Ok ∧ al.segs.length ≤ 501) (he : wSync d al = (d', al', er)) :
    Calls Tryz.prog 23 #[.pointer (some ⟨q, 0, none⟩)] w fun e w' => e = .returned (.int .i64 er) ∧ KLoop W wI w' ex q p m L d' al' a n c XA := by
  have hA := wSync_at h.log (h.env hE hG) hok.1
  rw [he] at hA
  exact hA.mono fun e w' hw => ⟨hw.1, h.call hb hw.2.1 hw.2.2⟩
def KTrim (W wI : World) (ex : Nat → Prop) (q p m : Nat) (L : List (List UInt8)) (d : ADisk) (al : ALog) (a : Option Addr) (n c : Nat) (XA : List XRec) (k : Nat) (er : Int) (e : Ending) (w' : World) : Prop :=
  ∃ a' c', e = .returned (.tuple #[.slice a' k c', .int .i64 er]) ∧ KLoop W wI w' ex q p m L d al a n c XA
theorem kl_trim (below : Int) (ns : List ByteArray) (k : Nat) (er : Int) (h : KLoop W wI w ex q p m L d al a n c XA) (hb : KBase W wI ex) (hE : WEnv wI) (hG : GlIn ex) (hz : isI64 below) (hok : al.Ok ∧ al.segs.length ≤ 501) (he : wTrim d al below = (d', al', ns, er)) (hk : ns.length = k) :
    Calls Tryz.prog 19 #[.pointer (some ⟨q, 0, none⟩), .int .i64 below] w (KTrim W wI ex q p m L d' al' a n c XA k er) := by
  have hA := wTrim_at below h.log (h.env hE hG) (hG.mono (fun _ hj => Or.inl hj)) hz hok.1
  unfold TrimPost at hA
  rw [he] at hA
  subst hk
  refine hA.mono fun e w' hw => ?_
  obtain ⟨a', c', h1, _, h3, h4⟩ := hw
  exact ⟨a', c', h1, h.call hb (h3.mono (fun _ hj => Or.inl hj)) h4⟩
theorem kl_synced (z : Nat) (h : KLoop W wI w ex q p m L d al a n c XA) (he : al.synced = z) :
    Calls Tryz.prog 25 #[.pointer (some ⟨q, 0, none⟩)] w fun e w' => e = .returned (.int .i64 z) ∧ w = w' := synced_by z h.log he
theorem cells6L {w : World} {b : Nat} {x0 x1 x2 x3 x4 x5 : Value} {T : TypeId} (h : w.heap[b]? = some (.cells #[x0, x1, x2, x3, x4, x5] T (0, 0))) :
    w.cell? ⟨b, 0, none⟩ = some x0 ∧ w.cell? ⟨b, 1, none⟩ = some x1 ∧ w.cell? ⟨b, 2, none⟩ = some x2 ∧ w.cell? ⟨b, 3, none⟩ = some x3 ∧ w.cell? ⟨b, 4, none⟩ = some x4 ∧ w.cell? ⟨b, 5, none⟩ = some x5 :=
  ⟨by rw [cell_at h]; rfl, by rw [cell_at h]; rfl, by rw [cell_at h]; rfl, by rw [cell_at h]; rfl, by rw [cell_at h]; rfl, by rw [cell_at h]; rfl⟩
/-- Open, whole or cut off: what is told is not asked. -/
theorem open_some (size : Int) (h : DiskAt ex w p m d) (hE : WEnv w) (hG : GlIn ex) :
    Calls Tryz.prog 17 #[.pointer (some ⟨p, 0, none⟩), .int .i64 size] w fun e w' => ∃ v, e = .returned v ∧ DiskAt ex w' p m (wOpen d size).1 ∧ Keep ex w w' := by
  refine (wOpen_at size h hE hG).mono fun e w' hw => ?_
  obtain ⟨h1, ⟨_, h3, h4⟩ | ⟨_, q, a, c, XL, h3, h4⟩⟩ := hw
  · exact ⟨_, h3, h4, h1⟩
  · exact ⟨_, h3, h4.log.disk.mono (fun _ hk => Or.inl hk), h1⟩
/-- a round of a life. -/
structure KRnd (W wI w : World) (ex : Nat → Prop) (q p m sz L0 j : Nat) (L : List (List UInt8)) (tr : Nat) (d : ADisk) (al : ALog) (ss : List Seg) (a : Option Addr) (n c : Nat) (XA : List XRec) : Prop where
  kl : KLoop W wI w ex q p m L d al a n c XA
  kin : Kin sz L tr d al ss
  len : L.length ≤ L0 + j
  tr1 : 1 ≤ tr
  trB : tr ≤ 1000
  j25 : j ≤ 25
end Go.Proofs.YtbiadclmonakkaaGreatDoor
