/-
  WalKeeps, plain: the calls of a life, whether the log is up or over. No program here.
-/
import Derived.Test.YtbiadclmonakkaaGreatDoorMWal24
import Derived.Test.YtbiadclmonakkaaGreatDoorMWal17
namespace Go.Proofs.YtbiadclmonakkaaGreatDoor

/-- a log in a life: up, or over. -/
structure Kin (sz : Nat) (L : List (List UInt8)) (tr : Nat) (d : ADisk) (al : ALog) (ss : List Seg) : Prop where
  kj : Kj sz L tr d al ss
  or : J d al ss ∨ al.over = true
theorem kin_append {sz : Nat} {L : List (List UInt8)} {tr : Nat} {d : ADisk} {al : ALog} {ss : List Seg} (h : Kin sz L tr d al ss) (hL : L.length ≤ 200) (hz : sz ≤ 16777216) (htr : 1 ≤ tr) (b : List UInt8) (hb : b.length ≤ 40) :
    ∃ d' al' e ss', wAppend d al ((1 + L.length : Nat) : Int) b = (d', al', e) ∧ ((e = 0 ∧ Kin sz (L ++ [b]) tr d' al' ss') ∨ (e ≠ 0 ∧ Kin sz L tr d' al' ss')) := by
  rcases h.or with hJ | ho
  · obtain ⟨d', al', e, ss', he, ⟨e0, h1, h2⟩ | ⟨e0, h1, h2⟩⟩ := h.kj.append hJ hL hz htr b hb
    · exact ⟨d', al', e, ss', he, Or.inl ⟨e0, h1, Or.inl h2⟩⟩
    · exact ⟨d', al', e, ss', he, Or.inr ⟨e0, h2, Or.inr h1⟩⟩
  · exact ⟨d, al, 16, ss, wAppend_over ho _ _, Or.inr ⟨by decide, h⟩⟩
theorem kin_sync {sz : Nat} {L : List (List UInt8)} {tr : Nat} {d : ADisk} {al : ALog} {ss : List Seg} (h : Kin sz L tr d al ss) (hL : L.length ≤ 200) (hz : sz ≤ 16777216) :
    ∃ d' al' e, wSync d al = (d', al', e) ∧ Kin sz L tr d' al' ss := by
  rcases h.or with hJ | ho
  · obtain ⟨d', al', e, he, ⟨h1, h2⟩ | ⟨h1, h2⟩⟩ := h.kj.sync hJ hL hz
    · exact ⟨d', al', e, he, h1, Or.inl h2⟩
    · exact ⟨d', al', e, he, h2, Or.inr h1⟩
  · exact ⟨d, al, 16, wSync_over ho, h⟩
theorem kin_trim {sz : Nat} {L : List (List UInt8)} {tr : Nat} {d : ADisk} {al : ALog} {ss : List Seg} (h : Kin sz L tr d al ss) (below : Nat) (hb : below ≤ al.synced) :
    ∃ d' al' gone e ss', wTrim d al (below : Int) = (d', al', gone, e) ∧ Kin sz L (max tr below) d' al' ss' := by
  rcases h.or with hJ | ho
  · obtain ⟨d', al', gone, e, ss', he, ⟨h1, h2⟩ | ⟨h1, h2⟩⟩ := h.kj.trim hJ below hb
    · exact ⟨d', al', gone, e, ss', he, h1, Or.inl h2⟩
    · exact ⟨d', al', gone, e, ss', he, h2, Or.inr h1⟩
  · exact ⟨d, al, [], 16, ss, wTrim_over ho _, ⟨h.kj.run.more (Nat.le_max_left _ _) (Nat.le_refl _), h.kj.sy, h.kj.lens, h.kj.size, h.kj.ok, h.kj.on⟩, Or.inr ho⟩
theorem kin_arm {sz : Nat} {L : List (List UInt8)} {tr : Nat} {d : ADisk} {al : ALog} {ss : List Seg} (h : Kin sz L tr d al ss) (n : Int) : Kin sz L tr (d.arm n) al ss := by
  unfold ADisk.arm
  split
  · exact h
  · have ho : ∀ sy, OnF d ss sy → OnF { d with left := max n 0 } ss sy := by
      intro sy ho
      cases ho with
      | bare hb => exact OnF.bare ⟨hb.sorted, hb.only⟩
      | some hb => exact OnF.some (hb.same hb.sorted (fun _ => rfl))
    exact ⟨⟨h.kj.run, h.kj.sy, h.kj.lens, h.kj.size, h.kj.ok, ho _ h.kj.on⟩, h.or.imp (fun hJ => ⟨hJ.up, ho _ hJ.on, hJ.segs, hJ.next, hJ.bytes, hJ.sync, hJ.live⟩) id⟩
end Go.Proofs.YtbiadclmonakkaaGreatDoor
