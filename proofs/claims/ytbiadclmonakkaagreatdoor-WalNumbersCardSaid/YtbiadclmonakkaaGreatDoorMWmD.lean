/-
  A journal that is built (the statements' helper).
-/
import Derived.Outline
import Derived.BigQuiet
import Derived.Deep.QuietTactic
import Derived.Deep.RegionHeld3
import Derived.Test.YtbiadclmonakkaaGreatDoorMWmH
import Derived.Test.YtbiadclmonakkaaGreatDoorMWmE
import Derived.Test.YtbiadclmonakkaaGreatDoorMWlA
import Derived.Test.YtbiadclmonakkaaGreatDoorMWmL
import Derived.Test.YtbiadclmonakkaaGreatDoorMLoA
import Derived.Lib.SlBytesConst
namespace Go.Proofs.YtbiadclmonakkaaGreatDoor
open Go.RowKit Go.Maps Go.MapKept
set_option linter.unusedSimpArgs false

theorem Built.alOk {n0 size : Nat} {L : List (List UInt8)} {d : ADisk} {al : ALog} {ss : List Seg} (h : Built n0 size L d al ss) (h1 : n0 ≤ 70000) (h2 : size ≤ 1000) (h3 : L.length ≤ 50) : al.Ok ∧ al.segs.length ≤ 50 := by
  have a1 := h.nextOf_le
  have a2 := h.lenOf_le
  have a3 := h.synced_le
  have a4 := h.count
  have a5 := h.j.next
  have a6 := h.j.bytes
  have a7 : al.segs.length = ss.length := by rw [h.j.segs, List.length_map]
  exact ⟨⟨by rw [h.sz]; omega, by omega, by omega, by omega, fun x hx => Nat.le_succ_of_le (h.firsts x hx), by omega⟩, by omega⟩
section
variable {ex : Nat → Prop} {w : World} {q p m : Nat} {d : ADisk} {al : ALog}
end
/-- what built leaves: W is where the arguments were read. -/
structure BuiltFin (ex : Nat → Prop) (bs : Nat) (W w' : World) (q p m : Nat) (a : Option Addr) (c n : Nat) (XL : List XRec) (n0 size : Nat) (L : List (List UInt8)) (d : ADisk) (al : ALog) (ss : List Seg) : Prop where
  log : LogAt (fun k => ex k ∨ (Value.slice a n c).ownBlock = some k) w' q p m d al
  row : w'.ownsRow bs 47 2 (.slice a n c) n (recX XL)
  low : ∀ x ∈ XL, Rd W x.vb (bcells x.b)
  map : XL.map XRec.rec4 = numbered n0 L
  len : XL.length = n
  built : Built n0 size L d al ss
  new : bs ≤ q
section
variable {ex : Nat → Prop}
end
end Go.Proofs.YtbiadclmonakkaaGreatDoor

/-
  The calls of a log, their answers by name.
-/
namespace Go.Proofs.YtbiadclmonakkaaGreatDoor
open Go.RowKit Go.Maps Go.MapKept

theorem J.alOk {d : ADisk} {al : ALog} {ss : List Seg} (h : J d al ss) (hs : al.size ≤ 16777216) (hn : nextOf ss ≤ 9007199254740993) (hb : lenOf ss ≤ 1099511627776) (hc : ss.length ≤ 500) : al.Ok ∧ al.segs.length ≤ 500 := by
  have a1 := h.next
  have a2 := h.bytes
  have a7 : al.segs.length = ss.length := by rw [h.segs, List.length_map]
  have a3 : al.synced ≤ 9007199254740993 := by rcases h.sync with h1 | ⟨_, h1⟩ <;> omega
  exact ⟨⟨hs, by omega, by omega, a3, fun x hx => Nat.le_succ_of_le (h.inR x hx).2, by omega⟩, by omega⟩
section
variable {ex : Nat → Prop} {w w0 : World} {q p m : Nat} {d d' : ADisk} {al al' : ALog}
def OpenYes (ex : Nat → Prop) (w : World) (p m : Nat) (d : ADisk) (f : AFound) (size : Int) (n : Nat) (e : Ending) (w' : World) : Prop :=
  Keep ex w w' ∧ ∃ q a c XL, e = .returned (.tuple #[.pointer (some ⟨q, 0, none⟩), .slice a n c, .int .i64 0]) ∧ OpenFin ex w w' q p m d (f.log size) (.slice a n c) f.recs XL
theorem open_by (size : Int) {f : AFound} {n : Nat} (h : DiskAt ex w p m d) (hE : WEnv w) (hG : GlIn ex) (he : wOpen d size = (d', f, 0)) (hn : f.recs.length = n) :
    Calls Tryz.prog 17 #[.pointer (some ⟨p, 0, none⟩), .int .i64 size] w (OpenYes ex w p m d' f size n) := by
  have hO := wOpen_at size h hE hG
  rw [he] at hO
  subst hn
  refine hO.mono fun e w' hw => ?_
  obtain ⟨h1, ⟨h2, _⟩ | ⟨_, q, a, c, XL, h3, h4⟩⟩ := hw
  · exact absurd rfl h2
  · exact ⟨h1, q, a, c, XL, h3, h4⟩
/-- Append, of bytes in new memory, or of none. -/
theorem append_by (n : Int) (vb : Value) (b : List UInt8) (er : Int) (h : LogAt ex w0 q p m d al) (hB : Below w0.heap.size w0 w) (hE : WEnv w) (hG : GlIn ex) (hok : al.Ok ∧ al.segs.length ≤ 500) (hn : isI64 n) (hr : Rd w vb (bcells b)) (hv : ∀ g, vb.ownBlock = some g → w0.heap.size ≤ g ∧ g < w.heap.size) (hb : b.length ≤ 140737488355328) (he : wAppend d al n b = (d', al', er)) :
    Calls Tryz.prog 22 #[.pointer (some ⟨q, 0, none⟩), .int .i64 n, vb] w fun e w' => e = .returned (.int .i64 er) ∧ LogAt ex w' q p m d' al' ∧ Keep ex w0 w' := by
  have h1 : LogAt (fun k => ex k ∨ w0.heap.size ≤ k ∧ k < w.heap.size) w q p m d al := h.more hB (fun k hk => hk)
  have hA := wAppend_at n vb b h1 hE (hG.mono (fun _ hk => Or.inl hk)) hn (fun w' hK => hK.rd hr (fun g hg => Or.inr (hv g hg))) hb hok.1 (by omega)
  rw [he] at hA
  exact hA.mono fun e w' hw => ⟨hw.1, hw.2.1.mono (fun _ hk => Or.inl hk), (Keep.ofBelow hB (fun k hk => h.lt hk)).trans (hw.2.2.mono (fun _ hk => Or.inl hk))⟩
theorem sync_by (er : Int) (h : LogAt ex w q p m d al) (hE : WEnv w) (hok : al.Ok ∧ al.segs.length ≤ 500) (he : wSync d al = (d', al', er)) :
    Calls Tryz.prog 23 #[.pointer (some ⟨q, 0, none⟩)] w fun e w' => e = .returned (.int .i64 er) ∧ LogAt ex w' q p m d' al' ∧ Keep ex w w' := by
  have hA := wSync_at h hE hok.1
  rw [he] at hA
  exact hA
theorem last_by (z : Nat) (h : LogAt ex w q p m d al) (hok : al.Ok ∧ al.segs.length ≤ 500) (he : al.last = z) :
    Calls Tryz.prog 21 #[.pointer (some ⟨q, 0, none⟩)] w fun e w' => e = .returned (.int .i64 z) ∧ w = w' := by
  have hA := wLast_at h hok.1
  rw [he] at hA
  exact hA
theorem first_by (z : Nat) (h : LogAt ex w q p m d al) (he : al.first = z) :
    Calls Tryz.prog 24 #[.pointer (some ⟨q, 0, none⟩)] w fun e w' => e = .returned (.int .i64 z) ∧ w = w' := by
  have hA := wFirst_at h
  rw [he] at hA
  exact hA
theorem synced_by (z : Nat) (h : LogAt ex w q p m d al) (he : al.synced = z) :
    Calls Tryz.prog 25 #[.pointer (some ⟨q, 0, none⟩)] w fun e w' => e = .returned (.int .i64 z) ∧ w = w' := by
  have hA := wSynced_at h
  rw [he] at hA
  exact hA
def FilesPost (w : World) (ns : List ByteArray) (n : Nat) (e : Ending) (w' : World) : Prop := ∃ a c, e = .returned (.slice a n c) ∧ w'.ownsRow w.heap.size 9 1 (.slice a n c) n (sCells ns) ∧ Below w.heap.size w w'
theorem files_by (ns : List ByteArray) (n : Nat) (h : LogAt ex w q p m d al) (hE : WEnv w) (hok : al.Ok ∧ al.segs.length ≤ 500) (he : al.names = ns) (hn : ns.length = n) :
    Calls Tryz.prog 13 #[.pointer (some ⟨q, 0, none⟩)] w (FilesPost w ns n) := by
  have hA := wFiles_at h hE hok.1
  rw [he, hn] at hA
  exact hA
def TrimBy (ex : Nat → Prop) (w : World) (q p m : Nat) (d : ADisk) (al : ALog) (ns : List ByteArray) (n : Nat) (er : Int) (e : Ending) (w' : World) : Prop :=
  ∃ a c, e = .returned (.tuple #[.slice a n c, .int .i64 er]) ∧ w'.ownsRow w.heap.size 9 1 (.slice a n c) n (sCells ns) ∧ LogAt (fun j => ex j ∨ (Value.slice a n c).ownBlock = some j) w' q p m d al ∧ Keep ex w w'
theorem trim_by (below : Int) (ns : List ByteArray) (n : Nat) (er : Int) (h : LogAt ex w q p m d al) (hE : WEnv w) (hG : GlIn ex) (hb : isI64 below) (hok : al.Ok ∧ al.segs.length ≤ 500) (he : wTrim d al below = (d', al', ns, er)) (hn : ns.length = n) :
    Calls Tryz.prog 19 #[.pointer (some ⟨q, 0, none⟩), .int .i64 below] w (TrimBy ex w q p m d' al' ns n er) := by
  have hA := wTrim_at below h hE hG hb hok.1
  unfold TrimPost at hA
  rw [he] at hA
  subst hn
  exact hA
end
end Go.Proofs.YtbiadclmonakkaaGreatDoor

/-
  The walk of awake (chapter 04).
-/
namespace Go.Proofs.YtbiadclmonakkaaGreatDoor
open Go.RowKit Go.Maps Go.MapKept

theorem wName7 : wName 7 = ⟨#[119, 55]⟩ := by unfold wName; rw [Lib.decDigits_one (by omega)]; rfl
set_option maxRecDepth 100000 in
set_option maxHeartbeats 8000000 in
theorem awake4_any (w : World) (hE : WEnv w) : Calls Tryz.prog 12 #[] w fun e w' => e = .returned (.bool true) ∧ Below w.heap.size w w' := by
  have kc := fun (w : World) (C : Array Value) (n c : Nat) => Lib.run_convert_bytes_const (P := Tryz.prog) w 45 5 C n c Tryz.underlying45 Tryz.underlying5
  obtain ⟨d1, al1, d2, al2, d3, al3, a1, A1, a2, a3, A3, a4, A4, AN⟩ := aw_head
  obtain ⟨ex, hex⟩ : ∃ ex : Nat → Prop, ex = fun k => k < w.heap.size := ⟨_, rfl⟩
  have hx0 : ∀ k, ex k → k < w.heap.size := fun k hk => by rw [hex] at hk; exact hk
  have hG : GlIn ex := by rw [hex]; exact hE.lt
  have Hex := Lib.hid hex
  have HE := Lib.hid hE
  have hJ0 : J ⟨1000, -1, false, []⟩ (f0.log 64) [] := (open_bare (d := ⟨1000, -1, false, []⟩) ⟨List.Pairwise.nil, fun _ _ _ => rfl⟩ rfl 64 (by decide) (by decide)).2
  have hop := (open_bare (d := ⟨1000, -1, false, []⟩) ⟨List.Pairwise.nil, fun _ _ _ => rfl⟩ rfl 64 (by decide) (by decide)).1
  have ok0 := hJ0.alOk (by decide) (by decide) (by decide) (by decide)
  have ok1 := A1.j.alOk A1.small_ok.1 A1.small_ok.2.1 A1.small_ok.2.2.1 A1.small_ok.2.2.2
  have ok2 := A3.j.alOk A3.small_ok.1 A3.small_ok.2.1 A3.small_ok.2.2.1 A3.small_ok.2.2.2
  have ok3 := A4.j.alOk A4.small_ok.1 A4.small_ok.2.1 A4.small_ok.2.2.1 A4.small_ok.2.2.2
  have X1 := Lib.hid (And.intro a1 (And.intro a2 (And.intro a3 a4)))
  have XA := Lib.hid A1
  have X3 := Lib.hid A3
  have X4 := Lib.hid A4
  have XN := Lib.hid AN
  have K0 := Lib.hid ok0
  have K1 := Lib.hid ok1
  have K2 := Lib.hid ok2
  have K3 := Lib.hid ok3
  have Hop := Lib.hid hop
  clear hex hE a1 a2 a3 a4 A1 A3 A4 AN ok0 ok1 ok2 ok3 hop hJ0
  go_enter Tryz.func12, Tryz.ntmps12
  go_wp2_with fail
  refine (New_at (ex := ex) 1000 (by decide) (by decide) hx0).mono ?_
  generalize hp : w.heap.size + 1 = p
  generalize hm : w.heap.size = m
  rintro e w0 ⟨rfl, h0, kk0⟩
  clear hp
  go_wp2_with fail
  refine (open_by 64 h0 (HE.out.keep kk0 hG) hG Hop.out rfl).mono ?_
  rintro e w1 ⟨k1, q, ar, cr, XL, rfl, hF⟩
  have h1 := hF.log.mono (ex' := ex) (fun k hk => Or.inl hk)
  have kk1 := kk0.trans k1
  clear hF h0 kk0 k1
  go_wp2_with fail
  refine (last_by 0 h1 K0.out rfl).mono ?_
  rintro e w1' ⟨rfl, rfl⟩
  go_wp2_with fail
  have hBa : Below w1.heap.size w1 (w1.alloc (.cells #[.int .u8 97] 5 (1, 2))) := (Below.refl _ _).alloc (Nat.le_refl _) _
  have hE1 := HE.out.keep kk1 hG
  refine (append_by ((7 : Nat) : Int) _ [97] 0 h1 hBa (hE1.below hBa) hG K0.out (by unfold isI64; omega) (Rd_new _ _ _ _ (bcells [97]) _ _ rfl rfl) (fun g hg => by cases hg; exact ⟨Nat.le_refl _, by simp⟩) (by simp) X1.out.1).mono ?_
  rintro e w2 ⟨rfl, h2, k2⟩
  have kk2 := kk1.trans k2
  clear h1 kk1 k2 hBa hE1
  go_wp2_with fail
  refine (List_at h2.disk).mono ?_
  rw [aw_disk1 XA.out]
  rintro e w3 ⟨a3, c3, rfl, row3, _, hB3⟩
  have Row3 := Lib.hid row3
  clear row3
  go_wp2_with fail
  have ha3 : Rd (w3.alloc (.cells #[.string ⟨#[119, 55]⟩] 9)) (.slice a3 1 c3) (sCells [wName 7]) := (Rd.ofOwns Row3.out).below ((Below.refl _ _).alloc (Nat.le_refl _) _)
  have hb3 : Rd (w3.alloc (.cells #[.string ⟨#[119, 55]⟩] 9)) (.slice (some ⟨w3.heap.size, 0, none⟩) 1 1) (sCells [wName 7]) := by rw [wName7]; exact Rd_new _ _ _ _ _ _ _ rfl rfl
  refine (SameTexts_any _ _ _ _ _ ha3 hb3 (by simp [maxLen]) (by simp [maxLen])).mono ?_
  clear ha3 hb3
  rw [show decide (([wName 7] : List ByteArray) = [wName 7]) = true by simp]
  rintro e w4 ⟨rfl, hB4⟩
  have hB24 := hB3.trans (((Below.refl _ _).alloc (Nat.le_refl _) (.cells #[.string ⟨#[119, 55]⟩] 9)).trans (hB4.mono (by simp)) |>.mono hB3.size)
  have h4 := h2.below hB24
  have kk4 := kk2.trans (Keep.ofBelow hB24 (fun k hk => h2.lt hk))
  clear h2 kk2 hB3 hB4 hB24
  go_wp2_with fail
  have hnil : ∀ wX : World, Rd wX (.slice none 0 0) (bcells ([] : List UInt8)) := fun wX => Or.inl ⟨Or.inl rfl, rfl⟩
  have Hnil := Lib.hid hnil
  clear hnil
  refine (append_by ((9 : Nat) : Int) _ [] 18 h4 (Below.refl _ _) (HE.out.keep kk4 hG) hG K1.out (by unfold isI64; omega) (Hnil.out _) (fun g hg => by cases hg) (by simp) X1.out.2.1).mono ?_
  rintro e w5 ⟨rfl, h5, k5⟩
  have kk5 := kk4.trans k5
  clear h4 kk4 k5
  go_wp2_with fail
  refine (append_by ((8 : Nat) : Int) _ [] 0 h5 (Below.refl _ _) (HE.out.keep kk5 hG) hG K1.out (by unfold isI64; omega) (Hnil.out _) (fun g hg => by cases hg) (by simp) X1.out.2.2.1).mono ?_
  rintro e w6 ⟨rfl, h6, k6⟩
  have kk6 := kk5.trans k6
  clear h5 kk5 k6
  go_wp2_with fail
  refine (synced_by 6 h6 X3.out.sync).mono ?_
  rintro e w6' ⟨rfl, rfl⟩
  go_wp2_with fail
  refine (sync_by 0 h6 (HE.out.keep kk6 hG) K2.out X1.out.2.2.2).mono ?_
  rintro e w7 ⟨rfl, h7, k7⟩
  have kk7 := kk6.trans k7
  clear h6 kk6 k7
  go_wp2_with fail
  refine (synced_by 8 h7 X4.out.sync).mono ?_
  rintro e w7' ⟨rfl, rfl⟩
  go_wp2_with fail
  go_loopw [6] (fun nv wr => ∃ (n : Nat) (d : ADisk) (al : ALog), nv = .int .i64 n ∧ n ≤ 16 ∧ LogAt ex wr q p m d al ∧ Keep ex w wr ∧ (AwN n d al ∨ (n = 16 ∧ AwE d al))) (fun nv _ => 40 - (intOf nv).toNat)
  case atStart => exact ⟨9, d3, al3, rfl, by omega, h7, kk7, Or.inl XN.out⟩
  case round =>
    clear h7 kk7
    obtain ⟨n, d, al, rfl, hn16, hL, hK, hor⟩ := hrel
    have hEr := HE.out.keep hK hG
    rcases hor with hN | ⟨rfl, hE2⟩
    · have hnm : al.names = [wName 7] := by obtain ⟨R, h1, _⟩ := hN; exact aw_names1 h1
      have hokr : al.Ok ∧ al.segs.length ≤ 500 := by obtain ⟨R, h1, _⟩ := hN; exact h1.j.alOk h1.small_ok.1 h1.small_ok.2.1 h1.small_ok.2.2.1 h1.small_ok.2.2.2
      have hn9 : 9 ≤ n ∧ n ≤ 15 := by obtain ⟨R, _, _, h3, h4⟩ := hN; exact ⟨h3, h4⟩
      have hnx : ∃ d' al', wAppend d al n [98] = (d', al', 0) ∧ (AwN (n + 1) d' al' ∨ (n + 1 = 16 ∧ AwE d' al')) := by
        rcases (by omega : n < 15 ∨ n = 15) with h | rfl
        · obtain ⟨d', al', e1, e2⟩ := hN.next h; exact ⟨d', al', e1, Or.inl e2⟩
        · obtain ⟨d', al', e1, e2⟩ := hN.ends; exact ⟨d', al', e1, Or.inr ⟨rfl, e2⟩⟩
      obtain ⟨d', al', e1, e2⟩ := hnx
      have h40 : (n : Int) < 40 := by omega
      have HX := Lib.hid (And.intro e1 e2)
      have Hok := Lib.hid hokr
      have Hnm := Lib.hid hnm
      clear hN e1 e2 hokr hnm
      go_wp2_with fail
      refine (files_by [wName 7] 1 hL hEr Hok.out Hnm.out rfl).mono ?_
      unfold FilesPost
      rintro e wa ⟨aa, ca, rfl, hrow, hBa⟩
      clear hrow
      have hLa := hL.below hBa
      have hKa := hK.trans (Keep.ofBelow hBa (fun k hk => hL.lt hk))
      clear hL hK
      go_wp2_with fail
      have hBb : Below wa.heap.size wa (wa.alloc (.cells #[.int .u8 98] 5 (1, 2))) := (Below.refl _ _).alloc (Nat.le_refl _) _
      refine (append_by (n : Int) _ [98] 0 hLa hBb ((HE.out.keep hKa hG).below hBb) hG Hok.out (by unfold isI64; omega) (Rd_new _ _ _ _ (bcells [98]) _ _ rfl rfl) (fun g hg => by cases hg; exact ⟨Nat.le_refl _, by simp⟩) (by simp) HX.out.1).mono ?_
      rintro e wb ⟨rfl, hLb, kb⟩
      have hKb := hKa.trans kb
      clear hLa hKa kb hBa
      go_wp2
      go_roundw
      case rel => exact ⟨n + 1, d', al', by go_num, by omega, hLb, hKb, HX.out.2⟩
      case measure => simp [intOf]; omega
    · obtain ⟨ss, s1, s2, s3, s4, s5⟩ := hE2.small_ok
      have hokr := s1.alOk s2 s3 s4 s5
      obtain ⟨d5, al5, d6, f, t1, t2, t3, t4, t5, t6, t7⟩ := hE2.tail
      have hok6 := t7.alOk (by show (64 : Int).toNat ≤ 16777216; decide) (by decide) (by show (cont (15, [])).length ≤ 1099511627776; rw [cont_new, hd4_exact (by omega)]; decide) (by decide)
      have Hok := Lib.hid hokr
      have Hok6 := Lib.hid hok6
      have T1 := Lib.hid t1
      have T2 := Lib.hid (And.intro t2 t3)
      have T4 := Lib.hid (And.intro t4 (And.intro t5 t6))
      clear s1 s2 s3 s4 s5 hokr hok6 t1 t2 t3 t4 t5 t6 t7 hE2
      go_wp2_with fail
      refine (files_by [wName 7, wName 15] 2 hL hEr Hok.out T1.out rfl).mono ?_
      unfold FilesPost
      rintro e wa ⟨aa, ca, rfl, hrow, hBa⟩
      clear hrow
      have hLa := hL.below hBa
      have hKa := hK.trans (Keep.ofBelow hBa (fun k hk => hL.lt hk))
      clear hL hK hBa
      go_wp2_with fail
      refine (files_by [wName 7, wName 15] 2 hLa (HE.out.keep hKa hG) Hok.out T1.out rfl).mono ?_
      unfold FilesPost
      rintro e wb ⟨ab, cb, rfl, hrow, hBb⟩
      have Hrow := Lib.hid hrow
      have hLb := hLa.below hBb
      have hKb := hKa.trans (Keep.ofBelow hBb (fun k hk => hLa.lt hk))
      clear hrow hLa hKa hBb
      go_wp2_with fail
      refine (x4Name_any wb 15 (by omega)).mono ?_
      rintro e wb' ⟨rfl, rfl⟩
      go_wp2_with fail
      have hBc : Below wb.heap.size wb (wb.alloc (.cells #[.string ⟨#[119, 55]⟩, .string (wName 15)] 9)) := (Below.refl _ _).alloc (Nat.le_refl _) _
      have hac : Rd (wb.alloc (.cells #[.string ⟨#[119, 55]⟩, .string (wName 15)] 9)) (.slice ab 2 cb) (sCells [wName 7, wName 15]) := (Rd.ofOwns Hrow.out).below hBc
      have hbc : Rd (wb.alloc (.cells #[.string ⟨#[119, 55]⟩, .string (wName 15)] 9)) (.slice (some ⟨wb.heap.size, 0, none⟩) 2 2) (sCells [wName 7, wName 15]) := by rw [wName7]; exact Rd_new _ _ _ _ _ _ _ rfl rfl
      refine (SameTexts_any _ _ _ _ _ hac hbc (by simp [maxLen]) (by simp [maxLen])).mono ?_
      clear hac hbc
      rw [show decide (([wName 7, wName 15] : List ByteArray) = [wName 7, wName 15]) = true by simp]
      rintro e wc ⟨rfl, hBc2⟩
      have hBbc := hBc.trans (hBc2.mono hBc.size)
      have hLc := hLb.below hBbc
      have hKc := hKb.trans (Keep.ofBelow hBbc (fun k hk => hLb.lt hk))
      clear hLb hKb hBc hBc2 hBbc
      go_wp2_with fail
      refine (trim_by 15 [wName 7] 1 0 hLc (HE.out.keep hKc hG) hG (by unfold isI64; omega) Hok.out T2.out.1 rfl).mono ?_
      unfold TrimBy
      rintro e wd ⟨ag, cg, rfl, hrowg, hLd, kd⟩
      have hKd := hKc.trans kd
      have hexlt : ∀ k, ex k → k < wd.heap.size := fun k hk => hLd.lt (Or.inl hk)
      have hgl : ∀ g, (Value.slice ag 1 cg).ownBlock = some g → g < wd.heap.size := fun g hg => row_lt hrowg hg
      have Hgl := Lib.hid hgl
      have Hrg := Lib.hid hrowg
      have Hxl := Lib.hid hexlt
      clear hLc hKc kd hrowg hgl hexlt
      go_wp2_with fail
      have hBd : Below wd.heap.size wd (wd.alloc (.cells #[.int .i64 6] 3)) := (Below.refl _ _).alloc (Nat.le_refl _) _
      have hDd : DiskAt (fun k => (ex k ∨ (Value.slice ag 1 cg).ownBlock = some k) ∨ k = wd.heap.size) (wd.alloc (.cells #[.int .i64 6] 3)) p m d5 := hLd.disk.more hBd (fun k hk => hk.imp id (fun e => ⟨by omega, by simp; omega⟩))
      refine (Crash_at _ [6] hDd (Rd_new _ _ _ _ (iCells [6]) _ _ rfl rfl) (by simp) (fun x hx => by simp at hx; subst hx; unfold isI64; omega) (fun k hk => by cases hk; exact Or.inr rfl)).mono ?_
      rintro e we ⟨rfl, hDe, ke⟩
      have hKe : Keep (fun k => ex k ∨ (Value.slice ag 1 cg).ownBlock = some k) wd we := (Keep.ofBelow hBd (fun k hk => hk.elim (Hxl.out k) (Hgl.out k))).trans (ke.mono (fun k hk => Or.inl hk))
      have hrge : we.ownsRow wc.heap.size 9 1 (.slice ag 1 cg) 1 (sCells [wName 7]) := hKe.row Hrg.out (fun g hg => Or.inr hg)
      have hDe2 := hDe.mono (ex' := fun k => ex k ∨ (Value.slice ag 1 cg).ownBlock = some k) (fun k hk => Or.inl hk)
      have hKe2 := hKd.trans (hKe.mono (fun k hk => Or.inl hk))
      have Hre := Lib.hid hrge
      clear hLd hDd hDe ke hBd hKe hrge hKd
      go_wp2_with fail
      refine (open_by 64 hDe2 (HE.out.keep hKe2 hG) (hG.mono (fun k hk => Or.inl hk)) T2.out.2 T4.out.1).mono ?_
      rintro e wf ⟨kf, q2, af, cf, XL2, rfl, hF⟩
      have hLf := hF.log.mono (ex' := ex) (fun k hk => Or.inl (Or.inl hk))
      have hrf := kf.row Hre.out (fun g hg => Or.inr hg)
      have hKf := hKe2.trans (kf.mono (fun k hk => Or.inl hk))
      have Hrf := Lib.hid hrf
      clear hF hDe2 hKe2 kf hrf
      go_wp2_with fail
      have hBg : Below wf.heap.size wf (wf.alloc (.cells #[.string ⟨#[119, 55]⟩] 9)) := (Below.refl _ _).alloc (Nat.le_refl _) _
      have hag : Rd (wf.alloc (.cells #[.string ⟨#[119, 55]⟩] 9)) (.slice ag 1 cg) (sCells [wName 7]) := (Rd.ofOwns Hrf.out).below hBg
      have hbg : Rd (wf.alloc (.cells #[.string ⟨#[119, 55]⟩] 9)) (.slice (some ⟨wf.heap.size, 0, none⟩) 1 1) (sCells [wName 7]) := by rw [wName7]; exact Rd_new _ _ _ _ _ _ _ rfl rfl
      refine (SameTexts_any _ _ _ _ _ hag hbg (by simp [maxLen]) (by simp [maxLen])).mono ?_
      clear hag hbg
      rw [show decide (([wName 7] : List ByteArray) = [wName 7]) = true by simp]
      rintro e wg ⟨rfl, hBg2⟩
      have hBfg := hBg.trans (hBg2.mono hBg.size)
      have hLg := hLf.below hBfg
      have hKg := hKf.trans (Keep.ofBelow hBfg (fun k hk => hLf.lt hk))
      clear hLf hKf hBg hBg2 hBfg
      go_wp2_with fail
      refine (last_by 14 hLg Hok6.out T4.out.2.1).mono ?_
      rintro e wg' ⟨rfl, rfl⟩
      go_wp2_with fail
      refine (first_by 15 hLg T4.out.2.2).mono ?_
      rintro e wg' ⟨rfl, rfl⟩
      go_wp2
      go_ret
      exact ⟨rfl, hKg.below (fun k hk => by rw [Hex.out]; exact hk)⟩
end Go.Proofs.YtbiadclmonakkaaGreatDoor

/-
  The statements' helpers of chapter 04: sizes, sameInts.
-/
namespace Go.Proofs.YtbiadclmonakkaaGreatDoor
open Go.RowKit Go.Maps Go.MapKept

end Go.Proofs.YtbiadclmonakkaaGreatDoor

/-
  Records that are told, where they read; Append of bytes that were there.
-/
namespace Go.Proofs.YtbiadclmonakkaaGreatDoor
open Go.RowKit Go.Maps Go.MapKept

section
variable {ex : Nat → Prop} {w : World} {q p m : Nat} {d d' : ADisk} {al al' : ALog}
/-- where records that are told read. -/
theorem OpenFin.rd {w' : World} {vr : Option Addr} {c n : Nat} {recs : List ARec} {XL : List XRec} (h : OpenFin ex w w' q p m d al (.slice vr n c) recs XL) (hn : recs.length = n) : RecRd w' vr XL := by
  have hr := h.row
  rw [hn] at hr
  exact RecRd.ofOwns hr (by rw [← hn, ← h.map, List.length_map]) h.ok.rd
theorem RecRd.keep {w' : World} {a : Option Addr} {n c : Nat} {L : List XRec} (h : RecRd w a L) (hk : Keep ex w w') (hb : ∀ g, RBlk (.slice a n c) L g → ex g) : RecRd w' a L := by
  refine ⟨fun hn => ?_, fun x hx => hk.rd (h.rd x hx) (fun g hg => hb g (Or.inr ⟨x, hx, hg⟩))⟩
  obtain ⟨b, o, rfl, hc⟩ := h.at_ hn
  exact ⟨b, o, rfl, fun j u hu => (hk.cell (hb b (Or.inl rfl)) (o + j)).trans (hc j u hu)⟩
end
theorem RecRd.take {w : World} {a : Option Addr} {L : List XRec} (h : RecRd w a L) (j : Nat) : RecRd w a (L.take j) := by
  refine ⟨fun hn => ?_, fun x hx => h.rd x (List.mem_of_mem_take hx)⟩
  obtain ⟨b, o, e, hc⟩ := h.at_ (fun e => hn (by rw [e, List.take_nil]))
  refine ⟨b, o, e, fun i u hu => hc i u ?_⟩
  have e2 : recX L = recX (L.take j) ++ recX (L.drop j) := by rw [← recX_app, List.take_append_drop]
  rw [e2, List.getElem?_append_left (List.getElem?_eq_some_iff.1 hu).1]
  exact hu
end Go.Proofs.YtbiadclmonakkaaGreatDoor
