/-
  WalKeeps, plain: a life: Append, Sync, Trim, and what a crash leaves. No program here.
-/
import Derived.Test.YtbiadclmonakkaaGreatDoorMWal22
namespace Go.Proofs.YtbiadclmonakkaaGreatDoor

theorem wAppend_size (d : ADisk) (al : ALog) (n : Nat) (b : List UInt8) : (wAppend d al (n : Int) b).2.1.size = al.size := by
  have ha : ∀ m, (wAnother d al m).2.1.size = al.size := by
    intro m
    unfold wAnother
    split
    · rfl
    · by_cases h0 : al.segs = []
      · simp only [h0, if_true]; split <;> rfl
      · simp only [h0, if_false]; split <;> rfl
  have hpz : ∀ (d : ADisk) (al : ALog) (m : Nat), (wPut d al m b).2.1.size = al.size := by
    intro d al m; unfold wPut; split <;> rfl
  unfold wAppend
  split
  · rfl
  · split
    · rfl
    · split
      · rfl
      · split
        · rfl
        · split
          · simp only [Int.toNat_natCast]
            split
            · exact ha _
            · rw [hpz, ha]
          · simp only [Int.toNat_natCast]; exact hpz _ _ _
theorem chain_count {ss : List Seg} (h : chain ss) : ss.length ≤ (allRecs ss).length + 1 := by
  induction ss with
  | nil => exact Nat.zero_le _
  | cons x r ih =>
    cases r with
    | nil => simp
    | cons y r =>
      have h1 := ih h.2.2.2
      have h2 : 0 < x.2.length := List.length_pos_iff.2 h.2.1
      have e : allRecs (x :: y :: r) = numbered x.1 x.2 ++ allRecs (y :: r) := rfl
      rw [e, List.length_append, numbered_len4, List.length_cons]
      omega
theorem wFrames_le (n : Nat) (R : List (List UInt8)) (hn : n + R.length ≤ 1000000) (hR : ∀ b ∈ R, b.length ≤ 40) : (wFrames sumL n R).length ≤ 48 * R.length := by
  induction R generalizing n with
  | nil => simp [wFrames]
  | cons b R ih =>
    simp only [List.length_cons] at hn
    have h1 := ih (n + 1) (by omega) (fun x hx => hR x (by simp [hx]))
    have h2 := (fr4_len (n := n) (b := b) (by omega) (by have := hR b (by simp); omega)).1
    have h3 := hR b (by simp)
    show (wFrame sumL n b ++ wFrames sumL (n + 1) R).length ≤ _
    rw [List.length_append]
    have e : (wFrame sumL n b).length = (fr4 n b).length := rfl
    simp only [List.length_cons]
    omega
/-- a log in a life, over or not; L: what was appended, over all lives, from 1 on. -/
structure Kj (sz : Nat) (L : List (List UInt8)) (tr : Nat) (d : ADisk) (al : ALog) (ss : List Seg) : Prop where
  run : Kr L tr al.synced ss
  sy : al.synced ≤ L.length
  lens : ∀ b ∈ L, b.length ≤ 40
  size : al.size = sz
  ok : al.Ok ∧ al.segs.length ≤ 501
  on : OnF d ss al.synced
theorem Kr.bounds {L : List (List UInt8)} {tr sy : Nat} {ss : List Seg} (h : Kr L tr sy ss) (hc : chain ss) (hl : ∀ b ∈ L, b.length ≤ 40) (hL : L.length ≤ 1000) : nextOf ss ≤ 1 + L.length ∧ ss.length ≤ L.length + 1 ∧ lenOf ss ≤ 11 + 48 * L.length := by
  cases hss : ss with
  | nil => exact ⟨by simp [nextOf], by simp, by simp [lenOf]⟩
  | cons y r =>
    have hn := h.next hc (by rw [hss]; simp)
    obtain ⟨a1, a2, a3, a4, a5⟩ := h.some y r hss
    have hcnt := chain_count hc
    rw [a5, List.length_drop, numbered_len4] at hcnt
    rw [← hss]
    refine ⟨by omega, by omega, ?_⟩
    rcases List.eq_nil_or_concat ss with e | ⟨pre, x, e⟩
    · rw [e] at hss; cases hss
    · rw [List.concat_eq_append] at e
      subst e
      rw [nextOf_last] at hn
      rw [lenOf_last]
      have hb : ∀ b ∈ x.2, b.length ≤ 40 := by
        intro b hb
        have h1 : b ∈ (allRecs (pre ++ [x])).map (·.b) := by
          rw [allRecs_last, List.map_append, numbered_bs]
          exact List.mem_append_right _ hb
        rw [a5, List.map_drop, numbered_bs] at h1
        exact hl b (List.mem_of_mem_drop h1)
      have h1 := wFrames_le x.1 x.2 (by omega) hb
      have h2 := (hd4_small (n := x.1) (by omega)).1
      have h3 := (chain_ok hc x (by simp)).lo
      unfold cont
      rw [List.length_append]
      omega
theorem Kj.alOk {sz : Nat} {L : List (List UInt8)} {tr : Nat} {d : ADisk} {al : ALog} {ss : List Seg} (hr : Kr L tr al.synced ss) (hJ : J d al ss) (hl : ∀ b ∈ L, b.length ≤ 40) (hs : al.size = sz) (hz : sz ≤ 16777216) (hL : L.length ≤ 300) : al.Ok ∧ al.segs.length ≤ 500 := by
  obtain ⟨b1, b2, b3⟩ := hr.bounds hJ.on.chain hl (by omega)
  exact hJ.alOk (by omega) (by omega) (by omega) (by omega)
theorem Kj.append {sz : Nat} {L : List (List UInt8)} {tr : Nat} {d : ADisk} {al : ALog} {ss : List Seg} (h : Kj sz L tr d al ss) (hJ : J d al ss) (hL : L.length ≤ 200) (hz : sz ≤ 16777216) (htr : 1 ≤ tr) (b : List UInt8) (hb : b.length ≤ 40) :
    ∃ d' al' e ss', wAppend d al ((1 + L.length : Nat) : Int) b = (d', al', e) ∧ ((e = 0 ∧ Kj sz (L ++ [b]) tr d' al' ss' ∧ J d' al' ss') ∨ (e ≠ 0 ∧ al'.over = true ∧ Kj sz L tr d' al' ss')) := by
  have hsz := wAppend_size d al (1 + L.length) b
  have hlen : (L ++ [b]).length = L.length + 1 := by simp
  have hlens : ∀ u ∈ L ++ [b], u.length ≤ 40 := by
    intro u hu
    rcases List.mem_append.1 hu with hu | hu
    · exact h.lens u hu
    · rw [List.mem_singleton] at hu; rw [hu]; exact hb
  have hsy := h.sy
  rcases append_law hJ (1 + L.length) b (by omega) (by omega) (by omega) (fun e => (h.run.next hJ.on.chain e).symm) with ⟨d', al', ss', he, hp⟩ | ⟨d', al', ss', e, e0, he, _, hp⟩
  · have hss : al.synced ≤ al'.synced := by rcases hp.sync with e | e <;> omega
    have hr : Kr (L ++ [b]) tr al'.synced ss' := by
      refine h.run.append hss htr hp.recs ?_
      rcases hp.how with ⟨_, e⟩ | ⟨_, pre, x, e1, _, e2⟩
      · exact Or.inl e
      · exact Or.inr ⟨pre, x, e1, e2⟩
    have hok := Kj.alOk hr hp.j hlens (hp.size.trans h.size) hz (by omega)
    exact ⟨d', al', 0, ss', he, Or.inl ⟨rfl, ⟨hr, by rcases hp.sync with e | e <;> omega, hlens, hp.size.trans h.size, ⟨hok.1, by omega⟩, hp.j.on⟩, hp.j⟩⟩
  · have hok0 := Kj.alOk h.run hJ h.lens h.size hz (by omega)
    have hbo := wAppend_bad_ok (d := d) (b := b) hok0 (n := 1 + L.length) (by omega) (by rw [he]; exact e0)
    rw [he] at hbo hsz
    have hss : al.synced ≤ al'.synced := by rcases hp.sync with e | ⟨e, _⟩ <;> omega
    refine ⟨d', al', e, ss', he, Or.inr ⟨e0, hp.over, ?_, by rcases hp.sync with e | ⟨e, _⟩ <;> omega, h.lens, hsz.trans h.size, hbo, hp.on⟩⟩
    rcases hp.how with e | e
    · rw [e]; exact h.run.more (Nat.le_refl _) hss
    · rw [e]; exact h.run.empty hss htr
theorem Kj.sync {sz : Nat} {L : List (List UInt8)} {tr : Nat} {d : ADisk} {al : ALog} {ss : List Seg} (h : Kj sz L tr d al ss) (hJ : J d al ss) (hL : L.length ≤ 200) (hz : sz ≤ 16777216) :
    ∃ d' al' e, wSync d al = (d', al', e) ∧ ((Kj sz L tr d' al' ss ∧ J d' al' ss) ∨ (al'.over = true ∧ Kj sz L tr d' al' ss)) := by
  by_cases hs : ss = []
  · subst hs
    exact ⟨d, al, 0, sync_none hJ, Or.inl ⟨h, hJ⟩⟩
  · have hnx := h.run.next hJ.on.chain hs
    have hla : al.last = L.length := by unfold ALog.last; rw [hJ.next, hnx]; omega
    rcases sync_law hJ hs with ⟨d', e1, e2, _, _, _⟩ | ⟨_, e1, e2⟩
    · have hr : Kr L tr ({ al with synced := al.last } : ALog).synced ss := h.run.more (Nat.le_refl _) (by show al.synced ≤ al.last; rw [hla]; exact h.sy)
      have hok := Kj.alOk hr e2 h.lens h.size hz (by omega)
      exact ⟨d', _, 0, e1, Or.inl ⟨⟨hr, by show al.last ≤ _; omega, h.lens, h.size, ⟨hok.1, by omega⟩, e2.on⟩, e2⟩⟩
    · exact ⟨d.fail, _, 15, e1, Or.inr ⟨rfl, h.run, h.sy, h.lens, h.size, ⟨⟨h.ok.1.size, h.ok.1.next, h.ok.1.bytes, h.ok.1.synced, h.ok.1.segs, h.ok.1.many⟩, h.ok.2⟩, e2⟩⟩
theorem Kj.trim {sz : Nat} {L : List (List UInt8)} {tr : Nat} {d : ADisk} {al : ALog} {ss : List Seg} (h : Kj sz L tr d al ss) (hJ : J d al ss) (below : Nat) (hb : below ≤ al.synced) :
    ∃ d' al' gone e ss', wTrim d al below = (d', al', gone, e) ∧ ((Kj sz L (max tr below) d' al' ss' ∧ J d' al' ss') ∨ (al'.over = true ∧ Kj sz L (max tr below) d' al' ss')) := by
  by_cases hs : ss = []
  · subst hs
    exact ⟨d, al, [], 0, [], trim_none hJ below, Or.inl ⟨⟨h.run.more (Nat.le_max_left _ _) (Nat.le_refl _), h.sy, h.lens, h.size, h.ok, h.on⟩, hJ⟩⟩
  · have hch := hJ.on.chain
    have hsegs := hJ.segs
    obtain ⟨d', gone, ss', e1, e2, hor⟩ := trim_law hJ hs (below : Int)
    have hok2 : ∀ o : Bool, ({ al with segs := ss'.map segV, over := o } : ALog).Ok ∧ ({ al with segs := ss'.map segV, over := o } : ALog).segs.length ≤ 501 := by
      intro o
      have hl : (ss'.map segV).length ≤ al.segs.length := by rw [hsegs, e1, List.length_map, List.length_map, List.length_append]; omega
      have hm : ∀ x ∈ ss'.map segV, x ∈ al.segs := by
        intro x hx
        rw [hsegs, e1, List.map_append]
        exact List.mem_append_right _ hx
      have := h.ok.1.many
      have := h.ok.2
      exact ⟨⟨h.ok.1.size, h.ok.1.next, h.ok.1.bytes, h.ok.1.synced, fun x hx => h.ok.1.segs x (hm x hx), by show (ss'.map segV).length ≤ _; omega⟩, by show (ss'.map segV).length ≤ _; omega⟩
    have hrun : gone.map (fun y => wName y.1) = gone.map (fun y => wName y.1) → (∀ al' e, wTrim d al below = (d', al', gone.map (fun y => wName y.1), e) → Kr L (max tr below) al.synced ss') := by
      intro _ al' e he
      have hh := trim_head hJ (below : Int) he e1
      refine (show Kr L tr al.synced (gone ++ ss') by rw [← e1]; exact h.run).trim (by rw [← e1]; exact hch) below hb (fun hg => ?_)
      obtain ⟨z, r, a1, a2⟩ := hh hg
      exact ⟨z, r, a1, by omega⟩
    rcases hor with ⟨t1, t2, _⟩ | ⟨_, t1, t2⟩
    · exact ⟨d', _, _, 0, ss', t1, Or.inl ⟨⟨hrun rfl _ _ t1, h.sy, h.lens, h.size, by have := hok2 al.over; exact this, t2.on⟩, t2⟩⟩
    · exact ⟨d', _, _, 15, ss', t1, Or.inr ⟨rfl, hrun rfl _ _ t1, h.sy, h.lens, h.size, hok2 true, t2⟩⟩
end Go.Proofs.YtbiadclmonakkaaGreatDoor
