/-
  WalEnded, plain: a journal that may end; what is opened behind a crash. No program here.
-/
import Derived.Test.YtbiadclmonakkaaGreatDoorMWmD
import Derived.Test.YtbiadclmonakkaaGreatDoorMWal16
namespace Go.Proofs.YtbiadclmonakkaaGreatDoor

theorem chain_total {x : Seg} {r : List Seg} (h : chain (x :: r)) : nextOf (x :: r) = x.1 + (allRecs (x :: r)).length := by
  induction r generalizing x with
  | nil => simp [nextOf, allRecs, numbered_len4]
  | cons y r ih =>
    have h1 := ih h.2.2.2
    have h2 : nextOf (x :: y :: r) = nextOf (y :: r) := by simp [nextOf]
    have h3 : (allRecs (x :: y :: r)).length = x.2.length + (allRecs (y :: r)).length := by simp [allRecs, numbered_len4]
    rw [h2, h1, h3, h.2.2.1]; omega
theorem wAppend_bad_ok {d : ADisk} {al : ALog} {n : Nat} {b : List UInt8} (hok : al.Ok ∧ al.segs.length ≤ 500) (hn : n ≤ 9007199254740992) (he : (wAppend d al n b).2.2 ≠ 0) : (wAppend d al n b).2.1.Ok ∧ (wAppend d al n b).2.1.segs.length ≤ 501 := by
  obtain ⟨k1, k2⟩ := another_ok (d := d) (n := n) hok.1 (by omega) hn
  have hseg : (wAnother d al n).2.1.segs.length ≤ 501 := by
    unfold wAnother
    split
    · simp only; omega
    · by_cases h0 : al.segs = []
      · simp only [h0, if_true]
        split
        · simp
        · simp only [h0]; simp
      · simp only [h0, if_false]
        split
        · simp only [List.length_append, List.length_cons, List.length_nil]; omega
        · simp only; omega
  have hp : ∀ (d : ADisk) (al : ALog), al.Ok → (wPut d al n b).2.2 ≠ 0 → (wPut d al n b).2.1.Ok ∧ (wPut d al n b).2.1.segs = al.segs := by
    intro d al h h2
    unfold wPut at h2 ⊢
    split at h2
    · rename_i h3
      rw [if_pos h3]
      exact ⟨⟨h.size, h.next, h.bytes, h.synced, h.segs, h.many⟩, rfl⟩
    · exact absurd rfl h2
  unfold wAppend at he ⊢
  split at he
  · rename_i c; rw [if_pos c]; exact ⟨hok.1, by simp only; omega⟩
  · rename_i c; rw [if_neg c]
    split at he
    · rename_i c; rw [if_pos c]; exact ⟨hok.1, by simp only; omega⟩
    · rename_i c; rw [if_neg c]
      split at he
      · rename_i c; rw [if_pos c]; exact ⟨hok.1, by simp only; omega⟩
      · rename_i c; rw [if_neg c]
        split at he
        · rename_i c; rw [if_pos c]; exact ⟨hok.1, by simp only; omega⟩
        · rename_i c; rw [if_neg c]
          split at he
          · rename_i c; rw [if_pos c]
            simp only [Int.toNat_natCast] at he ⊢
            split at he
            · rename_i c2; rw [if_pos c2]
              exact ⟨⟨k1.size, k1.next, k1.bytes, k1.synced, k1.segs, k1.many⟩, hseg⟩
            · rename_i c2; rw [if_neg c2]
              obtain ⟨a1, a2⟩ := hp _ _ k1 he
              exact ⟨a1, by rw [a2]; exact hseg⟩
          · rename_i c; rw [if_neg c]
            simp only [Int.toNat_natCast] at he ⊢
            obtain ⟨a1, a2⟩ := hp _ _ hok.1 he
            exact ⟨a1, by rw [a2]; omega⟩
/-- a journal, over or not; L: what was appended. -/
structure En (L : List (List UInt8)) (d : ADisk) (al : ALog) (ss : List Seg) : Prop where
  recs : allRecs ss = numbered 1 L
  sy : al.synced ≤ L.length
  first : ss ≠ [] → ss.head?.map (·.1) = some 1
  count : al.over = false → ss.length ≤ L.length + 1
  small : lenOf ss ≤ 18 + 70 * L.length
  size : al.size = 64
  ok : al.Ok ∧ al.segs.length ≤ 501
  on : OnF d ss al.synced
theorem En.len {L : List (List UInt8)} {d : ADisk} {al : ALog} {ss : List Seg} (h : En L d al ss) : (allRecs ss).length = L.length := by rw [h.recs, numbered_len4]
theorem En.next {L : List (List UInt8)} {d : ADisk} {al : ALog} {ss : List Seg} (h : En L d al ss) (hne : ss ≠ []) : nextOf ss = 1 + L.length := by
  have hl := h.len
  have hc := h.on.chain
  have hf := h.first hne
  cases ss with
  | nil => exact absurd rfl hne
  | cons x r =>
    have hx : x.1 = 1 := by simpa using hf
    rw [chain_total hc, hx, hl]
theorem en_new (m a : Int) : En [] ⟨m, a, false, []⟩ (f0.log 64) [] ∧ J ⟨m, a, false, []⟩ (f0.log 64) [] := by
  have hb : Bare ⟨m, a, false, []⟩ := ⟨List.Pairwise.nil, fun _ _ _ => rfl⟩
  have hJ : J ⟨m, a, false, []⟩ (f0.log 64) [] := ⟨rfl, OnF.bare hb, rfl, rfl, rfl, Or.inr ⟨rfl, rfl⟩, rfl⟩
  have hok := hJ.alOk (by decide) (by decide) (by decide) (by decide)
  exact ⟨⟨rfl, by decide, fun h => absurd rfl h, fun _ => by simp, by decide, rfl, ⟨hok.1, by omega⟩, hJ.on⟩, hJ⟩
theorem En.append {L : List (List UInt8)} {d : ADisk} {al : ALog} {ss : List Seg} (h : En L d al ss) (hJ : J d al ss) (hL : L.length ≤ 40) (b : List UInt8) (hb : b.length ≤ 40) :
    ∃ d' al' e, wAppend d al ((1 + L.length : Nat) : Int) b = (d', al', e) ∧ ((e = 0 ∧ ∃ ss', En (L ++ [b]) d' al' ss' ∧ J d' al' ss') ∨ (e ≠ 0 ∧ al'.over = true ∧ ∃ ss', En L d' al' ss')) := by
  have hnx : ss ≠ [] → 1 + L.length = nextOf ss := fun e => (h.next e).symm
  have hok := hJ.alOk (by rw [h.size]; decide) (by
    by_cases e : ss = []
    · rw [e]; decide
    · rw [h.next e]; omega) (by have := h.small; omega) (by have := h.count hJ.live; omega)
  have f1 := fr4_le (n := 1 + L.length) (b := b) (by omega) (by omega)
  have g1 := hd4_le (n := 1 + L.length) (by omega)
  rcases append_law hJ (1 + L.length) b (by omega) (by omega) (by omega) hnx with ⟨d', al', ss', he, hp⟩ | ⟨d', al', ss', e, e0, he, _, hp⟩
  · have hrec : allRecs ss' = numbered 1 (L ++ [b]) := by rw [hp.recs, h.recs, numbered_more]
    have hsm : lenOf ss' ≤ 18 + 70 * (L ++ [b]).length := by
      have hl : (L ++ [b]).length = L.length + 1 := by simp
      rcases hp.how with ⟨_, rfl⟩ | ⟨_, pre, x, rfl, hn, rfl⟩
      · rw [lenOf_last]
        have : (cont (1 + L.length, [b])).length = (hd4 (1 + L.length)).length + (fr4 (1 + L.length) b).length := by
          unfold cont; simp [wFrames, fr4]
        omega
      · have := h.small
        rw [lenOf_last] at this ⊢
        rw [cont_more, List.length_append, ← hn]
        omega
    have hfi : ss' ≠ [] → ss'.head?.map (·.1) = some 1 := by
      intro _
      rcases hp.how with ⟨_, rfl⟩ | ⟨_, pre, x, rfl, hn, rfl⟩
      · by_cases e : ss = []
        · subst e
          have : L = [] := by
            have := h.len
            exact List.eq_nil_of_length_eq_zero this.symm
          subst this; rfl
        · have := h.first e
          cases ss with
          | nil => exact absurd rfl e
          | cons y r => exact this
      · have := h.first (by simp)
        cases pre with
        | nil => exact this
        | cons y r => exact this
    have hct : ss'.length ≤ (L ++ [b]).length + 1 := by
      have := h.count hJ.live
      rcases hp.how with ⟨_, rfl⟩ | ⟨_, pre, x, rfl, hn, rfl⟩
      · simp only [List.length_append, List.length_cons, List.length_nil]; omega
      · simp only [List.length_append, List.length_cons, List.length_nil] at this ⊢; omega
    have hsy : al'.synced ≤ (L ++ [b]).length := by
      have := h.sy
      have hl : (L ++ [b]).length = L.length + 1 := by simp
      rcases hp.sync with e | e <;> omega
    have hsz : al'.size = 64 := hp.size.trans h.size
    have hne : ss' ≠ [] := by
      intro e
      rw [e] at hrec
      have := congrArg List.length hrec
      rw [numbered_len4] at this
      simp [allRecs] at this
    have hnx' : nextOf ss' ≤ 2 + L.length := by
      have hc := hp.j.on.chain
      have hf := hfi hne
      cases hss : ss' with
      | nil => exact absurd hss hne
      | cons x r =>
        rw [hss] at hc hf hrec
        have hx : x.1 = 1 := by simpa using hf
        rw [chain_total hc, hx, hrec, numbered_len4]; simp; omega
    have hok' := hp.j.alOk (by rw [hsz]; decide) (by omega) (by have hl : (L ++ [b]).length = L.length + 1 := by simp
                                                                omega) (by have hl : (L ++ [b]).length = L.length + 1 := by simp
                                                                           omega)
    exact ⟨d', al', 0, he, Or.inl ⟨rfl, ss', ⟨hrec, hsy, hfi, fun _ => hct, hsm, hsz, ⟨hok'.1, by omega⟩, hp.j.on⟩, hp.j⟩⟩
  · have hbo := wAppend_bad_ok (d := d) (b := b) hok (n := 1 + L.length) (by omega) (by rw [he]; exact e0)
    rw [he] at hbo
    have hsz : al'.size = 64 := by
      have : (wAppend d al ((1 + L.length : Nat) : Int) b).2.1.size = al.size := by
        have ha : (wAnother d al (1 + L.length)).2.1.size = al.size := by
          unfold wAnother
          split
          · rfl
          · by_cases h0 : al.segs = []
            · simp only [h0, if_true]; split <;> rfl
            · simp only [h0, if_false]; split <;> rfl
        have hpz : ∀ (d : ADisk) (al : ALog), (wPut d al (1 + L.length) b).2.1.size = al.size := by
          intro d al; unfold wPut; split <;> rfl
        unfold wAppend
        split
        · rfl
        · split
          · rfl
          · split
            · rfl
            · split
              · rfl
              · split
                · simp only [Int.toNat_natCast]
                  split
                  · exact ha
                  · rw [hpz, ha]
                · simp only [Int.toNat_natCast]; exact hpz _ _
      rw [he] at this
      exact this.trans h.size
    have hlen0 : ss = [] → L = [] := fun e => by
      have := h.len
      rw [e] at this
      exact List.eq_nil_of_length_eq_zero this.symm
    refine ⟨d', al', e, he, Or.inr ⟨e0, hp.over, ss', ?_⟩⟩
    rcases hp.how with rfl | rfl
    · exact ⟨h.recs, by have := h.sy; rcases hp.sync with e | ⟨e, _⟩ <;> omega, h.first, fun e => (by rw [hp.over] at e; cases e), h.small, hsz, hbo, hp.on⟩
    · refine ⟨by rw [allRecs_last, h.recs]; simp [numbered], by have := h.sy; rcases hp.sync with e | ⟨e, _⟩ <;> omega, fun _ => ?_, fun e => (by rw [hp.over] at e; cases e), ?_, hsz, hbo, hp.on⟩
      · by_cases e : ss = []
        · subst e
          rw [hlen0 rfl]; rfl
        · have := h.first e
          cases ss with
          | nil => exact absurd rfl e
          | cons y r => exact this
      · rw [lenOf_last, cont_new]; omega
theorem En.sync {L : List (List UInt8)} {d : ADisk} {al : ALog} {ss : List Seg} (h : En L d al ss) (hJ : J d al ss) (hL : L.length ≤ 41) :
    ∃ d' al' e, wSync d al = (d', al', e) ∧ ((En L d' al' ss ∧ J d' al' ss) ∨ (al'.over = true ∧ En L d' al' ss)) := by
  by_cases hs : ss = []
  · subst hs
    exact ⟨d, al, 0, sync_none hJ, Or.inl ⟨h, hJ⟩⟩
  · have hnx := h.next hs
    rcases sync_law hJ hs with ⟨d', e1, e2, _, _, _⟩ | ⟨_, e1, e2⟩
    · have hla : al.last = L.length := by unfold ALog.last; rw [hJ.next, hnx]; omega
      have hsm := h.small
      have hct := h.count hJ.live
      have hok := e2.alOk (by show al.size ≤ 16777216; rw [h.size]; decide) (by
        have := h.ok.1.next
        rw [hJ.next] at this
        exact this) (by have := h.ok.1.bytes; rw [hJ.bytes] at this; exact this) (by omega)
      exact ⟨d', _, 0, e1, Or.inl ⟨⟨h.recs, by show al.last ≤ _; omega, h.first, fun _ => hct, hsm, h.size, ⟨hok.1, by omega⟩, e2.on⟩, e2⟩⟩
    · exact ⟨d.fail, _, 15, e1, Or.inr ⟨rfl, h.recs, h.sy, h.first, fun e => (by cases e), h.small, h.size, ⟨⟨h.ok.1.size, h.ok.1.next, h.ok.1.bytes, h.ok.1.synced, h.ok.1.segs, h.ok.1.many⟩, h.ok.2⟩, e2⟩⟩
/-- what is opened behind a crash has what was synced. -/
theorem En.crash {L : List (List UInt8)} {d : ADisk} {al : ALog} {ss : List Seg} (h : En L d al ss) (keeps : List Int) : ∃ d' f, wOpen (d.crash keeps) 64 = (d', f, 0) ∧ al.synced ≤ f.recs.length := by
  have hl := h.len
  have hsy := h.sy
  rcases List.eq_nil_or_concat ss with rfl | ⟨pre, x, rfl⟩
  · have hL : L.length = 0 := by rw [← hl]; rfl
    obtain ⟨e1, _⟩ := open_bare (h.on.bare_of.crash keeps) rfl 64 (by decide) (by decide)
    exact ⟨_, _, e1, by omega⟩
  · rw [List.concat_eq_append] at *
    have hnx := h.next (by simp)
    rw [nextOf_last] at hnx
    have hpl : x.1 = 1 + (allRecs pre).length := by
      have hc := h.on.chain
      have hf := h.first (by simp)
      cases pre with
      | nil => have : x.1 = 1 := by simpa using hf
               rw [this]; rfl
      | cons y r =>
        have hy : y.1 = 1 := by simpa using hf
        have h1 := chain_next (dn := y :: r) (y := x) (r := []) hc (by simp)
        rw [h1, chain_total (chain_pre hc), hy]
    obtain ⟨u, _, hL, _⟩ := h.on.lies_of.crash keeps
    obtain ⟨d', ss', ht, hor⟩ := open_law hL rfl 64 (by decide) (by decide)
    rcases hor with ⟨e1, _, e3, _⟩ | ⟨e1, _⟩
    · refine ⟨d', _, e1, ?_⟩
      rw [e3]
      rcases ht with ⟨rfl, h2⟩ | ⟨k, rfl, h2, h3⟩
      · omega
      · rw [allRecs_last, List.length_append, numbered_len4, List.length_take]
        rw [allRecs_last, List.length_append, numbered_len4] at hl
        by_cases hxs : x.1 ≤ al.synced
        · have := h3 hxs
          omega
        · omega
    · exact absurd rfl e1
theorem wAppend_over {d : ADisk} {al : ALog} (h : al.over = true) (n : Int) (b : List UInt8) : wAppend d al n b = (d, al, 16) := by unfold wAppend; rw [if_pos h]
theorem wSync_over {d : ADisk} {al : ALog} (h : al.over = true) : wSync d al = (d, al, 16) := by unfold wSync; rw [if_pos h]
theorem wTrim_over {d : ADisk} {al : ALog} (h : al.over = true) (n : Int) : wTrim d al n = (d, al, [], 16) := by unfold wTrim; rw [if_pos h]
end Go.Proofs.YtbiadclmonakkaaGreatDoor
