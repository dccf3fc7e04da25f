/-
  A commit's loop in memory: what stands from round to round.
-/
import Derived.Lib.SlBytesConst
import Derived.Test.YtbepcjajbcecnaaGreatDoorMByA
import Derived.Test.YtbepcjajbcecnaaGreatDoorMPmB
import Derived.Test.YtbepcjajbcecnaaGreatDoorMPgA
import Derived.BigRegion
import Derived.Deep.CutRange
namespace Go.Proofs.YtbepcjajbcecnaaGreatDoor
open Go.RowKit Go.Maps Go.MapKept
set_option linter.unusedSimpArgs false

/-- the index's bytes so far. -/
def outI (K n : Nat) (P : List (ByteArray × ABlob)) : List UInt8 := magicI ++ (vint K ++ (vint n ++ entsOf P))
theorem outI_snoc (K n : Nat) (P : List (ByteArray × ABlob)) (s : ByteArray) (x : ABlob) : outI K n (P ++ [(s, x)]) = outI K n P ++ (vint s.size ++ s.data.toList) ++ vint x.pack ++ vint x.pos ++ vint x.b.length := by
  unfold outI
  rw [entsOf_snoc]
  unfold entBytes
  simp [List.append_assoc]
/-- what stands in each world between. -/
structure CKeep (w1 wr : World) (mkN : Nat) (S : Nat → Prop) (obo : Option Nat) (K n : Nat) (g' : Value → Option Value) (P : List (ByteArray × ABlob)) (out pack : List UInt8) (vp vo : Value) : Prop where
  keys : KeysAt wr mkN S g' P
  rp : wr.ownsRow w1.heap.size 5 1 vp pack.length (bcells pack)
  ro : wr.ownsRow (mkN + 1) 5 1 vo out.length (bcells out)
  apart : ∀ b, vp.ownBlock = some b → vo.ownBlock ≠ some b
  blk : ∀ b, vo.ownBlock = some b → obo = some b ∨ w1.heap.size ≤ b
  upd : Upd (fun k => k = mkN ∨ obo = some k) w1 wr
section
variable {w1 wr w2 : World} {mkN : Nat} {S : Nat → Prop} {obo : Option Nat} {K n : Nat} {g' : Value → Option Value} {P : List (ByteArray × ABlob)} {out pack : List UInt8} {vp vo : Value}
theorem CKeep.below (h : CKeep w1 wr mkN S obo K n g' P out pack vp vo) (hB : Below wr.heap.size wr w2) : CKeep w1 w2 mkN S obo K n g' P out pack vp vo :=
  have hU : Upd noFp wr w2 := Upd.ofBelow hB
  ⟨h.keys.upd hU (fun h => h) (fun _ _ h => h), hU.row h.rp (fun _ _ h => h), hU.row h.ro (fun _ _ h => h), h.apart, h.blk, h.upd.thenBelow hB h.upd.size⟩
/-- blocks that are new are turned. -/
theorem CKeep.fresh {bx : Nat} (h : CKeep w1 wr mkN S obo K n g' P out pack vp vo) (hx : w1.heap.size ≤ bx) (hmk : mkN < w1.heap.size) (hS : ∀ k, S k → k < mkN) (hp : vp.ownBlock ≠ some bx) (ho : vo.ownBlock ≠ some bx) (hU : Upd (· = bx) wr w2) : CKeep w1 w2 mkN S obo K n g' P out pack vp vo :=
  ⟨h.keys.upd hU (fun e => by omega) (fun k hk e => by have := hS k hk; omega), hU.row h.rp (fun g hg e => hp (e ▸ hg)), hU.row h.ro (fun g hg e => ho (e ▸ hg)), h.apart, h.blk, h.upd.trans hU (fun k hk => Or.inr (by omega))⟩
/-- the pack grows. -/
theorem CKeep.packed {w3 : World} {pack' : List UInt8} {vp' : Value} (h : CKeep w1 wr mkN S obo K n g' P out pack vp vo) (hmk : mkN < w1.heap.size) (hS : ∀ k, S k → k < mkN) (hB : Below wr.heap.size wr w2) (h1 : w3.ownsRow 0 5 1 vp' pack'.length (bcells pack')) (h2 : w2.grownBy w3 vp.ownBlock) (h3 : vp'.ownBlock = vp.ownBlock ∨ ∃ g, vp'.ownBlock = some g ∧ w2.heap.size ≤ g) :
    CKeep w1 w3 mkN S obo K n g' P out pack' vp' vo := by
  have hx := h.below hB
  have hU : Upd (fun k => vp.ownBlock = some k) w2 w3 := (Upd.refl _ w2).grown h2 (fun k hk => Or.inl hk)
  have hlo : ∀ k, vp.ownBlock = some k → w1.heap.size ≤ k := fun k hk => row_from h.rp hk
  have hs := hx.upd.size
  refine ⟨hx.keys.upd hU (fun e => by have := hlo _ e; omega) (fun k hk e => by have := hS k hk; have := hlo _ e; omega), ownsRow_from h1 (fun b hb => ?_), hU.row hx.ro (fun b hb e => h.apart b e hb), fun b hb => ?_, h.blk, hx.upd.trans hU (fun k hk => Or.inr (hlo k hk))⟩
  · rcases h3 with h3 | ⟨b', h3, h4⟩
    · exact hlo b (h3 ▸ hb)
    · rw [h3] at hb; cases hb; omega
  · rcases h3 with h3 | ⟨b', h3, h4⟩
    · exact h.apart b (h3 ▸ hb)
    · rw [h3] at hb; cases hb
      intro e
      have := row_lt hx.ro e
      omega
/-- the index's bytes grow. -/
theorem CKeep.grew {w3 : World} {out' : List UInt8} {vo' : Value} (h : CKeep w1 wr mkN S obo K n g' P out pack vp vo) (hmk : mkN < w1.heap.size) (hS : ∀ k, S k → k < mkN) (hB : Below wr.heap.size wr w2) (hG : Grew w2 vo out' vo' w3) :
    CKeep w1 w3 mkN S obo K n g' P out' pack vp vo' := by
  have hx := h.below hB
  have hlo : ∀ k, vo.ownBlock = some k → mkN + 1 ≤ k := fun k hk => row_from h.ro hk
  have hs := hx.upd.size
  refine ⟨hx.keys.upd hG.upd (fun e => by have := hlo _ e; omega) (fun k hk e => by have := hS k hk; have := hlo _ e; omega), hG.upd.row hx.rp (fun b hb e => h.apart b hb e), ownsRow_from hG.row (fun b hb => ?_), fun b hb => ?_, fun b hb => ?_, hx.upd.trans hG.upd (fun k hk => ?_)⟩
  · rcases hG.blk with h3 | ⟨b', h3, h4⟩
    · exact hlo b (h3 ▸ hb)
    · rw [h3] at hb; cases hb; omega
  · rcases hG.blk with h3 | ⟨b', h3, h4⟩
    · rw [h3]; exact h.apart b hb
    · rw [h3]
      intro e
      cases e
      have := row_lt hx.rp hb
      omega
  · rcases hG.blk with h3 | ⟨b', h3, h4⟩
    · exact h.blk b (h3 ▸ hb)
    · rw [h3] at hb; cases hb; exact Or.inr (by omega)
  · rcases h.blk k hk with e | e
    · exact Or.inl (Or.inr e)
    · exact Or.inr e
open Classical in
/-- a key is stored. -/
theorem CKeep.stored {s : ByteArray} {x : ABlob} {vb : Value} (h : CKeep w1 wr mkN S obo K n g' P out pack vp vo) (hmk : mkN < w1.heap.size) (hS : ∀ k, S k → k < mkN) (hl : ∀ p ∈ P, ltS p.1 s = true) (hU : Upd (· = mkN) wr w2) (hr : Rd wr vb (bcells x.b)) (hb : ∀ k, vb.ownBlock = some k → S k)
    (hm : MapIs Tryz.prog 9 w2 mkN (P ++ [(s, x)]).length (fun y => if y = .string s then some (.agg #[vb, .int .i64 x.pack, .int .i64 x.pos]) else g' y)) :
    CKeep w1 w2 mkN S obo K n (fun y => if y = .string s then some (.agg #[vb, .int .i64 x.pack, .int .i64 x.pos]) else g' y) (P ++ [(s, x)]) out pack vp vo := by
  have hlo : ∀ k, vo.ownBlock = some k → mkN + 1 ≤ k := fun k hk => row_from h.ro hk
  have hlp : ∀ k, vp.ownBlock = some k → w1.heap.size ≤ k := fun k hk => row_from h.rp hk
  rw [← putB_last x hl] at hm ⊢
  have hk := h.keys.stored s x vb hm hU (fun k hk e => by have := hS k hk; omega) (hr.keep hU (fun k hk e => by have := hS k (hb k hk); omega))
  refine ⟨⟨hk.map, hk.dom, fun t y hy => ?_⟩, hU.row h.rp (fun b hb e => by have := hlp b hb; omega), hU.row h.ro (fun b hb e => by have := hlo b hb; omega), h.apart, h.blk, h.upd.trans hU (fun k hk => Or.inl (Or.inl hk))⟩
  obtain ⟨vc, a1, a2, a3⟩ := hk.val t y hy
  exact ⟨vc, a1, a2, fun k hk => (a3 k hk).elim id (hb k)⟩
end
theorem Src.own {w : World} {v : Value} {l : List UInt8} (h : w.ownsRow 0 5 1 v l.length (bcells l)) : Src w v l := Or.inl h
theorem rd_str {w' : World} {b c : Nat} (s : ByteArray) (h : ∀ j, j < s.size → w'.cell? ⟨b, j, none⟩ = some (.int .u8 (byteAt s j).toNat)) : Rd w' (.slice (some ⟨b, 0, none⟩) s.size c) (bcells s.data.toList) := by
  refine Or.inr ⟨b, 0, s.size, c, rfl, by rw [bcells_length, size_list], fun j u hu => ?_⟩
  have hj : j < s.data.toList.length := by
    have := (List.getElem?_eq_some_iff.1 hu).1
    rwa [bcells_length] at this
  rw [bcells_at hj] at hu
  cases hu
  rw [Nat.zero_add, h j (by rwa [size_list] at hj)]
  unfold byteAt
  rw [List.getD_eq_getElem?_getD, List.getElem?_eq_getElem hj]
  rfl
theorem info_fn5 : (Tryz.prog.info? 99).map (fun i => (i.zero, i.size, i.bytes)) = some (some .nilFunc, 1, 8) := by kernel_rfl
theorem fn_one (l : List (Nat × Array Value)) : ∀ u ∈ l.map fnVal, u.oneCell' = true := fun u hu => by obtain ⟨_, _, rfl⟩ := List.mem_map.1 hu; rfl
theorem append_fn {w : World} {ops : Array Oper} {rest : List Oper} {o : Oper} {a : Act} {Q : Exit → Act → World → Prop} (hgd : Region.wanted o (yielded ops a.tmps) = true) (s x : Operand)
    (ho : o.op = .call { callee := .builtin .append, args := #[s, x], argTypes := #[106, 106] })
    (v vx : Value) (l k r : List (Nat × Array Value)) (n j : Nat) (hn : n = l.length) (hj : n + k.length = j) (hr : l ++ k = r) (hs : a.eval s = v) (hown : w.ownsRow 0 99 1 v n (l.map fnVal)) (hx : a.eval x = vx) (hrd : Rd w vx (k.map fnVal)) (hb : l.length + k.length ≤ 1000)
    (h : ∀ a' c' w', w'.ownsRow 0 99 1 (.slice a' j c') j (r.map fnVal) → w.grownBy w' v.ownBlock → ((Value.slice a' j c').ownBlock = v.ownBlock ∨ ∃ g, (Value.slice a' j c').ownBlock = some g ∧ w.heap.size ≤ g) → wpList Tryz.prog ops Q rest (a.put o.dst (.slice a' j c')) w') : wpList Tryz.prog ops Q (o :: rest) a w := by
  subst hn
  subst hr
  subst hj
  obtain ⟨i0, hi, hz0, hz1, hz2⟩ := info_parts info_fn5
  refine wpList_append_rd hgd s x 106 ho 99 i0 .nilFunc 8 Tryz.underlying106 hi hz0 hz1 hz2 rfl v vx l.length k.length (l.map fnVal) (k.map fnVal) hs hown hx hrd (by simp) (fn_one k) (by simp only [maxLen]; omega) (by omega) ?_
  intro v' w' h1 h2 h3 _
  rw [← List.map_append] at h1
  obtain ⟨a', c', rfl⟩ : ∃ a c, v' = .slice a (l.length + k.length) c := by
    obtain ⟨_, ⟨rfl, e⟩ | ⟨g, cap, _, rfl, _⟩⟩ := h1
    · exact ⟨none, 0, by rw [e]⟩
    · exact ⟨_, _, rfl⟩
  exact h a' c' w' h1 h2 h3
theorem step_append5 {P : Program} {w : World} {ops : Array Oper} {o : Oper} {a : Act} {K : Act → World → Prop} {Q : Exit → Act → World → Prop} {E : Prop} (hgd : o.guard = none) (s x : Operand) (t : TypeId)
    (ho : o.op = .call { callee := .builtin .append, args := #[s, x], argTypes := #[t, t] }) (v vx v' : Value) (w' : World) (hs : a.eval s = v) (hx : a.eval x = vx) (ty : TypeId) (hty : o.type = ty)
    (hrun : (Builtin.append_ #[t, t] ty #[v, vx]).run P w = .ok v' w') (h : K (a.put o.dst v') w') : if Region.wanted o (yielded ops a.tmps) = true then Oper.wp P o a w K Q else E := by
  subst hty
  have hw : Region.wanted o (yielded ops a.tmps) = true := by simp [Region.wanted, hgd]
  rw [if_pos hw]
  unfold Oper.wp execOp
  simp only [ho, resolve, invoke, builtin, Sem.run_bind, Sem.run_pure, Result.andThen_ok, List.map_toArray, List.map_cons, List.map_nil, hs, hx, hrun]
  exact h
theorem run_append_fn {w : World} (v vx : Value) (l k r : List (Nat × Array Value)) (n j : Nat) (hn : n = l.length) (hj : n + k.length = j) (hr : l ++ k = r) (hown : w.ownsRow 0 99 1 v n (l.map fnVal)) (hrd : Rd w vx (k.map fnVal)) (hb : l.length + k.length ≤ 1000) :
    ∃ a' c' w', (Builtin.append_ #[106, 106] 106 #[v, vx]).run Tryz.prog w = .ok (.slice a' j c') w' ∧ w'.ownsRow 0 99 1 (.slice a' j c') j (r.map fnVal) ∧ w.grownBy w' v.ownBlock ∧ ((Value.slice a' j c').ownBlock = v.ownBlock ∨ ∃ g, (Value.slice a' j c').ownBlock = some g ∧ w.heap.size ≤ g) := by
  subst hn
  subst hr
  subst hj
  obtain ⟨i0, hi, hz0, hz1, hz2⟩ := info_parts info_fn5
  obtain ⟨v', w', h0, h1, h2, h3, _⟩ := run_append_rd (P := Tryz.prog) w 106 106 99 i0 .nilFunc 8 Tryz.underlying106 hi hz0 hz1 hz2 rfl v vx l.length k.length (l.map fnVal) (k.map fnVal) hown hrd (by simp) (fn_one k) (by simp only [maxLen]; omega) (by omega)
  rw [← List.map_append] at h1
  obtain ⟨a', c', rfl⟩ : ∃ a c, v' = .slice a (l.length + k.length) c := by
    obtain ⟨_, ⟨rfl, e⟩ | ⟨g, cap, _, rfl, _⟩⟩ := h1
    · exact ⟨none, 0, by rw [e]⟩
    · exact ⟨_, _, rfl⟩
  exact ⟨a', c', w', h0, h1, h2, h3⟩
/-- a slice of closures that was just laid. -/
theorem fn_row {w : World} {r : Nat} {l : List (Nat × Array Value)} {base : Nat} (h : w.heap[r]? = some (.cells (l.map fnVal).toArray 99 (0, 0))) (hb : base ≤ r) (hl : l.length ≤ 1000) : w.ownsRow base 99 1 (.slice (some ⟨r, 0, none⟩) l.length l.length) l.length (l.map fnVal) :=
  ⟨by simp, .inr ⟨r, l.length, (l.map fnVal).toArray, rfl, hb, h, Nat.le_refl _, by simp only [maxLen]; omega, by simp, by rw [Nat.mul_one]; simp [List.take_of_length_le]⟩⟩
/-- a row of closures, cell by cell. -/
theorem fn_cells {w : World} {base n : Nat} {a : Option Addr} {c : Nat} {l : List (Nat × Array Value)} (h : w.ownsRow base 99 1 (.slice a n c) n (l.map fnVal)) (hn : n = l.length) (h0 : 0 < n) : ∃ r, a = some ⟨r, 0, none⟩ ∧ ∀ j (hj : j < l.length), w.cell? ⟨r, j, none⟩ = some (fnVal l[j]) := by
  have hr := Rd.ofOwns h
  obtain ⟨_, ⟨e, e2⟩ | ⟨g, cap, cur, e, _⟩⟩ := h
  · omega
  · cases e
    refine ⟨g, rfl, fun j hj => ?_⟩
    rcases hr with ⟨_, e⟩ | ⟨b, off, n', c', e, _, hc⟩
    · have := congrArg List.length e; simp at this; subst this; simp at hj
    · cases e
      have := hc j (fnVal l[j]) (by simp [hj])
      rw [Nat.zero_add] at this
      exact this
def cmFn (bs bk : Nat) : Nat × Array Value := (54, #[.pointer (some ⟨bs, 0, none⟩), .pointer (some ⟨bk, 0, none⟩)])
/-- closures that do the steps, one by one. -/
def Al (E : Nat → Prop) (p m : Nat) (w : World) (FS : List (Nat × Array Value)) (ss : List (ADisk → ADisk × Int)) : Prop := FS.length = ss.length ∧ ∀ j (hj : j < FS.length) (hs : j < ss.length), StepC E p m FS[j] ss[j] w ∧ Enters FS[j]
theorem Al.app {E : Nat → Prop} {p m : Nat} {w : World} {A B : List (Nat × Array Value)} {a b : List (ADisk → ADisk × Int)} (h1 : Al E p m w A a) (h2 : Al E p m w B b) : Al E p m w (A ++ B) (a ++ b) := by
  refine ⟨by rw [List.length_append, List.length_append, h1.1, h2.1], fun j hj hs => ?_⟩
  have e := h1.1
  by_cases hlt : j < A.length
  · rw [List.getElem_append_left hlt, List.getElem_append_left (by omega)]
    exact h1.2 j hlt (by omega)
  · rw [List.getElem_append_right (by omega), List.getElem_append_right (by omega)]
    rw [List.length_append] at hj hs
    have := h2.2 (j - A.length) (by omega) (by omega)
    simpa only [e] using this
theorem Al.nil {E : Nat → Prop} {p m : Nat} {w : World} : Al E p m w [] [] := ⟨rfl, fun j hj _ => absurd hj (by simp)⟩
theorem FBox.al {E : Nat → Prop} {w : World} {q p m bs bn bb : Nat} {s : ByteArray} {vb : Value} {b : List UInt8} (h : FBox E w q p bs bn bb s vb b) : Al E p m w (fileFns bs bn bb) (fileS s b) := by
  refine ⟨rfl, fun j hj _ => ?_⟩
  have hj3 : j < 3 := hj
  obtain rfl | rfl | rfl : j = 0 ∨ j = 1 ∨ j = 2 := by omega
  · exact ⟨pgfile1_at h, ent_pgfile1 _⟩
  · exact ⟨pgfile2_at h, ent_pgfile2 _⟩
  · exact ⟨pgfile3_at h, ent_pgfile3 _⟩
theorem RBox.al {E : Nat → Prop} {w : World} {q p m bs bn n : Nat} (h : RBox E w q p bs bn n) : Al E p m w [cmFn bs bn] [renS freshI (iName n)] := by
  refine ⟨rfl, fun j hj _ => ?_⟩
  have hj1 : j < 1 := hj
  obtain rfl : j = 0 := by omega
  exact ⟨pgCommit1_at h, ent_pgCommit1 _⟩
theorem cm_run {E : Nat → Prop} {w : World} {q p m K base b1 b2 b3 c1 c2 c3 bs bk n c : Nat} {a : Option Addr} {d : ADisk} {s0 : Bool} {cK : ByteArray} {pack I : List UInt8} {vp vI : Value} {fs : List (Nat × Array Value)}
    (hD : DiskAt E w p m d) (h0 : s0 = false → fs = []) (h1 : s0 = true → fs = fileFns b1 b2 b3 ∧ FBox E w q p b1 b2 b3 cK vp pack) (hF : FBox E w q p c1 c2 c3 freshI vI I) (hR : RBox E w q p bs bk K)
    (hrow : w.ownsRow base 99 1 (.slice a n c) n (((fs ++ fileFns c1 c2 c3) ++ [cmFn bs bk]).map fnVal)) (hn : n = fs.length + 4) (hE : ∀ g, (Value.slice a n c).ownBlock = some g → E g)
    {ss : List (ADisk → ADisk × Int)} (hss : ss = (if s0 then fileS cK pack else []) ++ (fileS freshI I ++ [renS freshI (iName K)])) :
    Calls Tryz.prog 56 #[.slice a n c] w fun e w' => e = .returned (.int .i64 (runS ss d).2) ∧ DiskAt E w' p m (runS ss d).1 ∧ Keep E w w' := by
  have hfs : Al E p m w fs (if s0 then fileS cK pack else []) := by
    cases s0 with
    | true => rw [(h1 rfl).1]; exact (h1 rfl).2.al
    | false => rw [h0 rfl]; exact Al.nil
  have hl3 : fs.length ≤ 3 := by
    cases s0 with
    | true => rw [(h1 rfl).1]; exact Nat.le_refl 3
    | false => rw [h0 rfl]; exact Nat.zero_le _
  have hal : Al E p m w ((fs ++ fileFns c1 c2 c3) ++ [cmFn bs bk]) ss := by
    rw [hss, List.append_assoc]
    exact hfs.app (hF.al.app hR.al)
  have hlen : n = ((fs ++ fileFns c1 c2 c3) ++ [cmFn bs bk]).length := by
    rw [hn]; simp [fileFns]
  obtain ⟨r, rfl, hc⟩ := fn_cells hrow hlen (by omega)
  exact pgsteps_at r n c _ ss hlen.symm (by rw [← hal.1, ← hlen]) (by omega) hD (fun w' hk j hj => (hk.cell (hE r rfl) j).trans (hc j hj)) (fun j hj => (hal.2 j hj (by rw [← hal.1]; exact hj)).2) (fun j hj hs => (hal.2 j hj hs).1)
/-- what the disk's steps must leave as it is. -/
def CmEx (ex : Nat → Prop) (q mk mh : Nat) (S : Nat → Prop) (N M : Nat) (k : Nat) : Prop := (ex k ∨ k = q ∨ k = mk ∨ k = mh ∨ S k) ∨ (N ≤ k ∧ k < M)
section
variable {ex : Nat → Prop} {w w5 w6 w7 w8 w9 : World} {q p m : Nat} {d d' : ADisk} {st st' : AStore} {mk mh mkN mh' : Nat} {S : Nat → Prop} {g g' : Value → Option Value}
theorem StoreV.cmEx (hv : StoreV ex w q p m d st mk mh S g) (hB : Below w.heap.size w w5) : DiskAt (CmEx ex q mk mh S w.heap.size w5.heap.size) w5 p m d := hv.disk.more hB (fun _ hk => hk)
theorem StoreV.cm_back (hv : StoreV ex w q p m d st mk mh S g) (hB : Below w.heap.size w w5) (hD : DiskAt (CmEx ex q mk mh S w.heap.size w5.heap.size) w6 p m d') (hK : Keep (CmEx ex q mk mh S w.heap.size w5.heap.size) w5 w6) : StoreV ex w6 q p m d' st mk mh S g ∧ Keep ex w w6 := by
  obtain ⟨h1, h2⟩ := (hv.below hB).disk_turned (hD.mono (fun _ hk => Or.inl hk)) (hK.mono (fun _ hk => Or.inl hk))
  exact ⟨h1, (Keep.ofBelow hB (fun k hk => hv.lt hk)).trans h2⟩
theorem StoreV.committed (hv : StoreV ex w q p m d st mk mh S g) (hB : Below w.heap.size w w5) (hD : DiskAt (CmEx ex q mk mh S w.heap.size w5.heap.size) w6 p m d') (hK : Keep (CmEx ex q mk mh S w.heap.size w5.heap.size) w5 w6)
    (hU7 : Upd (· = q) w6 w7) (hB8 : Below w7.heap.size w7 w8) (hU9 : Upd (· = q) w8 w9) (hblk : w9.heap[q]? = some (.cells (storeCells p mkN mh' st') 59 (0, 0))) (hk : KeysAt w5 mkN S g' st'.keys) (hh : HeldAt w8 mh' st'.held) (hm : w.heap.size ≤ mkN ∧ mkN < w5.heap.size) (hmh : w7.heap.size ≤ mh' ∧ mh' < w8.heap.size) :
    StoreV ex w9 q p m d' st' mkN mh' S g' ∧ Keep ex w w9 := by
  obtain ⟨h6, k6⟩ := hv.cm_back hB hD hK
  have hq := hv.q_lt
  have hs5 := hK.size
  have hs7 := hU7.size
  have hs8 := hB8.size
  have hSl : ∀ k, S k → k < w.heap.size := fun k hk => hv.s_lt hk
  have hel : ∀ k, ex k → k < w.heap.size := fun k hk => hv.lt hk
  have hw := hB.size
  have hUB : Upd noFp w7 w8 := Upd.ofBelow hB8
  refine ⟨⟨hblk, ?_, ?_, ?_, ⟨hv.own.1, fun e => by have := hel _ e; omega, fun e => by have := hel _ e; omega⟩, fun k hk => ⟨(hv.ownS k hk).1, (hv.ownS k hk).2.1, fun e => by have := hSl k hk; omega, fun e => by have := hSl k hk; omega⟩, ⟨by omega, by omega, by omega⟩⟩, ?_⟩
  · have h1 : KeysAt w6 mkN S g' st'.keys := hk.upd hK.toUpd5 (fun e => e (Or.inr ⟨hm.1, hm.2⟩)) (fun k hk e => e (Or.inl (Or.inr (Or.inr (Or.inr (Or.inr hk))))))
    have h2 := h1.upd hU7 (fun e => by omega) (fun k hk e => (hv.ownS k hk).2.1 e)
    have h3 := h2.upd hUB (fun e => e) (fun _ _ e => e)
    exact h3.upd hU9 (fun e => by omega) (fun k hk e => (hv.ownS k hk).2.1 e)
  · exact hh.upd hU9 (fun e => by omega)
  · have h1 : DiskAt (fun k => (ex k ∨ k = q ∨ k = mkN ∨ S k)) w6 p m d' := hD.mono (fun k hk => by
      rcases hk with hk | hk | hk | hk
      · exact Or.inl (Or.inl hk)
      · exact Or.inl (Or.inr (Or.inl hk))
      · subst hk; exact Or.inr ⟨hm.1, hm.2⟩
      · exact Or.inl (Or.inr (Or.inr (Or.inr (Or.inr hk)))))
    have h2 := h1.upd hU7 (fun k _ hk => Or.inr (Or.inl hk))
    have h3 : DiskAt (fun k => ex k ∨ k = q ∨ k = mkN ∨ k = mh' ∨ S k) w8 p m d' := h2.more hB8 (fun k hk => by
      rcases hk with hk | hk | hk | hk | hk
      · exact Or.inl (Or.inl hk)
      · exact Or.inl (Or.inr (Or.inl hk))
      · exact Or.inl (Or.inr (Or.inr (Or.inl hk)))
      · exact Or.inr ⟨by omega, by omega⟩
      · exact Or.inl (Or.inr (Or.inr (Or.inr hk))))
    exact h3.upd hU9 (fun k _ hk => Or.inr (Or.inl hk))
  · have hne : ∀ k, ex k → k ≠ q := fun k hk e => hv.own.1 (e ▸ hk)
    exact ((k6.trans (Keep.ofUpd hU7 (fun k hk => ⟨by have := hel k hk; omega, hne k hk⟩))).trans (Keep.ofBelow hB8 (fun k hk => by have := hel k hk; omega))).trans (Keep.ofUpd hU9 (fun k hk => ⟨by have := hel k hk; omega, hne k hk⟩))
end
/-- the steps' slice behind the index's file. -/
structure CmMid (wr wx : World) (q : Nat) (s0 : Bool) (cK : ByteArray) (vp : Value) (I : List UInt8) (fs : List (Nat × Array Value)) (nf b1 b2 b3 : Nat) (dv2 : Value) (ai : Option Addr) (ci d1 d2 d3 : Nat) : Prop where
  row : wx.ownsRow wr.heap.size 99 1 dv2 (nf + 3) ((fs ++ fileFns d1 d2 d3).map fnVal)
  bel : Below wr.heap.size wr wx
  rdI : Rd wx (.slice ai I.length ci) (bcells I)
  ownI : ∀ g, (Value.slice ai I.length ci).ownBlock = some g → wr.heap.size ≤ g ∧ g < wx.heap.size ∧ dv2.ownBlock ≠ some g
  bx2 : wx.cell? ⟨d1, 0, none⟩ = some (.pointer (some ⟨q, 0, none⟩)) ∧ wx.cell? ⟨d2, 0, none⟩ = some (.string freshI) ∧ wx.cell? ⟨d3, 0, none⟩ = some (.slice ai I.length ci)
  ne2 : (wr.heap.size ≤ d1 ∧ dv2.ownBlock ≠ some d1) ∧ (wr.heap.size ≤ d2 ∧ dv2.ownBlock ≠ some d2) ∧ (wr.heap.size ≤ d3 ∧ dv2.ownBlock ≠ some d3)
  bx1 : s0 = true → fs = fileFns b1 b2 b3 ∧ (wx.cell? ⟨b1, 0, none⟩ = some (.pointer (some ⟨q, 0, none⟩)) ∧ wx.cell? ⟨b2, 0, none⟩ = some (.string cK) ∧ wx.cell? ⟨b3, 0, none⟩ = some vp) ∧ (wr.heap.size ≤ b1 ∧ dv2.ownBlock ≠ some b1) ∧ (wr.heap.size ≤ b2 ∧ dv2.ownBlock ≠ some b2) ∧ (wr.heap.size ≤ b3 ∧ dv2.ownBlock ≠ some b3)
theorem cm_mid {wr we w1 w2 w3 : World} {q : Nat} {s0 : Bool} {cK : ByteArray} {vp : Value} {I : List UInt8} {fs : List (Nat × Array Value)} {nf b1 b2 b3 r : Nat} {dv v3 : Value} {ai : Option Addr} {ci d1 d2 d3 : Nat}
    (hrow : we.ownsRow wr.heap.size 99 1 dv nf (fs.map fnVal)) (hB6 : Below wr.heap.size wr we)
    (hf1 : s0 = true → fs = fileFns b1 b2 b3 ∧ we.cell? ⟨b1, 0, none⟩ = some (.pointer (some ⟨q, 0, none⟩)) ∧ we.cell? ⟨b2, 0, none⟩ = some (.string cK) ∧ we.cell? ⟨b3, 0, none⟩ = some vp ∧ (∀ g, dv.ownBlock = some g → b1 < g ∧ b2 < g ∧ b3 < g) ∧ wr.heap.size ≤ b1 ∧ wr.heap.size ≤ b2 ∧ wr.heap.size ≤ b3)
    (hri : w1.ownsRow we.drew.heap.size 5 1 (.slice ai I.length ci) I.length (bcells I)) (hB1 : Below we.drew.heap.size we.drew w1)
    (hfs : w2.heap[r]? = some (.cells ((fileFns d1 d2 d3).map fnVal).toArray 99 (0, 0)) ∧ w2.cell? ⟨d1, 0, none⟩ = some (.pointer (some ⟨q, 0, none⟩)) ∧ w2.cell? ⟨d2, 0, none⟩ = some (.string freshI) ∧ w2.cell? ⟨d3, 0, none⟩ = some (.slice ai I.length ci) ∧ (w1.heap.size ≤ d1 ∧ d1 < r) ∧ (w1.heap.size ≤ d2 ∧ d2 < r) ∧ (w1.heap.size ≤ d3 ∧ d3 < r) ∧ Below w1.heap.size w1 w2)
    (hap : w3.ownsRow 0 99 1 v3 (nf + 3) ((fs ++ fileFns d1 d2 d3).map fnVal) ∧ w2.grownBy w3 dv.ownBlock ∧ (v3.ownBlock = dv.ownBlock ∨ ∃ g, v3.ownBlock = some g ∧ w2.heap.size ≤ g)) :
    CmMid wr w3 q s0 cK vp I fs nf b1 b2 b3 v3 ai ci d1 d2 d3 := by
  obtain ⟨h1, h2, h3⟩ := hap
  obtain ⟨f1, f2, f3, f4, f5, f6, f7, f8⟩ := hfs
  have hB1' : Below we.heap.size we w1 := ((Below.refl _ we).drew).trans hB1
  have hri' : w1.ownsRow we.heap.size 5 1 (.slice ai I.length ci) I.length (bcells I) := hri
  have hUw : Upd noFp we w2 := Upd.ofBelow (hB1'.trans (f8.mono hB1'.size))
  have hU3 : Upd (fun k => dv.ownBlock = some k) w2 w3 := (Upd.refl _ w2).grown h2 (fun k hk => Or.inl hk)
  have hdv : ∀ g, dv.ownBlock = some g → wr.heap.size ≤ g ∧ g < we.heap.size := fun g hg => ⟨row_from hrow hg, row_lt hrow hg⟩
  have s1 := hB6.size
  have s2 := hB1'.size
  have s3 := f8.size
  have hnew : ∀ k, we.heap.size ≤ k → k < w2.heap.size → v3.ownBlock ≠ some k := fun k hk hk2 e => by
    rcases h3 with h3 | ⟨g, h3, h4⟩
    · rw [h3] at e; have := (hdv k e).2; omega
    · rw [h3] at e; cases e; omega
  have hdl : ∀ x, w2.cell? ⟨x, 0, none⟩ ≠ none → x < w2.heap.size := fun x hx => by
    cases h : w2.cell? ⟨x, 0, none⟩ with
    | none => exact absurd h hx
    | some v => exact cell_lt h
  have hc : ∀ x v, w2.cell? ⟨x, 0, none⟩ = some v → we.heap.size ≤ x → w3.cell? ⟨x, 0, none⟩ = some v ∧ v3.ownBlock ≠ some x := fun x v hx hk =>
    ⟨(hU3.cell (cell_lt hx) (fun e => by have := (hdv x e).2; omega) 0).trans hx, hnew x hk (cell_lt hx)⟩
  obtain ⟨c1, n1⟩ := hc _ _ f2 (by omega)
  obtain ⟨c2, n2⟩ := hc _ _ f3 (by omega)
  obtain ⟨c3, n3⟩ := hc _ _ f4 (by omega)
  refine ⟨ownsRow_from h1 (fun g hg => ?_), ?_, ?_, fun g hg => ?_, ⟨c1, c2, c3⟩, ⟨⟨by omega, n1⟩, ⟨by omega, n2⟩, ⟨by omega, n3⟩⟩, fun hs => ?_⟩
  · rcases h3 with h3 | ⟨g', h3, h4⟩
    · exact (hdv g (h3 ▸ hg)).1
    · rw [h3] at hg; cases hg; omega
  · exact hB6.trans (((Upd.refl (fun k => wr.heap.size ≤ k) we).trans hUw (fun k hk => hk.elim) |>.trans hU3 (fun k hk => Or.inl (hdv k hk).1)).below (fun k hk => hk) s1)
  · exact (((Rd.ofOwns hri').below f8)).keep hU3 (fun g hg e => by have := row_from hri' hg; have := (hdv g e).2; omega)
  · have a1 := row_from hri' hg
    have a2 := row_lt hri' hg
    exact ⟨by omega, by have := hU3.size; omega, hnew g a1 (by omega)⟩
  · obtain ⟨e1, e2, e3, e4, e5, e6, e7, e8⟩ := hf1 hs
    have hb : ∀ x v, we.cell? ⟨x, 0, none⟩ = some v → (∀ g, dv.ownBlock = some g → x < g) → w3.cell? ⟨x, 0, none⟩ = some v ∧ v3.ownBlock ≠ some x := fun x v hx hlt =>
      ⟨(hU3.cell (by have := cell_lt hx; omega) (fun e => by have := hlt x e; omega) 0).trans ((hUw.cell (cell_lt hx) (fun e => e) 0).trans hx), fun e => by
        rcases h3 with h3 | ⟨g, h3, h4⟩
        · rw [h3] at e; have := hlt x e; omega
        · rw [h3] at e; cases e; have := cell_lt hx; omega⟩
    obtain ⟨x1, y1⟩ := hb _ _ e2 (fun g hg => (e5 g hg).1)
    obtain ⟨x2, y2⟩ := hb _ _ e3 (fun g hg => (e5 g hg).2.1)
    obtain ⟨x3, y3⟩ := hb _ _ e4 (fun g hg => (e5 g hg).2.2)
    exact ⟨e1, ⟨x1, x2, x3⟩, ⟨e6, y1⟩, ⟨e7, y2⟩, ⟨e8, y3⟩⟩
theorem cm_last {ex : Nat → Prop} {w wr wx w5 : World} {q p m mk mh : Nat} {d : ADisk} {st : AStore} {S : Nat → Prop} {g : Value → Option Value} {K N8 : Nat} {s0 : Bool} {cK : ByteArray} {pack I : List UInt8} {vp : Value} {fs : List (Nat × Array Value)} {nf b1 b2 b3 : Nat} {dv2 : Value} {ai : Option Addr} {ci d1 d2 d3 : Nat} {a9 : Option Addr} {c9 : Nat} {o : Obj}
    (hv : StoreV ex w q p m d st mk mh S g) (hE : WEnv w) (hG : GlIn ex) (hKb : K ≤ 9007199254740992) (hcK : cK.size ≤ 17) (hpl : pack.length ≤ 4294967296) (hIl : I.length ≤ 4294967296) (hBr : Below w.heap.size w wr) (hm : CmMid wr wx q s0 cK vp I fs nf b1 b2 b3 dv2 ai ci d1 d2 d3)
    (hvp : wr.ownsRow N8 5 1 vp pack.length (bcells pack)) (hN8 : w.heap.size ≤ N8) (r1 : wr.cell? ⟨w.heap.size, 0, none⟩ = some (.pointer (some ⟨q, 0, none⟩))) (r2 : wr.cell? ⟨w.heap.size + 1, 0, none⟩ = some (.int .i64 K)) (hn : nf = fs.length) (h0 : s0 = false → fs = [])
    (hap : w5.ownsRow 0 99 1 (.slice a9 (nf + 3 + 1) c9) (nf + 3 + 1) (((fs ++ fileFns d1 d2 d3) ++ [cmFn w.heap.size (w.heap.size + 1)]).map fnVal) ∧ (wx.alloc o).grownBy w5 dv2.ownBlock ∧ ((Value.slice a9 (nf + 3 + 1) c9).ownBlock = dv2.ownBlock ∨ ∃ g, (Value.slice a9 (nf + 3 + 1) c9).ownBlock = some g ∧ wx.heap.size ≤ g))
    {ss : List (ADisk → ADisk × Int)} (hss : ss = (if s0 then fileS cK pack else []) ++ (fileS freshI I ++ [renS freshI (iName K)])) :
    Below wr.heap.size wr w5 ∧ Calls Tryz.prog 56 #[.slice a9 (nf + 3 + 1) c9] w5 fun e w' => e = .returned (.int .i64 (runS ss d).2) ∧ DiskAt (CmEx ex q mk mh S w.heap.size w5.heap.size) w' p m (runS ss d).1 ∧ Keep (CmEx ex q mk mh S w.heap.size w5.heap.size) w5 w' := by
  obtain ⟨g1, g2, g3⟩ := hap
  have hU : Upd (fun k => dv2.ownBlock = some k) wx w5 := ((Upd.refl _ wx).alloc o).grown g2 (fun k hk => Or.inl hk)
  have hdv : ∀ k, dv2.ownBlock = some k → wr.heap.size ≤ k := fun k hk => row_from hm.row hk
  have hB5 : Below wr.heap.size wr w5 := hm.bel.trans ((hU.mono (fp' := fun k => wr.heap.size ≤ k) (fun k hk => Or.inl (hdv k hk))).below (fun k hk => hk) hm.bel.size)
  have hBw : Below w.heap.size w w5 := hBr.trans (hB5.mono hBr.size)
  have s1 := hBr.size
  have s2 := hB5.size
  have s3 := hU.size
  have hx : ∀ b, w.heap.size ≤ b → b < w5.heap.size → CmEx ex q mk mh S w.heap.size w5.heap.size b := fun b h1 h2 => Or.inr ⟨h1, h2⟩
  have hxq : CmEx ex q mk mh S w.heap.size w5.heap.size q := Or.inl (Or.inr (Or.inl rfl))
  have hcq : w5.cell? ⟨q, 0, none⟩ = some (.pointer (some ⟨p, 0, none⟩)) := (cells5 (hv.below hBw).blk).1
  have hc : ∀ x v, wx.cell? ⟨x, 0, none⟩ = some v → dv2.ownBlock ≠ some x → w5.cell? ⟨x, 0, none⟩ = some v := fun x v h1 h2 => (hU.cell (cell_lt h1) h2 0).trans h1
  have hlt : ∀ x v, w5.cell? ⟨x, 0, none⟩ = some v → x < w5.heap.size := fun x v h => cell_lt h
  obtain ⟨⟨m1, m2⟩, ⟨m3, m4⟩, ⟨m5, m6⟩⟩ := hm.ne2
  have k1 := hc _ _ hm.bx2.1 m2
  have k2 := hc _ _ hm.bx2.2.1 m4
  have k3 := hc _ _ hm.bx2.2.2 m6
  have hF : FBox (CmEx ex q mk mh S w.heap.size w5.heap.size) w5 q p d1 d2 d3 freshI (.slice ai I.length ci) I :=
    ⟨k1, k2, k3, hcq, hm.rdI.keep hU (fun g hg e => (hm.ownI g hg).2.2 e), hx _ (by omega) (hlt _ _ k1), hx _ (by omega) (hlt _ _ k2), hx _ (by omega) (hlt _ _ k3), hxq, fun g hg => hx g (by have := (hm.ownI g hg).1; omega) (by have := (hm.ownI g hg).2.1; omega), by decide, by omega⟩
  have t1 := (hB5.cell (p := ⟨w.heap.size, 0, none⟩) (cell_lt r1)).trans r1
  have t2 := (hB5.cell (p := ⟨w.heap.size + 1, 0, none⟩) (cell_lt r2)).trans r2
  have hR : RBox (CmEx ex q mk mh S w.heap.size w5.heap.size) w5 q p w.heap.size (w.heap.size + 1) K :=
    ⟨t1, t2, hcq, hx _ (Nat.le_refl _) (hlt _ _ t1), hx _ (by omega) (hlt _ _ t2), hxq, hG.mono (fun k hk => Or.inl (Or.inl hk)), hE.below hBw, hKb⟩
  refine ⟨hB5, cm_run (b1 := b1) (b2 := b2) (b3 := b3) (vp := vp) (hv.cmEx hBw) h0 (fun hs => ?_) hF hR g1 (by rw [hn]) (fun b hb => ?_) hss⟩
  · obtain ⟨e1, ⟨x1, x2, x3⟩, ⟨y1, z1⟩, ⟨y2, z2⟩, ⟨y3, z3⟩⟩ := hm.bx1 hs
    have k1 := hc _ _ x1 z1
    have k2 := hc _ _ x2 z2
    have k3 := hc _ _ x3 z3
    exact ⟨e1, k1, k2, k3, hcq, (Rd.ofOwns hvp).below hB5, hx _ (by omega) (hlt _ _ k1), hx _ (by omega) (hlt _ _ k2), hx _ (by omega) (hlt _ _ k3), hxq, fun g hg => hx g (by have := row_from hvp hg; omega) (by have := row_lt hvp hg; omega), by simp only [maxLen]; omega, by omega⟩
  · rcases g3 with g3 | ⟨b', g3, g4⟩
    · exact hx b (by have := hdv b (g3 ▸ hb); omega) (row_lt g1 hb)
    · have hbb : b' = b := by rw [g3] at hb; exact Option.some.inj hb
      have := hm.bel.size
      exact hx b (by omega) (row_lt g1 hb)
theorem StoreV.cm_keys {ex : Nat → Prop} {w w5 w6 w7 : World} {q p m : Nat} {d : ADisk} {st : AStore} {mk mh mkN : Nat} {S : Nat → Prop} {g g' : Value → Option Value} {l : List (ByteArray × ABlob)} (hv : StoreV ex w q p m d st mk mh S g) (hK : Keep (CmEx ex q mk mh S w.heap.size w5.heap.size) w5 w6) (hU7 : Upd (· = q) w6 w7) (hk : KeysAt w5 mkN S g' l) (hm : w.heap.size ≤ mkN ∧ mkN < w5.heap.size) : KeysAt w7 mkN S g' l := by
  have hq := hv.q_lt
  have h1 : KeysAt w6 mkN S g' l := hk.upd hK.toUpd5 (fun e => e (Or.inr ⟨hm.1, hm.2⟩)) (fun k hk e => e (Or.inl (Or.inr (Or.inr (Or.inr (Or.inr hk))))))
  exact h1.upd hU7 (fun e => by omega) (fun k hk e => (hv.ownS k hk).2.1 e)
theorem cm_facts {st : AStore} {P : List (ByteArray × ABlob)} {pack : List UInt8} {s0 : Bool} (hcm : cmOf st = (P, pack, s0)) (hok : st.Ok) (hk : st.k < 9007199254740992) : SortedB P ∧ P.length ≤ 4096 ∧ ∀ p ∈ P, p.2.pack ≤ 9007199254740992 := by
  have hc : CmOk (decide (15 < (packsOf st.keys).length)) (st.k + 1) st.keys [] (cmOf st) := cm_ok _ _ _ _
  rw [hcm] at hc
  have h1 : contB P = contB st.keys := hc.cont
  refine ⟨sorted_names (contB_names h1) hok.sorted, by have := contB_len h1; have := hok.count; omega, fun p hp => ?_⟩
  rcases hc.each p hp with h | h
  · exact (hok.blob p h.1).1
  · rw [h.1]; omega
end Go.Proofs.YtbepcjajbcecnaaGreatDoor

/-
  A store's Commit.
-/
namespace Go.Proofs.YtbepcjajbcecnaaGreatDoor
open Go.RowKit Go.Maps Go.MapKept
set_option linter.unusedSimpArgs false

section
variable {ex : Nat → Prop} {w : World} {q p m : Nat} {d : ADisk} {st : AStore}
def CmPost (ex : Nat → Prop) (w : World) (q p m : Nat) (t : ADisk × AStore × Nat × Int) (e : Ending) (w' : World) : Prop := e = .returned (.tuple #[.int .i64 t.2.2.1, .int .i64 t.2.2.2]) ∧ StoreAt ex w' q p m t.1 t.2.1 ∧ Keep ex w w'
set_option maxRecDepth 100000 in
set_option maxHeartbeats 4000000 in
theorem pgCommit_good (h : StoreAt ex w q p m d st) (hok : st.Ok) (hE : WEnv w) (hG : GlIn ex) (ho : st.over = false) (hk : st.k < 9007199254740992) :
    Calls Tryz.prog 14 #[.pointer (some ⟨q, 0, none⟩)] w (CmPost ex w q p m (pCommit d st)) := by
  obtain ⟨mk, mh, S, g, hv⟩ := h
  have hup := fun w' (hB : Below w.heap.size w w') => pgup_at (⟨mk, mh, S, g, hv.below hB⟩ : StoreAt ex w' q p m d st)
  rw [ho] at hup
  have hpk := fun w' (hB : Below w.heap.size w w') => pgpacks_any w' q mk S g st.keys (cells5 (hv.below hB).blk).2.2.1 (hv.below hB).keys hok.sorted (fun p hp => (hok.blob p hp).1) hok.count
  obtain ⟨K, hK⟩ : ∃ K, st.k + 1 = K := ⟨_, rfl⟩
  have hKI : (st.k : Int) + 1 = (K : Int) := by omega
  obtain ⟨k0, hk0⟩ : ∃ k0, st.k = k0 := ⟨_, rfl⟩
  have hc := fun w' (hB : Below w.heap.size w w') => (cells5 (hv.below hB).blk)
  rw [hk0] at hKI hc
  have hne : ((k0 : Int) == 9007199254740992) = false := by simp; omega
  have hadd : IntKind.i64.wrap ((k0 : Int) + 1) = (k0 : Int) + 1 := IntWalk.i64_in _ (by omega)
  have hKb : K ≤ 9007199254740992 := by omega
  have hmm := @run_makeMap Tryz.prog
  obtain ⟨np, hnp⟩ : ∃ np, (packsOf st.keys).length = np := ⟨_, rfl⟩
  have hBB : Below w.heap.size w ((w.alloc (.cells #[.pointer (some ⟨q, 0, none⟩)] 24)).alloc (.cells #[.int .i64 K] 3)) := ((Below.refl _ _).alloc (Nat.le_refl _) _).alloc (by simp) _
  have hB0 : Below w.heap.size w (w.alloc (.cells #[.pointer (some ⟨q, 0, none⟩)] 24)) := (Below.refl _ _).alloc (Nat.le_refl _) _
  obtain ⟨d0, d1, _⟩ := hc _ hB0
  have HKe := Lib.hid hK
  have HU := Lib.hid hup
  have HP := Lib.hid hpk
  have HV := Lib.hid hv
  have Hc := Lib.hid hc
  clear hup hpk hv hc hk0 hK
  go_enter Tryz.func14, Tryz.ntmps14
  go_upto_region 11 with first
    | (go_at_call 47; refine (HU.out _ hB0).mono ?_; rintro e w1 ⟨rfl, rfl⟩)
    | (go_at_call 48; refine (HP.out _ hBB).mono ?_; rintro e w3 ⟨mh2, rfl, _, _, hH, hB3⟩; obtain ⟨gh, hgm, _⟩ := hH.map; rw [hnp] at hgm; clear hH)
    | (refine wpList_map_len rfl (.tmp 32) 57 3 3 rfl Tryz.underlying57 mh2 np gh hgm rfl ?_)
  have hBw3 : Below w.heap.size w w3 := hBB.trans (hB3.mono hBB.size)
  have hs3 : w.heap.size + 2 ≤ w3.heap.size := by have := hB3.size; simp at this; omega
  have b1 : w3.cell? ⟨w.heap.size, 0, none⟩ = some (.pointer (some ⟨q, 0, none⟩)) := (hB3.cell (p := ⟨w.heap.size, 0, none⟩) (by simp; omega)).trans (by rw [cell_at (alloc2_at0 _ _ _)]; rfl)
  have b2 : w3.cell? ⟨w.heap.size + 1, 0, none⟩ = some (.int .i64 K) := (hB3.cell (p := ⟨w.heap.size + 1, 0, none⟩) (by simp)).trans (by rw [cell_at (alloc2_at _ _ _)]; rfl)
  have hM0 := MapIs.made Tryz.prog 9 w3
  have hBa : Below w3.heap.size w3 (w3.alloc (.map #[] 0)) := (Below.refl _ _).alloc (Nat.le_refl _) _
  have b1' := (hBa.cell (p := ⟨w.heap.size, 0, none⟩) (by simp; omega)).trans b1
  have b2' := (hBa.cell (p := ⟨w.heap.size + 1, 0, none⟩) (by simp; omega)).trans b2
  have hBW := hBw3.trans (hBa.mono hBw3.size)
  have hWs : (w3.alloc (.map #[] 0)).heap.size = w3.heap.size + 1 := by simp
  obtain ⟨W, hW⟩ : ∃ W, w3.alloc (.map #[] 0) = W := ⟨_, rfl⟩
  rw [hW] at hBa b1' b2' hBW hWs hM0 ⊢
  obtain ⟨mkN, hmk⟩ : ∃ x, w3.heap.size = x := ⟨_, rfl⟩
  rw [hmk] at hWs hM0 hs3 ⊢
  clear hBw3 b1 b2 hBa hW hB3 hBB hB0 hgm hmm d0 d1 hmk
  have hM0 := Lib.hid hM0
  have hBW := Lib.hid hBW
  have kc := Lib.run_convert_bytes_const (P := Tryz.prog) W 25 5 #[.int .u8 72, .int .u8 83, .int .u8 73, .int .u8 49] 4 4 Tryz.underlying25 Tryz.underlying5
  rw [hWs] at kc
  go_upto_region 12 with fail
  clear kc
  obtain ⟨W1, hW1⟩ : ∃ x, W.alloc (.cells #[.int .u8 72, .int .u8 83, .int .u8 73, .int .u8 49] 5 (4, 5)) = x := ⟨_, rfl⟩
  have hBW1 : Below W.heap.size W W1 := by rw [← hW1]; exact (Below.refl _ _).alloc (Nat.le_refl _) _
  have hsrc : Src W1.drew (.slice (some ⟨mkN + 1, 0, none⟩) 4 4) magicI := by
    rw [← hWs, ← hW1]
    exact Or.inr ⟨(Rd_new W #[.int .u8 72, .int .u8 83, .int .u8 73, .int .u8 49] 5 (4, 5) (bcells magicI) 4 4 rfl rfl).below ((Below.refl _ _).drew), _, rfl, by decide⟩
  rw [hW1]
  clear hW1
  obtain ⟨nk, hnk⟩ : ∃ n, st.keys.length = n := ⟨_, rfl⟩
  have hnk4 : nk ≤ 4096 := by rw [← hnk]; exact hok.count
  obtain ⟨y1, hy1⟩ : ∃ y, magicI ++ vint K = y := ⟨_, rfl⟩
  obtain ⟨y2, hy2⟩ : ∃ y, y1 ++ vint nk = y := ⟨_, rfl⟩
  have hy2l : y2.length ≤ 24 := by
    have h1 : (vint K).length ≤ 10 := vint10 (by omega)
    have h2 : (vint nk).length ≤ 10 := vint10 (by omega)
    rw [← hy2, ← hy1, List.length_append, List.length_append, show magicI.length = 4 from rfl]; omega
  have hy1l : y1.length ≤ 14 := by
    have : (vint K).length ≤ 10 := vint10 (by omega)
    rw [← hy1, List.length_append, show magicI.length = 4 from rfl]; omega
  have hU1 := bUint_any W1.drew _ magicI K hsrc (by omega) (by decide)
  rw [hy1] at hU1
  have hU2 := fun w6 v6 (h6 : Src w6 v6 y1) => bUint_any w6 v6 y1 nk h6 (by omega) (by omega)
  rw [hy2] at hU2
  have hq0 : q < w.heap.size := HV.out.q_lt
  have hS1 : ∀ w', Below W.heap.size W w' → w'.cell? ⟨w.heap.size, 0, none⟩ = some (.pointer (some ⟨q, 0, none⟩)) ∧ w'.cell? ⟨w.heap.size + 1, 0, none⟩ = some (.int .i64 K) ∧ w'.cell? ⟨q, 2, none⟩ = some (.map (some mk)) ∧ (Builtin.len_ #[56] 3 #[.map (some mk)]).run Tryz.prog w' = .ok (.int .i64 nk) w' := fun w' hB =>
    ⟨(hB.cell (p := ⟨w.heap.size, 0, none⟩) (by simp; omega)).trans b1', (hB.cell (p := ⟨w.heap.size + 1, 0, none⟩) (by simp; omega)).trans b2', (Hc.out w' (hBW.out.trans (hB.mono hBW.out.size))).2.2.1, by
      rw [← hnk]
      exact (HV.out.below (hBW.out.trans (hB.mono hBW.out.size))).keys.map.run_len 56 3 Tryz.underlying56⟩
  have hgr : ∀ (wa wb : World) (v v' : Value) (l : List UInt8), Below W.heap.size W wa → (∀ g, v.ownBlock = some g → W.heap.size ≤ g) → Grew wa v l v' wb → Below W.heap.size W wb ∧ ∀ g, v'.ownBlock = some g → W.heap.size ≤ g := fun wa wb v v' l hB hv hG =>
    ⟨hB.trans (((hG.upd.mono (fp' := fun k => W.heap.size ≤ k) (fun k hk => Or.inl (hv k hk))).below (fun k hk => hk) hB.size)), fun g hg => by
      rcases hG.blk with e | ⟨g', e, hg'⟩
      · exact hv g (e ▸ hg)
      · rw [e] at hg; cases hg; exact Nat.le_trans hB.size hg'⟩
  have wK : IntKind.u64.wrap (K : Int) = K := IntWalk.u64_in _ (by omega)
  have wn : IntKind.u64.wrap (nk : Int) = nk := IntWalk.u64_in _ (by omega)
  have c1 := hS1 W1.drew hBW1.drew
  have hv0 : ∀ g, (Value.slice (some ⟨mkN + 1, 0, none⟩) 4 4).ownBlock = some g → W.heap.size ≤ g := fun g hg => by rw [hWs]; cases hg; exact Nat.le_refl _
  have HU1 := Lib.hid hU1
  have HU2 := Lib.hid hU2
  have HS1 := Lib.hid hS1
  have Hgr := Lib.hid hgr
  have HB1 := Lib.hid hBW1.drew
  have Hv0 := Lib.hid hv0
  have hnk := Lib.hid hnk
  have Hy := Lib.hid (And.intro hy1 hy2)
  clear hU1 hU2 hS1 hgr hBW1 hv0 hsrc hy1 hy2
  go_region_held3 (fun w'' => w''.cell? ⟨w.heap.size, 0, none⟩ = some (.pointer (some ⟨q, 0, none⟩)) ∧ w''.cell? ⟨w.heap.size + 1, 0, none⟩ = some (.int .i64 K) ∧ w''.cell? ⟨q, 2, none⟩ = some (.map (some mk)) ∧ (Builtin.len_ #[56] 3 #[.map (some mk)]).run Tryz.prog w'' = .ok (.int .i64 nk) w'') (first | with_reducible exact c1 | with_reducible exact S6 | with_reducible exact S7 | go_keep)
    (first
      | (go_at_call 49; with_reducible refine HU1.out.mono ?_; rintro e w6 ⟨a6, c6, rfl, hG6⟩; have h6 := Lib.hid (Hgr.out _ _ _ _ _ HB1.out Hv0.out hG6); have S6 := HS1.out w6 h6.out.1; have H6 := Lib.hid hG6; clear hG6)
      | (go_at_call 49; with_reducible refine (HU2.out w6 _ (Src.own H6.out.row)).mono ?_; rintro e w7 ⟨a7, c7, rfl, hG7⟩; have h7 := Lib.hid (Hgr.out _ _ _ _ _ h6.out.1 h6.out.2 hG7); have S7 := HS1.out w7 h7.out.1; have H7 := Lib.hid hG7; clear hG7))
  have hB7 := hBW.out.trans (h7.out.1.mono hBW.out.size)
  have hKy := pgKeys_at (⟨mk, mh, S, g, HV.out.below hB7⟩ : StoreAt ex w7 q p m d st) hok
  have hnl : st.names.length = nk := by unfold AStore.names; rw [List.length_map]; exact hnk.out
  unfold KeysPost at hKy
  rw [hnl] at hKy
  have HKy := Lib.hid hKy
  have HB7 := Lib.hid hB7
  have Hnl := Lib.hid hnl
  obtain ⟨e1, e2, e3, e4⟩ := S7
  clear hKy hB7 hnl e4 c1 b1' b2' S6
  go_upto_region 14 with (go_at_call 20; refine HKy.out.mono ?_; rintro e w8 ⟨an, cn, rfl, hrow, hB8⟩)
  obtain ⟨all, hall⟩ : ∃ b, decide (15 < (np : Int)) = b := ⟨_, rfl⟩
  rw [hall]
  have hall2 : decide (15 < (packsOf st.keys).length) = all := by rw [← hall, hnp]; exact decide_eq_decide.2 (by omega)
  have Hall := Lib.hid hall2
  clear hall hall2
  obtain ⟨obo, hobo⟩ : ∃ o, (Value.slice a7 y2.length c7).ownBlock = o := ⟨_, rfl⟩
  have hmkS : ∀ k, S k → k < mkN := fun k hk => by have := HV.out.s_lt hk; omega
  have hW8 : Below W.heap.size W w8 := h7.out.1.trans (hB8.mono h7.out.1.size)
  have hmk8 : mkN < w8.heap.size := by have := hW8.size; omega
  have hob : ∀ b, obo = some b → mkN + 1 ≤ b ∧ b < w7.heap.size := fun b hb => by
    rw [← hobo] at hb
    exact ⟨by have := h7.out.2 b hb; omega, row_lt H7.out.row hb⟩
  have hU8 : Upd noFp w7 w8 := Upd.ofBelow hB8
  have hK0 : CKeep w8 w8 mkN S obo K nk (fun _ => none) [] (outI K nk []) [] (.slice none 0 0) (.slice a7 y2.length c7) := by
    have e : outI K nk [] = y2 := by rw [← Hy.out.2, ← Hy.out.1]; simp [outI, entsOf]
    rw [e]
    refine ⟨⟨hM0.out.upd (Upd.ofBelow (fp := noFp) hW8) (fun h => h), fun key v hg => (by cases hg), fun s x hx => (by cases hx)⟩, World.ownsRow_nil _ _ _ _, ownsRow_from (hU8.row H7.out.row (fun _ _ h => h)) (fun b hb => ?_), fun b hb => (by cases hb), fun b hb => Or.inl (by rw [← hobo]; exact hb), Upd.refl _ _⟩
    have := h7.out.2 b hb; omega
  have hyo : y2 = outI K nk [] := by rw [← Hy.out.2, ← Hy.out.1]; simp [outI, entsOf]
  have hK0' : CmL all K st.keys [] [] false (st.keys.drop 0) := CmL.start _ _ _
  have hRd8 := Rd.ofOwns hrow
  have hnb : ∀ b, (Value.slice an nk cn).ownBlock = some b → w7.heap.size ≤ b := fun b hb => row_from hrow hb
  have f1 := (hB8.cell (p := ⟨w.heap.size, 0, none⟩) (cell_lt e1)).trans e1
  have f2 := (hB8.cell (p := ⟨w.heap.size + 1, 0, none⟩) (cell_lt e2)).trans e2
  have hB88 := HB7.out.trans (hB8.mono HB7.out.size)
  have HB8 := Lib.hid hB88
  have HK0 := Lib.hid (And.intro hK0 hK0')
  have Hyo := Lib.hid hyo
  have Hrd8 := Lib.hid hRd8
  have Hnb := Lib.hid hnb
  have Hob := Lib.hid hob
  have Hmk := Lib.hid (And.intro hmkS hmk8)
  have Hf := Lib.hid (And.intro f1 f2)
  have hnb7 : mkN + 1 ≤ w7.heap.size := by have := h7.out.1.size; omega
  clear hK0 hK0' hRd8 hnb hob hmkS hmk8 hB88 hyo hobo hU8 hW8 hB8 hrow f1 f2 e1 e2 e3
  go_loopw [8, 9, 10, 52] (fun pv sv ov iv wr => ∃ (j : Nat) (P : List (ByteArray × ABlob)) (pack : List UInt8) (s0 : Bool) (ap : Option Addr) (cp : Nat) (ao : Option Addr) (co : Nat) (g' : Value → Option Value), j ≤ nk ∧ (outI K nk P).length ≤ 24 + 100 * j ∧ iv = .int .i64 j ∧ pv = .slice ap pack.length cp ∧ sv = .bool s0 ∧ ov = .slice ao (outI K nk P).length co ∧
      CmL all K st.keys P pack s0 (st.keys.drop j) ∧ CKeep w8 wr mkN S obo K nk g' P (outI K nk P) pack (.slice ap pack.length cp) (.slice ao (outI K nk P).length co)) (fun _ _ _ iv _ => nk - (intOf iv).toNat)
  case atStart => exact ⟨0, [], [], false, none, 0, a7, c7, _, by omega, by rw [← Hyo.out]; omega, rfl, rfl, rfl, by rw [Hyo.out], HK0.out.2, by have h := HK0.out.1; rw [Hyo.out] at h; exact h⟩
  case round =>
    obtain ⟨j, P, pack, s0, ap, cp, ao, co, g', hj, hoL, rfl, rfl, rfl, rfl, hL, hC⟩ := hrel
    obtain ⟨hmkS, hmk8⟩ := Hmk.out
    have hsz8 := hC.upd.size
    have hBr : Below w.heap.size w wr := HB8.out.trans (hC.upd.below (fun k hk => by
      rcases hk with hk | hk
      · omega
      · have := (Hob.out k hk).1; omega) HB8.out.size)
    have hvr := HV.out.below hBr
    have hbk : ∀ b o v, w8.cell? ⟨b, o, none⟩ = some v → b < mkN → wr.cell? ⟨b, o, none⟩ = some v := fun b o v h hb => (hC.upd.cell (cell_lt h) (fun e => by
      rcases e with e | e
      · omega
      · have := (Hob.out b e).1; omega) o).trans h
    have r1 := hbk _ _ _ Hf.out.1 (by omega)
    have r2 := hbk _ _ _ Hf.out.2 (by omega)
    obtain ⟨r3, r4, r5, _⟩ := cells5 hvr.blk
    have hlenP := hL.len
    obtain ⟨oP, hoP⟩ : ∃ y, outI K nk P = y := ⟨_, rfl⟩
    rw [hoP] at hC hoL ⊢
    by_cases hlt : j < nk
    · skip
      --<
      have hjl : j < st.keys.length := by rw [hnk.out]; exact hlt
      obtain ⟨s, xb, pk, ps, hsx⟩ : ∃ s xb pk ps, st.keys[j] = (s, (⟨xb, pk, ps⟩ : ABlob)) := ⟨_, _, _, _, rfl⟩
      have hdr : st.keys.drop j = (s, (⟨xb, pk, ps⟩ : ABlob)) :: st.keys.drop (j + 1) := by rw [← hsx]; exact (List.getElem_cons_drop hjl).symm
      have hmem : (s, (⟨xb, pk, ps⟩ : ABlob)) ∈ st.keys := by rw [← hsx]; exact List.getElem_mem hjl
      have hkb := mem_kB hok.sorted hmem
      obtain ⟨k1, k2, k3, k4⟩ := hok.blob _ hmem
      simp only at k1 k2 k3 k4
      obtain ⟨vb, hgs0, hrd, hown⟩ := hvr.keys.val s _ hkb
      obtain ⟨av, cv, rfl⟩ := hrd.shape
      rw [bcells_length] at hgs0 hrd hown
      have hgs : g (.string s) = some (.agg #[.slice av xb.length cv, .int .i64 pk, .int .i64 ps]) := hgs0
      replace hrd : Rd wr (.slice av xb.length cv) (bcells xb) := hrd
      replace hown : ∀ k, (Value.slice av xb.length cv).ownBlock = some k → S k := hown
      clear hgs0
      rw [hdr] at hL
      have hless := hL.less hok.sorted
      have hpl : pack.length + xb.length ≤ 4294967296 := by
        have h1 := hL.size
        rw [bytesB_cons] at h1
        have h2 := bytesB_le (l := st.keys) (m := 1048576) (fun p hp => (hok.blob p hp).2.2.1)
        rw [hnk.out] at h2
        have h3 := Nat.mul_le_mul_right 1048576 hnk4
        simp only at h1
        omega
      have hlk : (g (.string s)).getD zBlob = .agg #[.slice av xb.length cv, .int .i64 pk, .int .i64 ps] := by rw [hgs]; rfl
      have hm := hvr.keys.map
      have hky := key_of (s := s) (by simp only [maxLen]; omega)
      -- the name
      have hnmj : st.names[j]'(by rw [Hnl.out]; exact hlt) = s := by simp [AStore.names, hsx]
      obtain ⟨nb, no, rfl, hcl⟩ := Hrd8.out.at j (by rw [List.length_map, Hnl.out]; exact hlt)
      rw [List.getElem_map, hnmj] at hcl
      have hnbb := Hnb.out nb rfl
      have hcr : wr.cell? ⟨nb, no + j, none⟩ = some (.string s) := (hC.upd.cell (cell_lt hcl) (fun e => by
        rcases e with e | e
        · omega
        · have := (Hob.out nb e).2; omega) _).trans hcl
      obtain ⟨wb, hwb⟩ : ∃ y, wr.alloc (.cells #[.slice av xb.length cv, .int .i64 pk, .int .i64 ps] 104) = y := ⟨_, rfl⟩
      have hb0 : wb.heap[wr.heap.size]? = some (.cells #[.slice av xb.length cv, .int .i64 pk, .int .i64 ps] 104 (0, 0)) := by rw [← hwb]; exact alloc_at _ _
      have hBb : Below wr.heap.size wr wb := by rw [← hwb]; exact (Below.refl _ _).alloc (Nat.le_refl _) _
      have hCb := hC.below hBb
      have hrdb := hrd.below hBb
      obtain ⟨bx, hbx⟩ : ∃ y, wr.heap.size = y := ⟨_, rfl⟩
      have hapb : (Value.slice ap pack.length cp).ownBlock ≠ some bx := fun e => by have := row_lt hC.rp e; omega
      have haob : (Value.slice ao oP.length co).ownBlock ≠ some bx := fun e => by have := row_lt hC.ro e; omega
      have r2b := (hBb.cell (p := ⟨w.heap.size + 1, 0, none⟩) (cell_lt r2)).trans r2
      rw [hbx] at hb0
      have hbs : bx < wb.heap.size := blk_lt hb0
      have hjI : (j : Int) < (nk : Int) := by omega
      have hj0 : (0 : Int) ≤ (j : Int) := by omega
      have HL := Lib.hid hL
      have HC := Lib.hid hC
      have HCb := Lib.hid hCb
      have Hlk := Lib.hid hlk
      have Hrdb := Lib.hid hrdb
      have Hwb := Lib.hid hwb
      have HBb := Lib.hid hBb
      have Hbr := Lib.hid hBr
      have Hown := Lib.hid hown
      have Hless := Lib.hid hless
      have HoP := Lib.hid hoP
      have Hap := Lib.hid (And.intro hapb haob)
      have Hb0 := Lib.hid hb0
      have Hbx := Lib.hid hbx
      have Hhb := Lib.hid hbk
      have Hkb := Lib.hid hkb
      clear hL hC hCb hlk hrdb hwb hBb hBr hown hless hoP hapb haob hb0 hvr hrd hgs hnmj hcl hdr hmem hkb hsx hbk
      go_upto_region 17 with first
        | (at_lookup; refine wpList_map_lookup rfl (.tmp 59) (.tmp 60) 56 9 104 rfl Tryz.underlying56 keyed mk _ g hm rfl (.string s) rfl _ hky zBlob zero_blob _ Hlk.out ?_)
      rw [Hwb.out]
      obtain ⟨nw, hnw⟩ : ∃ y, (all || decide (pk = 0)) = y := ⟨_, rfl⟩
      go_cut [67] from 53 to 98 (fun bv wx => bv = .bool nw ∧ wx = wb)
      case first =>
        obtain ⟨x0, x1, x2⟩ : wb.cell? ⟨bx, 0, none⟩ = some (.slice av xb.length cv) ∧ wb.cell? ⟨bx, 1, none⟩ = some (.int .i64 pk) ∧ wb.cell? ⟨bx, 2, none⟩ = some (.int .i64 ps) := ⟨by rw [cell_at Hb0.out]; rfl, by rw [cell_at Hb0.out]; rfl, by rw [cell_at Hb0.out]; rfl⟩
        have Hnw := Lib.hid hnw
        clear hnw
        cases all with
        | true =>
          go_wp2_with fail
          go_meet
          case rel => first | exact ⟨by rw [← Hnw.out]; rfl, rfl⟩ | ((repeat apply Exists.intro); exact ⟨⟨by rw [← Hnw.out]; rfl, rfl⟩, rfl⟩)
        | false =>
          go_wp2_with fail
          go_meet
          case rel =>
            have e : (((pk : Int) == 0) : Bool) = nw := by rw [← Hnw.out]; by_cases h : pk = 0 <;> simp [h]
            first | exact ⟨by rw [e], rfl⟩ | ((repeat apply Exists.intro); exact ⟨⟨by rw [e], rfl⟩, rfl⟩)
      case rest =>
        obtain ⟨rfl, rfl⟩ := hcut
        obtain ⟨wd, rfl⟩ : ∃ x, x = wc := ⟨_, rfl⟩
        have Hnw := Lib.hid hnw
        clear hnw
        obtain ⟨x0, x1, x2⟩ : wd.cell? ⟨bx, 0, none⟩ = some (.slice av xb.length cv) ∧ wd.cell? ⟨bx, 1, none⟩ = some (.int .i64 pk) ∧ wd.cell? ⟨bx, 2, none⟩ = some (.int .i64 ps) := ⟨by rw [cell_at Hb0.out]; rfl, by rw [cell_at Hb0.out]; rfl, by rw [cell_at Hb0.out]; rfl⟩
        have z1 : wd.frozen? ⟨bx, 1, none⟩ = false := by simp [World.frozen?, Hb0.out]
        have z2 : wd.frozen? ⟨bx, 2, none⟩ = false := by simp [World.frozen?, Hb0.out]
        go_upto_if 67 with fail
        go_cut [8, 9] from 53 to 98 (fun pv sv wx => ∃ (pack' : List UInt8) (s1 : Bool) (pk' ps' : Nat) (ap' : Option Addr) (cp' : Nat), pv = .slice ap' pack'.length cp' ∧ sv = .bool s1 ∧ CmL all K st.keys (P ++ [(s, ⟨xb, pk', ps'⟩)]) pack' s1 (st.keys.drop (j + 1)) ∧
          CKeep w8 wx mkN S obo K nk g' P oP pack' (.slice ap' pack'.length cp') (.slice ao oP.length co) ∧ wx.heap[bx]? = some (.cells #[.slice av xb.length cv, .int .i64 pk', .int .i64 ps'] 104 (0, 0)) ∧ pk' ≤ 9007199254740992 ∧ ps' ≤ 9007199254740992 ∧ (Value.slice ap' pack'.length cp').ownBlock ≠ some bx ∧ Rd wx (.slice av xb.length cv) (bcells xb))
        case first =>
          cases nw with
          | true =>
            have hb1 := setCell_at Hb0.out 1 (.int .i64 K)
            have hb2 := setCell_at hb1 2 (.int .i64 (pack.length : Nat))
            have hU2 : Upd (· = bx) wd ((wd.setCell ⟨bx, 1, none⟩ (.int .i64 K)).setCell ⟨bx, 2, none⟩ (.int .i64 (pack.length : Nat))) := (setCell_upd 1 _).trans (setCell_upd 2 _) (fun _ hk => Or.inl hk)
            have hC2 := HCb.out.fresh (by omega) Hmk.out.2 Hmk.out.1 Hap.out.1 Hap.out.2 hU2
            have hrd2 := Hrdb.out.keep hU2 (fun k hk e => by have := Hmk.out.1 k (Hown.out k hk); have := Hmk.out.2; omega)
            have Hb2 := Lib.hid hb2
            have HC2 := Lib.hid hC2
            have Hrd2 := Lib.hid hrd2
            have HU2 := Lib.hid hU2
            clear hb1 hb2 hC2 hrd2 hU2
            go_wp2_with first
              | (at_builtin; refine append_u8 rfl (.tmp 73) (.tmp 75) rfl (.slice ap pack.length cp) (.slice av xb.length cv) pack xb (pack ++ xb) rfl rfl (ownsRow_base0 HC2.out.rp) rfl Hrd2.out (by omega) ?_; intro v' w4 g1 g2 g3 _; obtain ⟨a4, c4, rfl, _⟩ := row_slice g1)
            have hbw : Below wd.heap.size wd wd := Below.refl _ _
            have hlo : ∀ k, (Value.slice ap pack.length cp).ownBlock = some k → k ≠ bx := fun k e h => Hap.out.1 (h ▸ e)
            have hU4 : Upd (fun k => (Value.slice ap pack.length cp).ownBlock = some k) ((wd.setCell ⟨bx, 1, none⟩ (.int .i64 K)).setCell ⟨bx, 2, none⟩ (.int .i64 (pack.length : Nat))) w4 := (Upd.refl _ _).grown g2 (fun k hk => Or.inl hk)
            have hblk : w4.heap[bx]? = some (.cells #[.slice av xb.length cv, .int .i64 K, .int .i64 (pack.length : Nat)] 104 (0, 0)) := (hU4.block bx (blk_lt Hb2.out) (fun e => hlo _ e rfl)).trans Hb2.out
            have hC4 := HC2.out.packed Hmk.out.2 Hmk.out.1 (Below.refl _ _) g1 g2 g3
            have hrd4 := Hrd2.out.keep hU4 (fun k hk e => by have h1 := Hmk.out.1 k (Hown.out k hk); have h2 := row_from HC2.out.rp e; have := Hmk.out.2; omega)
            have hne4 : (Value.slice a4 (pack ++ xb).length c4).ownBlock ≠ some bx := by
              rcases g3 with e | ⟨b', e, hb'⟩
              · rw [e]; exact Hap.out.1
              · rw [e]; intro h; cases h; have := blk_lt Hb2.out; omega
            have hL4 := HL.out.new Hnw.out
            have H4 := Lib.hid (And.intro hblk (And.intro hC4 (And.intro hrd4 (And.intro hne4 hL4))))
            clear hblk hC4 hrd4 hne4 hL4 g1 g2 g3 hU4 hlo hbw
            go_meet
            case rel => exact ⟨pack ++ xb, true, K, pack.length, a4, c4, by rw [List.length_append], rfl, H4.out.2.2.2.2, H4.out.2.1, H4.out.1, hKb, by omega, H4.out.2.2.2.1, H4.out.2.2.1⟩
          | false =>
            have hpk0 : pk ≠ 0 := fun e => by
              have := Hnw.out
              rw [e] at this
              simp at this
            have hL4 := HL.out.old Hnw.out
            have H4 := Lib.hid (And.intro hpk0 hL4)
            clear hL4 hpk0
            go_wp2_with fail
            go_meet
            case rel => exact ⟨pack, s0, pk, ps, ap, cp, rfl, rfl, H4.out.2, HCb.out, Hb0.out, k1, k2 H4.out.1, Hap.out.1, Hrdb.out⟩
        case rest =>
          obtain ⟨pack', s1, pk', ps', ap', cp', rfl, rfl, hL5, hC5, hb5, hk5, hp5, hn5, hr5⟩ := hcut
          obtain ⟨we, rfl⟩ : ∃ x, x = wc := ⟨_, rfl⟩
          obtain ⟨y0, y1', y2'⟩ : we.cell? ⟨bx, 0, none⟩ = some (.slice av xb.length cv) ∧ we.cell? ⟨bx, 1, none⟩ = some (.int .i64 pk') ∧ we.cell? ⟨bx, 2, none⟩ = some (.int .i64 ps') := ⟨by rw [cell_at hb5]; rfl, by rw [cell_at hb5]; rfl, by rw [cell_at hb5]; rfl⟩
          obtain ⟨_, _, _, _, _, _, hiso, _⟩ := hC5.keys.look s
          have hgn : (g' (.string s)).isSome = false := by
            rw [hiso]
            cases hx : kB P s with
            | none => rfl
            | some z =>
              have := Hless.out _ (kB_some_mem hx)
              rw [ltS_irrefl] at this
              cases this
          have hn' : (P ++ [(s, (⟨xb, pk', ps'⟩ : ABlob))]).length = if (g' (.string s)).isSome then P.length else P.length + 1 := by rw [hgn]; simp
          have hroom : P.length < maxLen := by simp only [maxLen]; omega
          have hmap := hC5.keys.map
          have HC5 := Lib.hid hC5
          have HL5 := Lib.hid hL5
          have Hb5 := Lib.hid hb5
          have Hn5 := Lib.hid hn5
          have Hr5 := Lib.hid hr5
          have Hn' := Lib.hid hn'
          clear hC5 hL5 hb5 hn5 hr5 hn' hgn hiso x0 x1 x2 z1 z2
          go_upto_region 21 with first
            | (refine wpList_map_update rfl (.tmp 77) (.tmp 78) (.tmp 79) 56 9 104 rfl Tryz.underlying56 keyed mkN P.length g' hmap rfl (.string s) rfl _ hky (.agg #[.slice av xb.length cv, .int .i64 pk', .int .i64 ps']) rfl hroom (P ++ [(s, (⟨xb, pk', ps'⟩ : ABlob))]).length Hn'.out ?_; intro w5 hm5 hg5 hs5; have Hm5 := Lib.hid hm5; clear hm5 hs5)
          have hU5 : Upd (· = mkN) we w5 := (Upd.refl _ _).grown hg5 (fun j hj => by cases hj; exact Or.inl rfl)
          have hC6 := HC5.out.stored (x := ⟨xb, pk', ps'⟩) Hmk.out.2 Hmk.out.1 Hless.out hU5 Hr5.out (fun k hk => Hown.out k hk) Hm5.out
          have hmb : mkN ≠ bx := by have := Hmk.out.2; omega
          have hb6 := (hU5.block bx (blk_lt Hb5.out) (fun e => hmb e.symm)).trans Hb5.out
          have HC6 := Lib.hid hC6
          have Hb6 := Lib.hid hb6
          clear hC6 hb6 hmap y0 y1' y2' hU5
          obtain ⟨o1, ho1⟩ : ∃ y, oP ++ (vint s.data.toList.length ++ s.data.toList) = y := ⟨_, rfl⟩
          obtain ⟨o2, ho2⟩ : ∃ y, o1 ++ vint pk' = y := ⟨_, rfl⟩
          obtain ⟨o3, ho3⟩ : ∃ y, o2 ++ vint ps' = y := ⟨_, rfl⟩
          obtain ⟨o4, ho4⟩ : ∃ y, o3 ++ vint xb.length = y := ⟨_, rfl⟩
          have hoN : o4 = outI K nk (P ++ [(s, ⟨xb, pk', ps'⟩)]) := by rw [outI_snoc, HoP.out, ← ho4, ← ho3, ← ho2, ← ho1, size_list]
          have hv1 : (vint s.size).length ≤ 10 := vint10 (by omega)
          have hv2 : (vint pk').length ≤ 10 := vint10 (by omega)
          have hv3 : (vint ps').length ≤ 10 := vint10 (by omega)
          have hv4 : (vint xb.length).length ≤ 10 := vint10 (by omega)
          have hl1 : o1.length ≤ oP.length + 70 := by rw [← ho1]; simp only [List.length_append, size_list]; omega
          have hl2 : o2.length ≤ oP.length + 80 := by rw [← ho2, List.length_append]; omega
          have hl3 : o3.length ≤ oP.length + 90 := by rw [← ho3, List.length_append]; omega
          have hl4 : o4.length ≤ oP.length + 100 := by rw [← ho4, List.length_append]; omega
          have hBl := fun w6 cc (hB6 : Below w5.heap.size w5 w6) hcl6 => bBlob_any w6 (.slice ao oP.length co) (.slice (some ⟨w5.heap.size, 0, none⟩) s.size cc) oP s.data.toList (Src.own (ownsRow_base0 (HC6.out.below hB6).ro)) (rd_str s hcl6) (fun w' hu => (rd_str s hcl6).keep hu (fun k hk e => by have h1 := row_lt HC6.out.ro e; have h2 : w5.heap.size = k := Option.some.inj hk; omega)) (by omega) (by rw [size_list]; omega)
          rw [ho1] at hBl
          have hst : ∀ wa wb v l v', wa.heap[bx]? = some (.cells #[.slice av xb.length cv, .int .i64 pk', .int .i64 ps'] 104 (0, 0)) → v.ownBlock ≠ some bx → Grew wa v l v' wb → wb.heap[bx]? = some (.cells #[.slice av xb.length cv, .int .i64 pk', .int .i64 ps'] 104 (0, 0)) ∧ v'.ownBlock ≠ some bx := fun wa wb v l v' h1 h2 hG =>
            ⟨(hG.upd.block bx (blk_lt h1) (fun e => h2 e)).trans h1, fun e => by
              rcases hG.blk with e2 | ⟨b', e2, hb'⟩
              · exact h2 (e2 ▸ e)
              · rw [e2] at e; cases e; have := blk_lt h1; omega⟩
          have HBl := Lib.hid hBl
          have Hst := Lib.hid hst
          have HoN := Lib.hid hoN
          have hV2 := fun w v (h : Src w v o1) => bUint_any w v o1 pk' h (by omega) (by omega)
          rw [ho2] at hV2
          have HV2 := Lib.hid hV2
          have hV3 := fun w v (h : Src w v o2) => bUint_any w v o2 ps' h (by omega) (by omega)
          rw [ho3] at hV3
          have HV3 := Lib.hid hV3
          have hV4 := fun w v (h : Src w v o3) => bUint_any w v o3 xb.length h (by omega) (by omega)
          rw [ho4] at hV4
          have HV4 := Lib.hid hV4
          have wp : IntKind.u64.wrap (pk' : Int) = pk' := IntWalk.u64_in _ (by omega)
          have ws : IntKind.u64.wrap (ps' : Int) = ps' := IntWalk.u64_in _ (by omega)
          have wl : IntKind.u64.wrap (xb.length : Int) = xb.length := IntWalk.u64_in _ (by omega)
          clear hV2 hV3 hV4 hBl hst hoN ho1 ho2 ho3 ho4 hv1 hv2 hv3 hv4
          go_upto_region 22 with first
            | (refine wpList_str_bytes rfl (.tmp 81) 9 25 5 rfl s rfl Tryz.underlying9 Tryz.underlying25 Tryz.underlying5 ?_; intro w6 cc hB6 hs6 hc6 hcl6)
            | (go_at_call 50; with_reducible refine (HBl.out w6 cc hB6 hcl6).mono ?_; rintro e w7 ⟨a9, c9, rfl, hG7⟩; have HG7 := Lib.hid hG7; clear hG7)
          have hG7 := HG7.out
          have hC7 := HC6.out.grew Hmk.out.2 Hmk.out.1 hB6 hG7
          have hb7 := Hst.out _ _ _ _ _ ((hB6.block bx (blk_lt Hb6.out)).trans Hb6.out) Hap.out.2 hG7
          have hb7d : w7.drew.heap[bx]? = some (.cells #[.slice av xb.length cv, .int .i64 pk', .int .i64 ps'] 104 (0, 0)) := hb7.1
          have hSS : ∀ w' : World, w'.heap[bx]? = some (.cells #[.slice av xb.length cv, .int .i64 pk', .int .i64 ps'] 104 (0, 0)) → w'.cell? ⟨bx, 0, none⟩ = some (.slice av xb.length cv) ∧ w'.cell? ⟨bx, 1, none⟩ = some (.int .i64 pk') ∧ w'.cell? ⟨bx, 2, none⟩ = some (.int .i64 ps')   := fun w' h => ⟨(cells3 h).1, (cells3 h).2.1, (cells3 h).2.2.1⟩
          have c1 := hSS _ hb7d
          have hC7d := hC7.below ((Below.refl _ _).drew)
          have hs7 : Src w7.drew (.slice a9 o1.length c9) o1 := Src.own (ownsRow_base0 hC7d.ro)
          have HC7d := Lib.hid hC7d
          have Hs7 := Lib.hid hs7
          have Hb7 := Lib.hid (And.intro hb7d hb7.2)
          have HSS := Lib.hid hSS
          clear hC7 hC7d hs7 hb7 hb7d hSS hG7 hcl6
          go_region_held3 (fun w'' => w''.cell? ⟨bx, 0, none⟩ = some (.slice av xb.length cv) ∧ w''.cell? ⟨bx, 1, none⟩ = some (.int .i64 pk') ∧ w''.cell? ⟨bx, 2, none⟩ = some (.int .i64 ps')) (first | with_reducible exact c1 | with_reducible exact S8 | with_reducible exact S9 | with_reducible exact S10 | go_keep)
            (first
              | (go_at_call 49; with_reducible refine (HV2.out w7.drew _ Hs7.out).mono ?_; rintro e w8' ⟨a8, c8, rfl, hG8⟩; have Hb8 := Lib.hid (Hst.out _ _ _ _ _ Hb7.out.1 Hb7.out.2 hG8); have S8 := HSS.out _ Hb8.out.1; have HG8 := Lib.hid hG8; clear hG8)
              | (go_at_call 49; with_reducible refine (HV3.out w8' _ (Src.own HG8.out.row)).mono ?_; rintro e w9 ⟨a10, c10, rfl, hG9⟩; have Hb9 := Lib.hid (Hst.out _ _ _ _ _ Hb8.out.1 Hb8.out.2 hG9); have S9 := HSS.out _ Hb9.out.1; have HG9 := Lib.hid hG9; clear hG9)
              | (go_at_call 49; with_reducible refine (HV4.out w9 _ (Src.own HG9.out.row)).mono ?_; rintro e w10 ⟨a11, c11, rfl, hG10⟩; have Hb10 := Lib.hid (Hst.out _ _ _ _ _ Hb9.out.1 Hb9.out.2 hG10); have S10 := HSS.out _ Hb10.out.1; have HG10 := Lib.hid hG10; clear hG10))
          have hC8 := HC7d.out.grew Hmk.out.2 Hmk.out.1 (Below.refl _ _) HG8.out
          have hC9 := hC8.grew Hmk.out.2 Hmk.out.1 (Below.refl _ _) HG9.out
          have hC10 := Lib.hid (hC9.grew Hmk.out.2 Hmk.out.1 (Below.refl _ _) HG10.out)
          clear hC8 hC9
          go_wp2_with fail
          go_roundw
          case rel => exact ⟨j + 1, P ++ [(s, ⟨xb, pk', ps'⟩)], pack', s1, ap', cp', a11, c11, _, by omega, by rw [← HoN.out]; omega, by go_num, rfl, rfl, by rw [← HoN.out], HL5.out, by have h := hC10.out; rw [HoN.out] at h; exact h⟩
          case measure => simp [intOf]; omega
      -->
    · have hje : j = nk := by omega
      subst hje
      clear hlt
      have hji : ¬ (j : Int) < (j : Int) := by omega
      rw [List.drop_of_length_le (by rw [hnk.out]; exact Nat.le_refl _)] at hL hlenP
      have hcm : cmOf st = (P, pack, s0) := by
        unfold cmOf
        rw [Hall.out, HKe.out]
        exact hL.stop
      have hPn : P.length = j := by rw [← hnk.out]; simpa using hlenP
      have hI : oP ++ sumL oP = indexOf K P := by
        rw [← hoP]
        unfold outI indexOf sealL
        rw [hPn]
      obtain ⟨I, hIe⟩ : ∃ y, indexOf K P = y := ⟨_, rfl⟩
      rw [hIe] at hI
      have hsl := fun w' v (h : Rd w' v (bcells oP)) => bSeal_any w' v oP h (by omega)
      rw [hI] at hsl
      have hst : cmSteps st = (if s0 then fileS (cName K) pack else []) ++ (fileS freshI I ++ [renS freshI (iName K)]) := by
        unfold cmSteps
        rw [HKe.out, hcm, hIe]
      have hEr : WEnv wr.drew := (hE.below hBr).drew
      have hF := pgfile_any wr.drew 99 K (by omega) hEr
      obtain ⟨cK, hcK⟩ : ∃ y, cName K = y := ⟨_, rfl⟩
      rw [show pgName 99 K = cK from hcK] at hF
      have hcKs : cK.size ≤ 17 := by rw [← hcK]; exact pgName_size hKb
      rw [hcK] at hst
      have hpl : pack.length ≤ 4294967296 := by
        have h1 := hL.size
        have h2 := bytesB_le (l := st.keys) (m := 1048576) (fun p hp => (hok.blob p hp).2.2.1)
        rw [hnk.out] at h2
        have h3 := Nat.mul_le_mul_right 1048576 hnk4
        omega
      have hIl : I.length ≤ 4294967296 := by
        rw [← hI, List.length_append]
        have : (sumL oP).length = 4 := by simp [sumL]
        omega
      have HC := Lib.hid hC
      have Hst := Lib.hid hst
      have HF := Lib.hid hF
      have Hcm := Lib.hid hcm
      have Hsl := Lib.hid hsl
      have Hbr := Lib.hid hBr
      have Hvr := Lib.hid hvr
      have hrw : w.heap.size + 1 < wr.heap.size := cell_lt r2
      clear hC hst hF hcm hsl hL hBr hvr hlenP hoP hI hIe hcK hPn hbk hEr
      go_upto_if 99 with fail
      go_cut [14] from 100 to 104 (fun dv wx => ∃ (fs : List (Nat × Array Value)) (nf : Nat) (b1 b2 b3 : Nat), nf = fs.length ∧ wx.ownsRow wr.heap.size 99 1 dv nf (fs.map fnVal) ∧ Below wr.heap.size wr wx ∧ (s0 = false → fs = []) ∧
        (s0 = true → fs = fileFns b1 b2 b3 ∧ wx.cell? ⟨b1, 0, none⟩ = some (.pointer (some ⟨q, 0, none⟩)) ∧ wx.cell? ⟨b2, 0, none⟩ = some (.string cK) ∧ wx.cell? ⟨b3, 0, none⟩ = some (.slice ap pack.length cp) ∧ (∀ g, dv.ownBlock = some g → b1 < g ∧ b2 < g ∧ b3 < g) ∧ wr.heap.size ≤ b1 ∧ wr.heap.size ≤ b2 ∧ wr.heap.size ≤ b3))
      case first =>
        cases s0 with
        | true =>
          go_upto_region 26 with fail
          have c1 : wr.drew.cell? ⟨w.heap.size, 0, none⟩ = some (.pointer (some ⟨q, 0, none⟩)) ∧ wr.drew.cell? ⟨w.heap.size + 1, 0, none⟩ = some (.int .i64 K) := ⟨r1, r2⟩
          have hBd : Below wr.heap.size wr wr.drew := (Below.refl _ _).drew
          have hSB : ∀ w' : World, Below wr.drew.heap.size wr.drew w' → w'.cell? ⟨w.heap.size, 0, none⟩ = some (.pointer (some ⟨q, 0, none⟩)) ∧ w'.cell? ⟨w.heap.size + 1, 0, none⟩ = some (.int .i64 K) := fun w' hB => ⟨(hB.cell (p := ⟨w.heap.size, 0, none⟩) (cell_lt c1.1)).trans c1.1, (hB.cell (p := ⟨w.heap.size + 1, 0, none⟩) (cell_lt c1.2)).trans c1.2⟩
          have HSB := Lib.hid hSB
          clear hSB
          go_region_held3 (fun w'' => w''.cell? ⟨w.heap.size, 0, none⟩ = some (.pointer (some ⟨q, 0, none⟩)) ∧ w''.cell? ⟨w.heap.size + 1, 0, none⟩ = some (.int .i64 K)) (first | with_reducible exact c1 | with_reducible exact S1 | with_reducible exact S2 | go_keep)
            (first
              | (go_at_call 52; with_reducible refine HF.out.mono ?_; rintro e w1 ⟨rfl, hB1⟩; have S1 := HSB.out w1 hB1; have HB1 := Lib.hid hB1; clear hB1)
              | (go_at_call 51; (with_reducible refine (pgfileS_any w1 q cK ap pack.length cp).mono ?_); rintro e w2 ⟨b1, b2, b3, r, rfl, hfs⟩; have S2 := HSB.out w2 (HB1.out.trans (hfs.2.2.2.2.2.2.2.mono HB1.out.size)); have Hfs := Lib.hid hfs; clear hfs))
          obtain ⟨q1, q2, q3, q4, ⟨q5, q6⟩, ⟨q7, q8⟩, ⟨q9, q10⟩, q11⟩ := Hfs.out
          have hsz1 := HB1.out.size
          have hsz0 : wr.drew.heap.size = wr.heap.size := rfl
          have hrow := fn_row (base := wr.heap.size) q1 (by omega) (show 3 ≤ 1000 by decide)
          have hfin : Below wr.heap.size wr w2 := (hBd.trans HB1.out).trans (q11.mono (by omega))
          have Hf := Lib.hid (And.intro hrow hfin)
          have hown : ∀ g, (Value.slice (some ⟨r, 0, none⟩) 3 3).ownBlock = some g → b1 < g ∧ b2 < g ∧ b3 < g := fun g hg => by cases hg; exact ⟨q6, q8, q10⟩
          go_wp2_with fail
          go_meet
          case rel => exact ⟨fileFns b1 b2 b3, 3, b1, b2, b3, rfl, Hf.out.1, Hf.out.2, fun h => (by cases h), fun _ => ⟨rfl, q2, q3, q4, hown, by omega, by omega, by omega⟩⟩
        | false =>
          go_wp2_with fail
          go_meet
          case rel =>
            exact ⟨[], 0, 0, 0, 0, rfl, World.ownsRow_nil _ _ _ _, Below.refl _ _, fun _ => rfl, fun h => (by cases h)⟩
      case rest =>
        obtain ⟨fs, nf, b1, b2, b3, hnf, hrow, hB6, hf0, hf1⟩ := hcut
        obtain ⟨we, rfl⟩ : ∃ x, x = wc := ⟨_, rfl⟩
        obtain ⟨dv, rfl⟩ : ∃ x, x = u14 := ⟨_, rfl⟩
        have hnf3 : nf ≤ 3 := by
          rw [hnf]
          cases s0 with
          | true => rw [(hf1 rfl).1]; exact Nat.le_refl 3
          | false => rw [hf0 rfl]; exact Nat.zero_le _
        have hgN : ∀ {n : Nat} {x : Value}, n < wr.heap.size → True := fun _ => trivial
        have e1 : we.cell? ⟨w.heap.size, 0, none⟩ = some (.pointer (some ⟨q, 0, none⟩)) := (hB6.cell (p := ⟨w.heap.size, 0, none⟩) (cell_lt r1)).trans r1
        have e2 : we.cell? ⟨w.heap.size + 1, 0, none⟩ = some (.int .i64 K) := (hB6.cell (p := ⟨w.heap.size + 1, 0, none⟩) (cell_lt r2)).trans r2
        have hro : Rd we.drew (.slice ao oP.length co) (bcells oP) := ((Rd.ofOwns HC.out.ro).below hB6).below ((Below.refl _ _).drew)
        have hSl := Hsl.out we.drew _ hro
        have hSB : ∀ w' : World, Below we.drew.heap.size we.drew w' → w'.cell? ⟨w.heap.size, 0, none⟩ = some (.pointer (some ⟨q, 0, none⟩)) := fun w' hB => (hB.cell (p := ⟨w.heap.size, 0, none⟩) (cell_lt (show we.drew.cell? _ = _ from e1))).trans e1
        have hro2 : ∀ w', Below we.drew.heap.size we.drew w' → w'.ownsRow 0 99 1 dv nf (fs.map fnVal) := fun w' hB => ownsRow_base0 ((Upd.ofBelow (fp := noFp) (((Below.refl _ we).drew).trans (hB.mono (Nat.le_refl _)))).row hrow (fun _ _ h => h))
        have c1 : we.drew.cell? ⟨w.heap.size, 0, none⟩ = some (.pointer (some ⟨q, 0, none⟩)) := e1
        have hfap : nf + 3 ≤ 1000 := by omega
        have hap := fun (w2 : World) (r d1 d2 d3 : Nat) (hB : Below we.drew.heap.size we.drew w2) (h1 : w2.heap[r]? = some (.cells ((fileFns d1 d2 d3).map fnVal).toArray 99 (0, 0))) =>
          run_append_fn (w := w2) dv (.slice (some ⟨r, 0, none⟩) 3 3) fs (fileFns d1 d2 d3) (fs ++ fileFns d1 d2 d3) nf (nf + 3) hnf rfl rfl (hro2 w2 hB) (Rd.ofOwns (fn_row (base := 0) h1 (Nat.zero_le _) (show 3 ≤ 1000 by decide))) (by rw [← hnf]; exact hfap)
        have hS3 : ∀ (w2 w3 : World), w2.cell? ⟨w.heap.size, 0, none⟩ = some (.pointer (some ⟨q, 0, none⟩)) → w2.grownBy w3 dv.ownBlock → w3.cell? ⟨w.heap.size, 0, none⟩ = some (.pointer (some ⟨q, 0, none⟩)) := fun w2 w3 h hg =>
          (((Upd.refl (fun k => dv.ownBlock = some k) w2).grown hg (fun k hk => Or.inl hk)).cell (cell_lt h) (fun e => by have := row_from hrow e; omega) 0).trans h
        have Hap := Lib.hid hap
        have HS3 := Lib.hid hS3
        have HSl := Lib.hid hSl
        have HSB := Lib.hid hSB
        have Hro2 := Lib.hid hro2
        have Hrow := Lib.hid hrow
        have HB6 := Lib.hid hB6
        have Hfs := Lib.hid (And.intro hf0 hf1)
        have Hnf := Lib.hid hnf
        clear hap hS3 hSl hSB hro hro2 hrow hB6 hf0 hf1 hnf hgN
        go_upto_region 27 with fail
        go_cut [14] from 105 to 110 (fun dv2 wx => ∃ (ai : Option Addr) (ci d1 d2 d3 : Nat), CmMid wr wx q s0 cK (.slice ap pack.length cp) I fs nf b1 b2 b3 dv2 ai ci d1 d2 d3)
        case first =>
          go_region_law
            (first
              | (go_simp; go_at_call 53; (with_reducible refine HSl.out.mono ?_); rintro e w1 ⟨ai, ci, rfl, hri, hB1⟩; have S1 := HSB.out w1 hB1; have HB1 := Lib.hid hB1; have Hri := Lib.hid hri; clear hB1 hri)
              | (go_simp; go_at_call 51; (refine (pgfileS_any w1 q freshI ai I.length ci).mono ?_); rintro e w2 ⟨d1, d2, d3, r, rfl, hfs⟩; have S2 := HSB.out w2 (HB1.out.trans (hfs.2.2.2.2.2.2.2.mono HB1.out.size)); have Hf2 := Lib.hid hfs; clear hfs; obtain ⟨a7, c7, w3, hrun3, hg3⟩ := Hap.out w2 r d1 d2 d3 (HB1.out.trans (Hf2.out.2.2.2.2.2.2.2.mono HB1.out.size)) Hf2.out.1; have S3 := HS3.out w2 w3 S2 hg3.2.1; have G := Lib.hid hg3; clear hg3)
              | (refine step_append5 (by rfl) _ _ _ (by rfl) _ _ _ _ (by rfl) (by rfl) _ (by rfl) hrun3 ?_))
          all_goals
            go_wp2_with fail
            go_meet
            case rel => exact ⟨ai, ci, d1, d2, d3, cm_mid Hrow.out HB6.out Hfs.out.2 Hri.out HB1.out Hf2.out G.out⟩
        case rest =>
          obtain ⟨ai, ci, d1, d2, d3, hM⟩ := hcut
          obtain ⟨wx, rfl⟩ : ∃ x, x = wc := ⟨_, rfl⟩
          obtain ⟨dv2, rfl⟩ : ∃ x, x = u14 := ⟨_, rfl⟩
          obtain ⟨er, her⟩ : ∃ y, (runS (cmSteps st) d).2 = y := ⟨_, rfl⟩
          obtain ⟨dR, hdR⟩ : ∃ y, (runS (cmSteps st) d).1 = y := ⟨_, rfl⟩
          have hbw : w.heap.size ≤ w8.heap.size := HB8.out.size
          have hlast := fun (a9 : Option Addr) (c9 : Nat) (w5 : World) (o : Obj) h1 h2 h3 => cm_last (o := o) HV.out hE hG hKb hcKs hpl hIl Hbr.out hM HC.out.rp hbw r1 r2 Hnf.out Hfs.out.1 (⟨h1, h2, h3⟩ : w5.ownsRow 0 99 1 (.slice a9 (nf + 3 + 1) c9) (nf + 3 + 1) (((fs ++ fileFns d1 d2 d3) ++ [cmFn w.heap.size (w.heap.size + 1)]).map fnVal) ∧ (wx.alloc o).grownBy w5 dv2.ownBlock ∧ ((Value.slice a9 (nf + 3 + 1) c9).ownBlock = dv2.ownBlock ∨ ∃ g, (Value.slice a9 (nf + 3 + 1) c9).ownBlock = some g ∧ wx.heap.size ≤ g)) Hst.out
          rw [her, hdR] at hlast
          have t1 := (hM.bel.cell (p := ⟨w.heap.size, 0, none⟩) (cell_lt r1)).trans r1
          have t2 := (hM.bel.cell (p := ⟨w.heap.size + 1, 0, none⟩) (cell_lt r2)).trans r2
          have hlen4 : nf + 3 = (fs ++ fileFns d1 d2 d3).length := by rw [List.length_append, ← Hnf.out]; rfl
          have hb4 : (fs ++ fileFns d1 d2 d3).length + 1 ≤ 1000 := by rw [← hlen4]; omega
          have hown4 : ∀ o : Obj, (wx.alloc o).ownsRow 0 99 1 dv2 (nf + 3) ((fs ++ fileFns d1 d2 d3).map fnVal) := fun o => ownsRow_base0 (((Upd.refl noFp wx).alloc o).row hM.row (fun _ _ h => h))
          have Hl := Lib.hid hlast
          have Her := Lib.hid (And.intro her hdR)
          have HM := Lib.hid hM
          have Hlen4 := Lib.hid hlen4
          have Ho4 := Lib.hid hown4
          have R12 := Lib.hid (And.intro r1 r2)
          have hP0 := pCommit_eq (d := d) ho (show st.k ≠ 9007199254740992 by omega)
          rw [her, hdR, HKe.out, Hcm.out] at hP0
          have hfac := cm_facts Hcm.out hok hk
          clear hlast her hdR hM hlen4 hown4 r1 r2 e1 e2
          by_cases hz : er = 0
          · subst hz
            have HP0 := Lib.hid (hP0.trans (if_neg (by simp)))
            have Hfac := Lib.hid hfac
            clear hP0 hfac
            go_upto_region 32 with first
              | (at_builtin; refine append_fn rfl (.tmp 111) (.tmp 113) rfl dv2 (.slice (some ⟨wx.heap.size, 0, none⟩) 1 1) (fs ++ fileFns d1 d2 d3) [cmFn w.heap.size (w.heap.size + 1)] ((fs ++ fileFns d1 d2 d3) ++ [cmFn w.heap.size (w.heap.size + 1)]) (nf + 3) (nf + 3 + 1) Hlen4.out rfl rfl rfl (Ho4.out _) rfl (Rd_new _ _ _ _ ([cmFn w.heap.size (w.heap.size + 1)].map fnVal) _ _ rfl rfl) hb4 ?_; intro a9 c9 w5 g1 g2 g3; have hL := Lib.hid (Hl.out a9 c9 w5 _ g1 g2 (g3.imp id (fun ⟨g, h1, h2⟩ => ⟨g, h1, Nat.le_trans (by simp) h2⟩))); clear g1 g2 g3)
              | (go_at_call 56; refine hL.out.2.mono ?_; rintro e w6 ⟨rfl, hD6, hK6⟩)
            have hB5 := hL.out.1
            have hBw5 := Hbr.out.trans (hB5.mono Hbr.out.size)
            obtain ⟨hS6, hKw6⟩ := HV.out.cm_back hBw5 hD6 hK6
            have r15 := (hB5.cell (p := ⟨w.heap.size, 0, none⟩) (cell_lt R12.out.1)).trans R12.out.1
            have r25 := (hB5.cell (p := ⟨w.heap.size + 1, 0, none⟩) (cell_lt R12.out.2)).trans R12.out.2
            have r16 : w6.drew.cell? ⟨w.heap.size, 0, none⟩ = some (.pointer (some ⟨q, 0, none⟩)) := (hK6.cell (Or.inr ⟨Nat.le_refl _, cell_lt r15⟩) 0).trans r15
            have r26 : w6.drew.cell? ⟨w.heap.size + 1, 0, none⟩ = some (.int .i64 K) := (hK6.cell (Or.inr ⟨Nat.le_succ _, cell_lt r25⟩) 0).trans r25
            have hblk6 : w6.drew.heap[q]? = some (.cells (storeCells p mk mh st) 59 (0, 0)) := hS6.blk
            obtain ⟨c0, c1', c2', c3', c4', z1, z2, z3, _⟩ := cells5 hblk6
            obtain ⟨c0w, c1w, c2w, c3w, c4w, z1w, z2w, z3w, _⟩ := cells5 (show w6.heap[q]? = some (.cells #[_, _, _, _, _] _ (0, 0)) from hS6.blk)
            have r16w : w6.cell? ⟨w.heap.size, 0, none⟩ = some (.pointer (some ⟨q, 0, none⟩)) := r16
            have r26w : w6.cell? ⟨w.heap.size + 1, 0, none⟩ = some (.int .i64 K) := r26
            have HS6 := Lib.hid hS6
            have Hb6 := Lib.hid hblk6
            have HD6 := Lib.hid (And.intro hD6 hK6)
            have HB5 := Lib.hid (And.intro hB5 hBw5)
            have Hr6 := Lib.hid (And.intro r16 r26)
            clear hS6 hblk6 hD6 hK6 hB5 hBw5 r15 r25 hL c1
            go_cut [] from 122 to 129 (fun wy => Upd (· = q) w6 wy ∧ wy.heap[q]? = some (.cells #[.pointer (some ⟨p, 0, none⟩), .int .i64 K, .map (some mkN), .map (some mh), .bool st.over] 59 (0, 0)))
            case first =>
              go_region
              go_wp2_with fail
              go_meet
              case rel =>
                have hb1 := setCell_at HS6.out.blk 1 (.int .i64 K)
                have hb2 := setCell_at hb1 2 (.map (some mkN))
                exact ⟨((setCell_upd 1 _).trans (setCell_upd 2 _) (fun _ hk => Or.inl hk)).drew, hb2⟩
            case rest =>
              obtain ⟨hU7, hblk7⟩ := hcut
              obtain ⟨wy, rfl⟩ : ∃ x, x = wc := ⟨_, rfl⟩
              clear c0 c1' c2' c3' c4' z1 z2 z3 c0w c1w c2w c3w c4w z1w z2w z3w r16 r26
              have hql : q < w.heap.size := HV.out.q_lt
              have hmkl : w.heap.size ≤ mkN ∧ mkN < w5.heap.size := ⟨by omega, by have := HB5.out.1.size; have := Hmk.out.2; omega⟩
              have y1c : wy.drew.cell? ⟨w.heap.size, 0, none⟩ = some (.pointer (some ⟨q, 0, none⟩)) := (hU7.cell (cell_lt r16w) (fun e => by omega) 0).trans r16w
              have y2c : wy.drew.cell? ⟨w.heap.size + 1, 0, none⟩ = some (.int .i64 K) := (hU7.cell (cell_lt r26w) (fun e => by omega) 0).trans r26w
              have hk5 : KeysAt w5 mkN S g' P := HC.out.keys.upd (Upd.ofBelow (fp := noFp) HB5.out.1) (fun h => h) (fun _ _ h => h)
              have hk7 := HV.out.cm_keys HD6.out.2 hU7 hk5 hmkl
              have hk7d : KeysAt wy.drew mkN S g' P := hk7.upd ((Upd.refl noFp wy).drew) (fun h => h) (fun _ _ h => h)
              have hblk7d : wy.drew.heap[q]? = some (.cells #[.pointer (some ⟨p, 0, none⟩), .int .i64 K, .map (some mkN), .map (some mh), .bool st.over] 59 (0, 0)) := hblk7
              have hPk := pgpacks_any wy.drew q mkN S g' P (cells5 hblk7d).2.2.1 hk7d Hfac.out.1 Hfac.out.2.2 Hfac.out.2.1
              have hc3 : ∀ w' : World, Below wy.drew.heap.size wy.drew w' → w'.cell? ⟨w.heap.size, 0, none⟩ = some (.pointer (some ⟨q, 0, none⟩)) ∧ w'.cell? ⟨w.heap.size + 1, 0, none⟩ = some (.int .i64 K) ∧ w'.frozen? ⟨q, 3, none⟩ = false ∧ w'.cell? ⟨q, 3, none⟩ = some (.map (some mh)) := fun w' hB =>
                ⟨(hB.cell (p := ⟨w.heap.size, 0, none⟩) (cell_lt y1c)).trans y1c, (hB.cell (p := ⟨w.heap.size + 1, 0, none⟩) (cell_lt y2c)).trans y2c, (cells5 ((hB.block q (blk_lt hblk7d)).trans hblk7d)).2.2.2.2.2.2.2.1, (cells5 ((hB.block q (blk_lt hblk7d)).trans hblk7d)).2.2.2.1⟩
              have c1 := hc3 _ (Below.refl _ _)
              have HPk := Lib.hid hPk
              have Hc3 := Lib.hid hc3
              have Hk5 := Lib.hid hk5
              have H7 := Lib.hid (And.intro hU7 hblk7)
              clear hPk hc3 hk5 hk7 hk7d hblk7d hblk7 hU7
              go_upto_region 33 with fail
              have Hne1 := Lib.hid (show ¬ (fun x => x = q) w.heap.size from fun e => by have h : w.heap.size = q := e; omega)
              have Hne2 := Lib.hid (show ¬ (fun x => x = q) (w.heap.size + 1) from fun e => by have h : w.heap.size + 1 = q := e; omega)
              have c12 := And.intro c1.1 c1.2.1
              clear c1
              go_region_held3 (fun w'' => w''.cell? ⟨w.heap.size, 0, none⟩ = some (.pointer (some ⟨q, 0, none⟩)) ∧ w''.cell? ⟨w.heap.size + 1, 0, none⟩ = some (.int .i64 K)) (first | with_reducible exact c12 | with_reducible exact S8 | with_reducible exact S9 | go_keep)
                (first
                  | (go_at_call 48; (refine HPk.out.mono ?_); rintro e w8' ⟨mh', rfl, hmh1, hmh2, hH, hB8⟩; have q8 := Hc3.out w8' hB8; have S8 := And.intro q8.1 q8.2.1; obtain ⟨_, _, q83, q84⟩ := q8; have S9 : (w8'.setCell ⟨q, 3, none⟩ (.map (some mh'))).cell? ⟨w.heap.size, 0, none⟩ = some (.pointer (some ⟨q, 0, none⟩)) ∧ (w8'.setCell ⟨q, 3, none⟩ (.map (some mh'))).cell? ⟨w.heap.size + 1, 0, none⟩ = some (.int .i64 K) := ⟨((setCell_upd (w := w8') (b := q) 3 (.map (some mh'))).cell (cell_lt S8.1) Hne1.out 0).trans S8.1, ((setCell_upd (w := w8') (b := q) 3 (.map (some mh'))).cell (cell_lt S8.2) Hne2.out 0).trans S8.2⟩; have H8 := Lib.hid (And.intro hH hB8); clear hH hB8))
              go_wp2_with fail
              go_ret2
              have hB8' : Below wy.heap.size wy w8' := ((Below.refl _ wy).drew).trans (H8.out.2.mono (Nat.le_refl _))
              have hblk8 := (hB8'.block q (blk_lt H7.out.2)).trans H7.out.2
              rw [ho] at hblk8
              have hblk9 := setCell_at hblk8 3 (.map (some mh'))
              have hfin := HV.out.committed (st' := ⟨K, P, packsOf P, false⟩) HB5.out.2 HD6.out.1 HD6.out.2 H7.out.1 hB8' (setCell_upd 3 (.map (some mh'))) hblk9 Hk5.out H8.out.1 hmkl ⟨hmh1, hmh2⟩
              rw [HP0.out]
              exact ⟨rfl, ⟨mkN, mh', S, g', hfin.1⟩, hfin.2⟩
          · have hzb : (er != 0) = true := by simpa using hz
            have HP0 := Lib.hid (hP0.trans (if_pos hz))
            clear hz hP0 hfac
            go_wp2_with first
              | (at_builtin; refine append_fn rfl (.tmp 111) (.tmp 113) rfl dv2 (.slice (some ⟨wx.heap.size, 0, none⟩) 1 1) (fs ++ fileFns d1 d2 d3) [cmFn w.heap.size (w.heap.size + 1)] ((fs ++ fileFns d1 d2 d3) ++ [cmFn w.heap.size (w.heap.size + 1)]) (nf + 3) (nf + 3 + 1) Hlen4.out rfl rfl rfl (Ho4.out _) rfl (Rd_new _ _ _ _ ([cmFn w.heap.size (w.heap.size + 1)].map fnVal) _ _ rfl rfl) hb4 ?_; intro a9 c9 w5 g1 g2 g3; have hL := Lib.hid (Hl.out a9 c9 w5 _ g1 g2 (g3.imp id (fun ⟨g, h1, h2⟩ => ⟨g, h1, Nat.le_trans (by simp) h2⟩))); clear g1 g2 g3)
              | (go_at_call 56; refine hL.out.2.mono ?_; rintro e w6 ⟨rfl, hD6, hK6⟩; have hB5 := hL.out.1; have hS6 := Lib.hid (HV.out.cm_back (Hbr.out.trans (hB5.mono Hbr.out.size)) hD6 hK6); have r15 := (hB5.cell (p := ⟨w.heap.size, 0, none⟩) (cell_lt R12.out.1)).trans R12.out.1; have r16 : w6.cell? ⟨w.heap.size, 0, none⟩ = some (.pointer (some ⟨q, 0, none⟩)) := (hK6.cell (Or.inr ⟨Nat.le_refl _, cell_lt r15⟩) 0).trans r15; clear hD6 hK6 hB5 r15)
              | (go_at_call 57; refine (pgends_at er (⟨mk, mh, S, g, hS6.out.1⟩ : StoreAt ex w6 q p m dR st)).mono ?_; rintro e w7 ⟨rfl, hS7, hK7⟩)
            go_ret2
            rw [HP0.out]
            exact ⟨rfl, hS7, hS6.out.2.trans hK7⟩
set_option maxRecDepth 100000 in
set_option maxHeartbeats 1000000 in
theorem pgCommit_at (h : StoreAt ex w q p m d st) (hok : st.Ok) (hE : WEnv w) (hG : GlIn ex) :
    Calls Tryz.prog 14 #[.pointer (some ⟨q, 0, none⟩)] w (CmPost ex w q p m (pCommit d st)) := by
  have hlt : ∀ k, ex k → k < w.heap.size := fun k hk => h.lt hk
  by_cases hgood : st.over = false ∧ st.k < 9007199254740992
  · exact pgCommit_good h hok hE hG hgood.1 hgood.2
  · have hB0 : Below w.heap.size w (w.alloc (.cells #[.pointer (some ⟨q, 0, none⟩)] 24)) := (Below.refl _ _).alloc (Nat.le_refl _) _
    have hup := pgup_at (h.below hB0)
    have hS := h.below hB0
    have hK := Keep.ofBelow hB0 hlt
    cases ho : st.over with
    | true =>
      have hP : pCommit d st = (d, st, 0, 16) := by unfold pCommit; rw [if_pos ho]
      rw [hP]
      rw [ho] at hup
      have HU := Lib.hid hup
      have HS := Lib.hid (And.intro hS hK)
      clear hup hS hK h hP hgood ho hlt hB0
      go_enter Tryz.func14, Tryz.ntmps14
      go_wp2_with (go_at_call 47; refine HU.out.mono ?_; rintro e w1 ⟨rfl, rfl⟩)
      go_ret2
      exact ⟨rfl, HS.out⟩
    | false =>
      have hk : st.k = 9007199254740992 := by
        have := hok.k
        by_cases h2 : st.k < 9007199254740992
        · exact absurd ⟨ho, h2⟩ hgood
        · omega
      have hP : pCommit d st = (d, st, 0, 2) := by unfold pCommit; rw [if_neg (by simp [ho]), if_pos hk]
      rw [hP]
      rw [ho] at hup
      obtain ⟨mk, mh, S, g, hv⟩ := hS
      obtain ⟨c0, c1, _⟩ := cells5 hv.blk
      rw [hk] at c1
      have HU := Lib.hid hup
      have HS := Lib.hid (And.intro (⟨mk, mh, S, g, hv⟩ : StoreAt ex _ q p m d st) hK)
      clear hup hv hK h hP hgood ho hlt hB0 hk
      go_enter Tryz.func14, Tryz.ntmps14
      go_wp2_with (go_at_call 47; refine HU.out.mono ?_; rintro e w1 ⟨rfl, rfl⟩)
      go_ret2
      exact ⟨rfl, HS.out⟩
end
end Go.Proofs.YtbepcjajbcecnaaGreatDoor
