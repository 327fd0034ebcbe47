/- The engine of the proofs, part N: copy, append of zeros, cap, bytes as text, slices that do not overlap, a shift. No statement of the seat is proved here. -/
import Derived.Test.YtaneenahapdabaaEngM
import Derived.Laws.BytesArg
import Derived.Lib.Overlaps
import Derived.Laws.Externs
namespace Go.Proofs.Ytaneenahapdabaa
open Go
section
variable {E : Env} {n : Nat} {L : Sl} {w w0 : World} {S : List Nat} {G G0 G1 : List Ent} {d T : Nat} {pos : String} {e : Array Edge} {g : Option (Nat × Bool)} {x y s : Operand} {QQ : Exit → Act → World → Prop} {Z : Sl → World → Prop}
theorem run_firstN {P : Program} {xa : Option Addr} {m k xc sz : Nat} {news : List Value} (hs : Src w xa news) (hl : news.length = k * sz) : (Builtin.firstCells sz k (.slice xa m xc)).run P w = .ok news.toArray w := by
  cases xa with
  | none =>
    have : news = [] := by
      cases news with
      | nil => rfl
      | cons v r => obtain ⟨a, ha, _⟩ := hs 0 v rfl; cases ha
    subst this
    simp [Builtin.firstCells]
  | some a =>
    exact run_firstCells_some (P := P) w sz k a m xc news hl (fun j v hj => by obtain ⟨a', h1, h2⟩ := hs j v hj; cases h1; exact h2)
theorem Y.copy {t t2 el b off dl dc m xc : Nat} {xa : Option Addr} {ti te : TyI} {c news : List Value} (k : Nat) (hk : min m dl = k) (hs : ev L s = some (.slice (some ⟨b, off, none⟩) dl dc)) (hx : ev L x = some (.slice xa m xc))
    (ht : nth E.T t = some (some ti)) (hd : ti.d = .slice el) (hte : nth E.T el = some (some te)) (H : Holds w0 S w G) (hp : Pick G b (row c el) true G0)
    (hl : news.length = k * te.size) (hfit : off + news.length ≤ c.length) (hsrc : Src w xa news) (h1 : ∀ v ∈ news, v.oneCell' = true) (hn : Nat.blt d n = true)
    (next : ∀ w', Holds w0 S w' (⟨b, row (putC c off news) el, true⟩ :: G0) → Z ((d, .int .i64 (k : Nat)) :: L) w') :
    StepZ E QQ n ⟨some d, .call { callee := .builtin .copy, args := #[s, x], argTypes := #[t, t2] }, T, pos, e, g⟩ Z L w := by
  obtain ⟨hgood, _⟩ := E.ok t ti ht
  rw [hd] at hgood
  have hgood : E.P.underlying t = some (.slice el) := hgood
  have HP := H.perm hp.perm
  have hb := HP.at_ _ (List.mem_cons_self ..)
  obtain ⟨w', h2, h3, h4, h5, h6, h7, h8⟩ := run_storeCells_row (P := E.P) news w c off 0 hb (by omega) h1
  rw [Nat.add_zero] at h3
  have hf := run_firstN (P := E.P) (m := m) (xc := xc) hsrc hl
  have hsz := E.sizeOf w hte
  have hk' : Nat.min m dl = k := hk
  refine StepZ.val (v := .int .i64 (k : Nat)) (w' := w') rfl hn (fun a ha => ?_) (next w' (HP.put h6 h7 h8 h5 h3 h4))
  simp only [execOp, resolve, Sem.run_bind, Sem.run_pure, Result.andThen_ok, invoke, builtin, List.map_toArray, List.map_cons, List.map_nil, ha.eval hs, ha.eval hx]
  simp [Builtin.copy_, run_underlying hgood, hsz, Builtin.lenOf, hk', hf, h2, goInt]
theorem X.cap_slice {t ln cp el : Nat} {ti : TyI} {a : Option Addr} (hx : ev L x = some (.slice a ln cp)) (ht : nth E.T t = some (some ti)) (hd : ti.d = .slice el) :
    PureOp E n L G ⟨some d, .call { callee := .builtin .cap, args := #[x], argTypes := #[t] }, T, pos, e, g⟩ (.int .i64 (cp : Nat)) := by
  obtain ⟨hgood, _⟩ := E.ok t ti ht
  rw [hd] at hgood
  have hgood : E.P.underlying t = some (.slice el) := hgood
  exact fun w hG a hs => by simp [execOp, hs.eval hx, resolve, invoke, builtin, Builtin.cap_, run_underlying hgood, goInt]
/-- Zeros are appended, and there is no room. -/
theorem Y.append_zeros {t t2 el len cap m : Nat} {k2 : IntKind} {sa : Option Addr} {ti te t2i : TyI} {olds : List Value} (hs : ev L s = some (.slice sa len cap)) (hx : ev L x = some (.int .i64 (m : Nat)))
    (ht : nth E.T t = some (some ti)) (hd : ti.d = .slice el) (hte : nth E.T el = some (some te)) (ht2 : nth E.T t2 = some (some t2i)) (hd2 : t2i.d = .int k2) (H : Holds w0 S w G)
    (hroom : cap < len + m) (holds : Src w sa olds) (hlo : olds.length = len * te.size) (hz : (cellsL te.zero).length = te.size) (h0 : m * te.size ≠ 0)
    (hb : (len + m) * te.bytes ≤ 140737488355328) (h63 : len + m ≤ 9223372036854775807) (hn : Nat.blt d n = true)
    (next : ∀ b cap' news sp w', Holds w0 S w' (⟨b, row (olds ++ news ++ sp) el, true⟩ :: G) → w0.heap.size ≤ b → len + m ≤ cap' → cap' ≤ 9223372036854775807 → news.length = m * te.size → sp.length = (cap' - (len + m)) * te.size → Z ((d, .slice (some ⟨b, 0, none⟩) (len + m) cap') :: L) w') :
    StepZ E QQ n ⟨some d, .call { callee := .builtin .append, args := #[s, x], argTypes := #[t, t2] }, T, pos, e, g⟩ Z L w := by
  obtain ⟨hgood, _⟩ := E.ok t ti ht
  rw [hd] at hgood
  have hgood : E.P.underlying t = some (.slice el) := hgood
  obtain ⟨hgood2, _⟩ := E.ok t2 t2i ht2
  rw [hd2] at hgood2
  have hgood2 : E.P.underlying t2 = some (.int k2) := hgood2
  obtain ⟨i, hi, hsz, hby, hzo⟩ := bytes_of hte
  have hzc : te.zero.cells.size = te.size := by rw [cellsL_eq]; simpa using hz
  have hfo := run_first (P := E.P) (w := w.drew) (xc := cap) (m := len) (sz := te.size) (xa := sa) (news := olds) holds hlo
  have h48 : ¬ (281474976710656 < Builtin.nextslicecap (len + m) cap * te.bytes) := by have := growslice_fits hroom hb; omega
  have h63' : ¬ (9223372036854775807 < ((len : Int) + (m : Int))) := by omega
  have hw : IntKind.i64.wrap (m : Int) = (m : Int) := IntWalk.i64_in _ (by omega)
  have hmb : (m : Int) * (te.bytes : Int) ≤ 281474976710656 := by
    have h1 : m * te.bytes ≤ 140737488355328 := Nat.le_trans (Nat.mul_le_mul_right _ (by omega)) hb
    have : ((m * te.bytes : Nat) : Int) ≤ 140737488355328 := by omega
    rw [Int.natCast_mul] at this
    omega
  have hge := grownCap_ge w (len + m) cap el
  have hle : grownCap w (len + m) cap el ≤ maxLen := grownCap_le_maxLen w (len + m) cap el (by simp only [maxLen]; omega)
  refine StepZ.val (v := .slice (some ⟨w.heap.size, 0, none⟩) (len + m) (grownCap w (len + m) cap el)) (w' := w.drew.alloc (row (olds ++ (Builtin.zeroCells te.zero.cells m).toList ++ (Builtin.zeroCells te.zero.cells (grownCap w (len + m) cap el - (len + m))).toList) el)) rfl hn (fun a ha => ?_)
    (next w.heap.size (grownCap w (len + m) cap el) (Builtin.zeroCells te.zero.cells m).toList (Builtin.zeroCells te.zero.cells (grownCap w (len + m) cap el - (len + m))).toList _ (by simpa using H.drew.alloc _ true) H.fr.size hge (by simp only [maxLen] at hle; omega) (by simp [size_zeroCells, hzc]) (by simp [size_zeroCells, hzc]))
  simp only [execOp, resolve, Sem.run_bind, Sem.run_pure, Result.andThen_ok, invoke, builtin, List.map_toArray, List.map_cons, List.map_nil, ha.eval hs, ha.eval hx]
  have hnr : ¬ (len + m ≤ cap) := by omega
  have hm0 : ¬ ((m : Int) < 0) := by omega
  have hmb' : ¬ (281474976710656 < (m : Int) * (te.bytes : Int)) := by omega
  have h0' : ¬ (m = 0 ∨ te.size = 0) := by
    rintro (h | h)
    · exact h0 (by rw [h, Nat.zero_mul])
    · exact h0 (by rw [h, Nat.mul_zero])
  simp [Builtin.append_, run_underlying hgood, run_underlying hgood2, sizeOf, typeInfo, zeroValue, hi, hsz, hby, hzo, asInt, asIntOf, hw, hm0, hmb', hnr, h48, h63', h0', Question.forced, hfo, newRow, grownCap]
  rw [if_neg h0]
  refine congrArg (fun c => Result.ok _ (w.drew.alloc (Obj.cells c el (0, 0)))) ?_
  exact Array.ext' (by simp)
theorem X.bytesStr {t t2 el b off len cap : Nat} {fz : Nat × Nat} {T' : TypeId} {mm : Bool} {cs : List Value} {xs : List Int} {ti t2i te : TyI} (hx : ev L x = some (.slice (some ⟨b, off, none⟩) len cap)) (hp : Pick G b (.cells cs.toArray T' fz) mm G0) (hc : Cs cs off len (xs.map (Value.int .u8))) (hl : xs.length = len)
    (ht : nth E.T t = some (some ti)) (hd : ti.d = .slice el) (hte : nth E.T el = some (some te)) (hde : te.d = .int .u8) (ht2 : nth E.T t2 = some (some t2i)) (hd2 : t2i.d = .str) :
    PureOp E n L G ⟨some d, .convert t t2 x, T, pos, e, g⟩ (.string (strOfNums xs)) := by
  obtain ⟨h1, _⟩ := E.ok t ti ht
  rw [hd] at h1
  obtain ⟨h2, _⟩ := E.ok el te hte
  rw [hde] at h2
  obtain ⟨h3, _⟩ := E.ok t2 t2i ht2
  rw [hd2] at h3
  intro w hG a hs
  have := run_convert_bytes_arg (P := E.P) w t el h1 h2 b off len cap xs hl (fun i hi => by
    rw [cell_cells (pick_at hG hp), hc.toGet hi]
    simp [List.getD_eq_getElem?_getD, show i < xs.length by omega]) t2 h3
  simp [execOp, hs.eval hx, this]
theorem X.bytesStr0 {t t2 el len cap : Nat} {ti t2i te : TyI} (hx : ev L x = some (.slice none len cap))
    (ht : nth E.T t = some (some ti)) (hd : ti.d = .slice el) (hte : nth E.T el = some (some te)) (hde : te.d = .int .u8) (ht2 : nth E.T t2 = some (some t2i)) (hd2 : t2i.d = .str) :
    PureOp E n L G ⟨some d, .convert t t2 x, T, pos, e, g⟩ (.string (strOfNums [])) := by
  obtain ⟨h1, _⟩ := E.ok t ti ht
  rw [hd] at h1
  obtain ⟨h2, _⟩ := E.ok el te hte
  rw [hde] at h2
  obtain ⟨h3, _⟩ := E.ok t2 t2i ht2
  rw [hd2] at h3
  intro w hG a hs
  have := run_convert_bytes_nil (P := E.P) w t el h1 h2 len cap t2 h3
  simp [execOp, hs.eval hx, this]
  rfl
/-- Bytes of a constant: the row is marked. -/
theorem Y.mark {t el b len cap : Nat} {cs : List Value} {T' : TypeId} {ti te : TyI} (H : Holds w0 S w G) (hp : Pick G b (row cs T') true G0) (hx : ev L x = some (.slice (some ⟨b, 0, none⟩) len cap))
    (ht : nth E.T t = some (some ti)) (hd : ti.d = .slice el) (hte : nth E.T el = some (some te)) (hde : te.d = .int .u8) (hn : Nat.blt d n = true)
    (next : ∀ w', Holds w0 S w' (⟨b, .cells cs.toArray T' (cs.length, cs.length + 1), true⟩ :: G0) → Z ((d, .slice (some ⟨b, 0, none⟩) len cap) :: L) w') :
    StepZ E QQ n ⟨some d, .convert t t x, T, pos, e, g⟩ Z L w := by
  obtain ⟨h1, _⟩ := E.ok t ti ht
  rw [hd] at h1
  have h1 : E.P.underlying t = some (.slice el) := h1
  obtain ⟨h2, _⟩ := E.ok el te hte
  rw [hde] at h2
  have h2 : E.P.underlying el = some (.int .u8) := h2
  have HP := H.perm hp.perm
  have hb : w.heap[b]? = some (row cs T') := HP.at_ _ (List.mem_cons_self ..)
  have hlt := lt_of_at hb
  have hsh : w.shape? b = some (T', cs.length) := by simp [World.shape?, hb]
  have hf : (w.freeze ⟨b, cs.length, none⟩ 1).heap = w.heap.modify b fun
      | .cells c elem (lo, hi) => .cells c elem (if lo == hi then (cs.length, cs.length + 1) else (min lo cs.length, max hi (cs.length + 1)))
      | o => o := rfl
  refine StepZ.val (v := .slice (some ⟨b, 0, none⟩) len cap) (w' := w.freeze ⟨b, cs.length, none⟩ 1) rfl hn (fun a ha => ?_)
    (next _ (HP.put rfl rfl rfl (by rw [hf]; simp) (by rw [hf, Array.getElem?_modify, if_pos rfl, hb]; rfl) (fun c hc => by rw [hf, Array.getElem?_modify, if_neg (fun e => hc e.symm)])))
  simp [execOp, ha.eval hx, convert, run_underlying h1, run_underlying h2, markStringish, hsh]
theorem X.overlaps {fo : Operand} {f : FuncId} {fn : Func} {tS tR el va vo b off lb cb m vc : Nat} {vcs cs : List Value} {TA TB : TypeId} {ma mb : Bool} {ti te : TyI} {ts : Array TypeId} (hfo : fo = .func f) (hf : E.P.funcs[f]? = some fn) (hname : (fn.name == "runtime.NumGoroutine") = false) (hbd : fn.body.isNone = true) (hnx : Extern.findNext fn = none) (hfd : Extern.find fn = some (Extern.SlicesOverlaps.overlaps #[tS, tS] #[tR]))
    (hx : ev L x = some (.slice (some ⟨va, vo, none⟩) m vc)) (hy : ev L y = some (.slice (some ⟨b, off, none⟩) lb cb)) (hne : va ≠ b) (hpa : Pick G va (row vcs TA) ma G0) (hpb : Pick G b (row cs TB) mb G1) (hcs : cs.length ≠ 0)
    (ht : nth E.T tS = some (some ti)) (hd : ti.d = .slice el) (hte : nth E.T el = some (some te)) :
    PureOp E n L G ⟨some d, .call { callee := .value fo, args := #[x, y], argTypes := ts }, T, pos, e, g⟩ (.bool false) := by
  obtain ⟨h1, _⟩ := E.ok tS ti ht
  rw [hd] at h1
  subst hfo
  intro w hG a hs
  have ha := pick_at hG hpa
  have hb := pick_at hG hpb
  have hov : (callFunc f #[.slice (some ⟨va, vo, none⟩) m vc, .slice (some ⟨b, off, none⟩) lb cb]).run E.P w = .ok (.value (.bool false)) w := by
    rw [run_callFunc_extern hf hname hbd hnx hfd, Lib.run_overlaps_apart w tS tR el h1 te.size (fun w => E.sizeOf w hte) ⟨va, vo, none⟩ ⟨b, off, none⟩ m vc lb cb hne TA TB vcs.length cs.length (by simp [World.shape?, ha]) (by simp [World.shape?, hb]) hcs (by simp [World.frozen?, ha]) (by simp [World.frozen?, ha])]
    rfl
  have e0 : a.eval (.func f) = .func (.func f) #[] #[] := rfl
  simp [execOp, resolve, e0, Deferred.ofValue, invoke, hs.eval hx, hs.eval hy, hov]
theorem X.half {t t' : Nat} {kd k2 : IntKind} {a r : Int} (hx : ev L x = some (.int kd a)) (hy : ev L y = some (.int k2 1)) (ha : 0 ≤ a ∧ 1 ≤ kd.bits) (hr : a / 2 = r) :
    PureOp E n L G ⟨some d, .binOp .shr t x y t', T, pos, e, g⟩ (.int kd r) := by
  subst hr
  intro w hG c hs
  have h1 : min 1 kd.bits = 1 := by omega
  have h2 : a.fdiv 2 = a / 2 := Int.fdiv_eq_ediv_of_nonneg _ (by decide)
  simp [execOp, hs.eval hx, hs.eval hy, eqGuard, binOp, Op.shift, h1, h2]
theorem X.strNe {t t' : Nat} {a b : ByteArray} (hx : ev L x = some (.string a)) (hy : ev L y = some (.string b)) :
    PureOp E n L G ⟨some d, .binOp .neq t x y t', T, pos, e, g⟩ (.bool (!decide (a.toList = b.toList))) := by
  intro w hG c hs
  simp [execOp, hs.eval hx, hs.eval hy, eqGuard, binOp, Op.stringOp]
  rw [Bool.eq_iff_iff]; simp
theorem X.slice_l0 {t el j : Nat} {kd : IntKind} {ti te : TyI} (hx : ev L x = some (.slice none 0 0)) (hy : ev L y = some (.int kd (j : Nat))) (hj : j = 0) (ht : nth E.T t = some (some ti)) (hd : ti.d = .slice el) (hte : nth E.T el = some (some te)) :
    PureOp E n L G ⟨some d, .slice t x (some y) none none, T, pos, e, g⟩ (.slice none 0 0) := by
  obtain ⟨hgood, _⟩ := E.ok t ti ht
  rw [hd] at hgood
  have hgood : E.P.underlying t = some (.slice el) := hgood
  subst hj
  intro w _ c hs
  simp only [execOp, hs.eval hx, Option.map_some, Option.map_none, hs.eval hy, Instr.sliceAt, Sem.run_bind, run_underlying hgood, Result.andThen_ok, Instr.slice, Instr.sliceBounds, run_bound (Nat.le_refl 0), Sem.run_pure, E.sizeOf w hte, if_true]
end
end Go.Proofs.Ytaneenahapdabaa
