/-
  Core23: make; one's own slice cut short; bytes to a string.
-/
import Derived.Test.YtkfpmbinifaakaaDoorCore22
import Derived.Laws.MakeOwn
import Derived.Laws.IdiomStrings
namespace Go.Av

section
variable {P : Program} {G : Nat → Option (List V)}

theorem OpOk.makeSlice {D : Tab} (hD : TabOk P D) {o : Oper} {e : Operand → V} {H : Hp} {t el : TypeId} {l c : Operand} {it ie : Ty} (q n : Nat) {kl kc : IntKind} {nl nc : Int}
    (ho : o.op = .makeSlice t l c) (ht : D.at t = some it) (hit : it.d = .slice el) (hel : D.at el = some ie) (_hs0 : ie.size ≠ 0) (hl : e l = .c (.int kl nl)) (hc : e c = .c (.int kc nc)) (hnl : nl = n) (hnc : nc = n)
    (hb : ie.bytes * n ≤ 281474976710656) (hmax : n ≤ maxLen) (hq : hasH q H = false) :
    OpOk P G o e H (.own q) ((q, .vec false el ie.size (List.replicate n (ie.zero.map .c))) :: hrem [] H) [q] := by
  intro ρ S F η w hη hH hG
  have h1 := hη l (by simp [ho, Op.operands])
  have h2 := hη c (by simp [ho, Op.operands])
  rw [hl] at h1
  rw [hc] at h2
  obtain ⟨⟨inf, z0, e1, e2, e3, e4, e5, e6, e7⟩, _, _⟩ := hD _ _ hel
  have hzs : z0.cells.size = ie.size := by rw [← Array.length_toList, e5, e7]
  subst hnl hnc
  have hb' : (inf.bytes : Int) * (n : Int) ≤ 281474976710656 := by
    rw [e3]
    have h : ((ie.bytes * n : Nat) : Int) ≤ 281474976710656 := by omega
    rwa [Int.natCast_mul] at h
  have hr := run_make (P := P) w t el inf z0 (slice_ty hD ht hit) e1 e4 kl kc n n (by omega) (Int.le_refl _) hb' (by simp only [maxLen] at hmax; omega)
  simp only [Int.toNat_natCast] at hr
  have hrun : (execOp η o).run P w = .ok (.value (.slice (some ⟨w.heap.size, 0, none⟩) n n)) (w.alloc (.cells (madeCells z0.cells (n * inf.size)) el)) := by
    unfold execOp
    simp only [ho, h1.c_inv, h2.c_inv, hr, Sem.run_bind, Result.andThen_ok, Sem.run_pure]
  unfold ExecTo
  rw [hrun, e2]
  have hrow : ∀ (i : Nat) (r : List V), (List.replicate n (ie.zero.map V.c))[i]? = some r → i < n ∧ r = ie.zero.map V.c := fun i r hi => by
    rw [List.getElem?_replicate] at hi
    split at hi
    · cases hi; exact ⟨‹_›, rfl⟩
    · cases hi
  have hcell : ∀ (i j : Nat) (r : List V) (y : V), (List.replicate n (ie.zero.map V.c))[i]? = some r → r[j]? = some y → ∃ u, ie.zero[j]? = some u ∧ y = .c u ∧ (madeCells z0.cells (n * ie.size))[i * ie.size + j]? = some u := fun i j r y hi hj => by
    obtain ⟨hin, rfl⟩ := hrow i r hi
    rw [List.getElem?_map, Option.map_eq_some_iff] at hj
    obtain ⟨u, hu, rfl⟩ := hj
    refine ⟨u, hu, rfl, ?_⟩
    have hjk : j < ie.size := by rw [← e7]; exact (List.getElem?_eq_some_iff.1 hu).1
    unfold madeCells
    rw [Array.getElem?_map, Array.getElem?_range, if_pos (idx_lt hin hjk)]
    simp only [Option.map_some, hzs]
    have hmod : (i * ie.size + j) % ie.size = j := by rw [Nat.mul_comm, Nat.mul_add_mod]; exact Nat.mod_eq_of_lt hjk
    rw [hmod, getElem!_pos z0.cells j (by rw [hzs]; exact hjk)]
    rw [← e5] at hu
    have := (List.getElem?_eq_some_iff.1 hu).2
    simpa using this
  have hlen : (List.replicate n (ie.zero.map V.c)).length = n := by simp
  refine Post.repl hH [] hq (w' := w.alloc (.cells (madeCells z0.cells (n * ie.size)) el)) (root := .slice (some ⟨w.heap.size, 0, none⟩) n n) (Fi := w.heap.size :: flat n ie.size fun _ _ => []) rfl rfl rfl (by simp) (fun b hb _ => heap_new w _ b hb) (fun ρ' => ?_) ?_ (fun b hb => ?_) (.own _ q fun r hr => ?_)
  · have h0 : Value.slice (some ⟨w.heap.size, 0, none⟩) n n = Value.slice (some ⟨w.heap.size, 0, none⟩) (List.replicate n (ie.zero.map V.c)).length n := by rw [hlen]
    rw [h0, show flat n ie.size (fun _ _ => []) = flat (List.replicate n (ie.zero.map V.c)).length ie.size (fun _ _ => []) by rw [hlen]]
    refine .vec w.heap.size n _ false el ie.size _ (fun i j => (madeCells z0.cells (n * ie.size)).getD (i * ie.size + j) undef) (fun _ _ => []) (heap_alloc_new w _) (by rw [hlen]; exact Nat.le_refl _) hmax (by simp [madeCells]) (fun i r h => by obtain ⟨_, rfl⟩ := hrow i r h; simp [e7]) (fun i j r y h1 h2 => ?_) (fun i j r y h1 h2 => ?_)
    · obtain ⟨u, hu, _, hm⟩ := hcell i j r y h1 h2
      simp [Array.getD_eq_getD_getElem?, hm]
    · obtain ⟨u, hu, rfl, hm⟩ := hcell i j r y h1 h2
      have : (madeCells z0.cells (n * ie.size)).getD (i * ie.size + j) undef = u := by simp [Array.getD_eq_getD_getElem?, hm]
      rw [this]
      exact .c u (List.all_eq_true.1 e6 u (List.mem_of_getElem? hu))
  · rw [List.nodup_cons]
    refine ⟨fun h => ?_, ?_⟩
    · obtain ⟨i, j, _, _, hb⟩ := mem_flat.1 h; cases hb
    · rw [flat_nodup]; exact ⟨fun _ _ _ _ => List.nodup_nil, fun _ _ _ _ _ _ _ _ _ hb => by cases hb⟩
  · rcases List.mem_cons.1 hb with rfl | hb
    · exact .inr ⟨Nat.le_refl _, by simp⟩
    · obtain ⟨i, j, _, _, hb⟩ := mem_flat.1 hb; cases hb
  · simp at hr; exact hr

/-- one's own slice cut short: 's[:n]' -/
theorem OpOk.cutOwn {D : Tab} (hD : TabOk P D) {o : Oper} {e : Operand → V} {H : Hp} {t el : TypeId} {x : Operand} {h : Operand} {it ie : Ty} (q : Nat) {i : Nat} {nn : Bool} {rows : List (List V)} (n : Nat) {kh : IntKind} {nh : Int}
    (ho : o.op = .slice t x none (some h) none) (ht : D.at t = some it) (hit : it.d = .slice el) (hel : D.at el = some ie) (hx : e x = .own i) (hi : look H i = some (.vec nn el ie.size rows)) (hh : e h = .c (.int kh nh)) (hn : nh = n) (hle : n ≤ rows.length) (hq : hasH q H = false) :
    OpOk P G o e H (.own q) ((q, .vec false el ie.size (rows.take n)) :: hrem [i] H) [q] := by
  intro ρ S F η w hη hH hG
  have h1 := hη x (by simp [ho, Op.operands])
  rw [hx] at h1
  obtain ⟨r, hr, hob⟩ := hH.obj i _ hi
  have hxr := h1.own_inv r hr
  have hnd := hH.nodup i _ hi
  have hcut : cutOk e rows.length 0 n none (some h) := ⟨Nat.zero_le _, hle, rfl, ⟨kh, by rw [hh, hn]⟩⟩
  generalize hFi : F i = Fi at hob hnd
  cases hob with
  | vnil =>
    have hn0 : n = 0 := by simpa using hle
    subst hn0
    have hb := run_sliceBounds (P := P) (ρ := ρ) (S := S) (w := w) (isSlice := true) (η := η) (e := e) (l := none) (h := some h) (cap := 0) (fun y hy => by cases hy) (fun y hy => hη y (by simp [ho, Op.operands]; right; simpa using hy.symm)) hcut (by simp)
    simp only [List.length_nil, Option.map_none, Option.map_some] at hb
    have hrun : (execOp η o).run P w = .ok (.value (.slice none 0 0)) w := by
      unfold execOp
      simp only [ho, hxr, Instr.sliceAt, Sem.run_bind, run_underlying (slice_ty hD ht hit), Result.andThen_ok, Option.map_none, Option.map_some]
      simp [Instr.slice, run_underlying (slice_ty hD ht hit), hb, (hD _ _ hel).sizeOf w]
    unfold ExecTo
    rw [hrun]
    refine Post.repl hH [i] hq (w' := w) (root := .slice none 0 0) (Fi := []) rfl rfl rfl (Nat.le_refl _) (fun b hb _ => rfl) (fun ρ' => ?_) List.nodup_nil (fun b hb => by cases hb) (.own _ q fun r hr => by simp at hr; exact hr)
    exact .vnil _ _
  | vec g cap arr _ _ _ _ cs Fs hhp hcap hmax hsz hk hc hrd =>
    have hb := run_sliceBounds (P := P) (ρ := ρ) (S := S) (w := w) (isSlice := true) (η := η) (e := e) (l := none) (h := some h) (cap := cap) (fun y hy => by cases hy) (fun y hy => hη y (by simp [ho, Op.operands]; right; simpa using hy.symm)) hcut hcap
    simp only [Option.map_none, Option.map_some] at hb
    have hrun : (execOp η o).run P w = .ok (.value (.slice (some ⟨g, 0, none⟩) n cap)) w := by
      unfold execOp
      simp only [ho, hxr, Instr.sliceAt, Sem.run_bind, run_underlying (slice_ty hD ht hit), Result.andThen_ok, Option.map_none, Option.map_some]
      simp only [Instr.slice, Sem.run_bind, run_underlying (slice_ty hD ht hit), Result.andThen_ok, hb, (hD _ _ hel).sizeOf w, Sem.run_pure]
      have : (if (cap = 0) then (⟨g, 0, none⟩ : Addr) else (⟨g, 0, none⟩ : Addr).add (0 * ie.size)) = ⟨g, 0, none⟩ := by simp [Addr.add]
      split <;> simp [Addr.add]
    unfold ExecTo
    rw [hrun]
    have hlen : (rows.take n).length = n := by simp; omega
    have hget : ∀ (p : Nat) (r' : List V), (rows.take n)[p]? = some r' → p < n ∧ rows[p]? = some r' := fun p r' hp => by
      rw [List.getElem?_take] at hp
      split at hp
      · exact ⟨‹_›, hp⟩
      · cases hp
    have hndc := List.nodup_cons.1 hnd
    have hfn := flat_nodup.1 hndc.2
    refine Post.repl hH [i] hq (w' := w) (root := .slice (some ⟨g, 0, none⟩) n cap) (Fi := g :: flat n ie.size Fs) rfl rfl rfl (Nat.le_refl _) (fun b hb _ => rfl) (fun ρ' => ?_) ?_ (fun b hb => ?_) (.own _ q fun r hr => by simp at hr; exact hr)
    · have h0 : Value.slice (some ⟨g, 0, none⟩) n cap = Value.slice (some ⟨g, 0, none⟩) (rows.take n).length cap := by rw [hlen]
      rw [h0, show flat n ie.size Fs = flat (rows.take n).length ie.size Fs by rw [hlen]]
      exact .vec g cap arr false el ie.size _ cs Fs hhp (by rw [hlen]; omega) hmax hsz (fun p r' hp => hk p r' (hget p r' hp).2) (fun p j r' y hp hj => hc p j r' y (hget p r' hp).2 hj) (fun p j r' y hp hj => hrd p j r' y (hget p r' hp).2 hj)
    · rw [List.nodup_cons]
      refine ⟨fun hb => hndc.1 ?_, flat_nodup.2 ⟨fun p j hp hj => hfn.1 p j (by omega) hj, fun p j p' j' b hp hj hp' hj' => hfn.2 p j p' j' b (by omega) hj (by omega) hj'⟩⟩
      obtain ⟨p, j, hp, hj, hb⟩ := mem_flat.1 hb
      exact mem_flat.2 ⟨p, j, by omega, hj, hb⟩
    · refine .inl ⟨i, _, by simp, hi, ?_⟩
      rw [hFi]
      rcases List.mem_cons.1 hb with rfl | hb
      · simp
      · obtain ⟨p, j, hp, hj, hb⟩ := mem_flat.1 hb
        exact List.mem_cons_of_mem _ (mem_flat.2 ⟨p, j, by omega, hj, hb⟩)

theorem u8_ty {D : Tab} (hD : TabOk P D) {t : TypeId} {it : Ty} (ht : D.at t = some it) (hit : it.d = .int .u8) : P.underlying t = some (.int .u8) := by
  obtain ⟨_, ⟨d, u1, u2⟩, _⟩ := hD _ _ ht
  rw [hit] at u2
  have hd : d = .int .u8 := by cases d <;> simp_all [TD.is]
  subst hd
  exact u1

theorem byteRow_get {l : List UInt8} {j : Nat} {r : List V} (h : (l.map byteRow)[j]? = some r) : ∃ b, l[j]? = some b ∧ r = [.c (.int .u8 b.toNat)] := by
  rw [List.getElem?_map, Option.map_eq_some_iff] at h
  obtain ⟨b, hb, rfl⟩ := h
  exact ⟨b, hb, rfl⟩

/-- 'string(bytes)', of one's own bytes -/
theorem OpOk.strOwn {D : Tab} (hD : TabOk P D) {o : Oper} {e : Operand → V} {H : Hp} {t el t' : TypeId} {x : Operand} {it ie it' : Ty} {i : Nat} {nn : Bool} {ety : TypeId} {l : List UInt8}
    (ho : o.op = .convert t t' x) (ht : D.at t = some it) (hit : it.d = .slice el) (hel : D.at el = some ie) (hie : ie.d = .int .u8) (ht' : D.at t' = some it') (hit' : it'.d = .str) (hx : e x = .own i) (hi : look H i = some (.vec nn ety 1 (l.map byteRow))) :
    OpOk P G o e H (V.str l) H [] := by
  refine OpOk.pure fun ρ S F η w hη hH => ?_
  have h1 := hη x (by simp [ho, Op.operands])
  rw [hx] at h1
  obtain ⟨r, hr, hob⟩ := hH.obj i _ hi
  have hxr := h1.own_inv r hr
  refine ⟨.string ⟨⟨l⟩⟩, ?_, .c _⟩
  unfold execOp
  simp only [ho, hxr]
  generalize F i = Fi at hob
  generalize hrows : l.map byteRow = rows at hob
  cases hob with
  | vnil =>
    have : l = [] := by simpa using hrows
    subst this
    have hs := slice_ty hD ht hit
    have he := u8_ty hD hel hie
    have hd := str_ty hD ht' hit'
    simp only [Sem.run_bind, run_convert_bytes_string w t t' el none 0 0 hs he hd, Conv.bytesToString, Sem.run_pure, Result.andThen_ok]
    rfl
  | vec g cap arr _ _ _ _ cs Fs hh hcap hmax hsz hk hc hrd =>
    have hl : rows.length = l.length := by rw [← hrows]; simp
    rw [hl]
    have := run_convert_bytes_back (P := P) w t t' el ⟨g, 0, none⟩ cap l (slice_ty hD ht hit) (u8_ty hD hel hie) (str_ty hD ht' hit') fun j hj => by
      have hrj : rows[j]? = some (byteRow l[j]) := by rw [← hrows, List.getElem?_map, List.getElem?_eq_getElem hj]; rfl
      have h3 := hc j 0 _ (.c (.int .u8 (l[j].toNat : Int))) hrj rfl
      have h4 := hrd j 0 _ (.c (.int .u8 (l[j].toNat : Int))) hrj rfl
      rw [Addr.add_lit, cell_of_row w g (0 + j) arr ety (0, 0) hh]
      have hv : cs j 0 = .int .u8 (l[j].toNat : Int) := by
        generalize Fs j 0 = F0 at h4
        generalize cs j 0 = c0 at h4
        cases h4; rfl
      rw [← hv, show 0 + j = j * 1 + 0 by omega]
      exact h3
    simp only [Sem.run_bind, this, Result.andThen_ok, Sem.run_pure]

end
end Go.Av
