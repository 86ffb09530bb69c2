/-
 Abstract values, states, walks, part 1.
-/
import Derived.Tactics
import Derived.Orders
import Derived.Maps.AppendAt
import Derived.Deep.AppendSrc
import Derived.Deep.LoopGhost
import Derived.RangeFuncRecord
import Derived.OrdersIn
import Derived.LoopNIn
import Derived.TacticsIn
import Derived.Laws.StructEq
set_option linter.all false
namespace Go.Av
def aG:=@cond_false
def dK:=@List.getElem?_eq_some_iff
def aH:=@cond_true
def fQ:=@List.getElem?_eq_getElem
def eD:=@Option.map_eq_some_iff
def jQ:=@List.length_append
def dL:=@Bool.and_eq_true
def gD:=@List.getElem?_map
def nS:=@Array.getD_eq_getD_getElem?
def gN:=@Go.Result.andThen_ok
def mP:=@Array.getElem?_eq_getElem
def iG:=@Option.some.injEq
def uQ:=@List.getElem?_append_right
def kC:=@List.append_assoc
def nT:=@List.mem_of_getElem?
def cZ:=@Nat.le_refl
def tN:=@Array.getElem?_eq_some_iff
def fF:=@List.mem_cons
def uR:=@List.getElem?_append_left
def dB:=@Option.bind_eq_some_iff
def gU:=@Go.Sem.run_bind
def fT:=@List.length_cons
def sG:=@List.mem_cons_of_mem
def bI:=@if_neg
def qL:=@Int.eq_ofNat_of_zero_le
def fU:=@decide_eq_true
def lG:=@decide_eq_true_eq
def jo:=@List.mem_append
def kW:=@List.all_eq_true
def lH:=@Bool.or_eq_true
def kD:=@Option.some.inj
def kE:=@Bool.not_true
def mQ:=@List.getElem_mem
def kX:=@Bool.not_eq_true'
def pQ:=@List.append_nil
def nU:=@of_decide_eq_true
def qw:=@List.nodup_cons
def nV:=@Go.run_underlying
def nE:=@decide_eq_false
def dA:=@if_pos
def kY:=@Go.Sem.run_pure
def vW:=@Nat.mul_le_mul_right
def nG:=@List.mem_singleton
def Az:=@Nat.lt_of_lt_of_le
def pR:=@Prod.mk.injEq
def dN:=@Bool.not_false
def vY:=@List.mem_flatMap
def jV:=@List.map_cons
def AA:=@List.getElem?_eq_none
def AB:=@List.getElem?_take
def qx:=@List.map_congr_left
def Co:=@Array.length_toList
def zA:=@List.length_nil
def Cq:=@List.length_eq_zero_iff
def qM:=@Nat.zero_add
def QD:=@List.length_singleton
def MB:=@Go.World.putObj_heap_other
def zB:=@List.drop_eq_getElem_cons
def AJ:=@List.drop_of_length_le
def Zz:=@List.length_eq_one_iff
def jW:=@List.mem_map
def Hg:=@List.getElem?_of_mem
def Eb:=@List.getElem?_drop
def Fy:=@Nat.le_of_ble_eq_true
def mR:=@beq_iff_eq
def Hl:=@List.getD_eq_getElem?_getD
def uS:=@List.nil_append
def kF:=@if_true
def vZ:=@List.map_append
def adH:=@List.eq_nil_of_length_eq_zero
def Ho:=@Int.toNat_natCast
def ajw:=@Bool.and_self
def xA:=@Nat.lt_or_ge
def Cr:=@List.mem_map_of_mem
def wh:=@Nat.add_mul
def MC:=@Option.isSome_iff_exists
def Kk:=@List.getElem?_toArray
def Fz:=@List.getElem?_cons_zero
def ME:=@Bool.or_eq_false_iff
def wm:=@List.cons_append
def QE:=@Array.getElem?_append_left
def rO:=@Bool.true_and
def FB:=@List.nodup_nil
def FC:=@Bool.and_true
def sH:=@Nat.le_trans
def mE:=@List.length_map
def Kl:=@Option.isSome_some
def Km:=@Option.isSome_none
def MF:=@Int.natCast_nonneg
def FD:=@List.length_take
def MG:=@List.getElem?_cons_succ
def FE:=@List.all_cons
def Ct:=@Nat.zero_le
def MH:=@List.flatMap_append
def Hq:=@List.contains_iff_mem
def QF:=@Array.getElem?_map
def ajx:=@decide_true
def UL:=@Go.World.putObj_size
def MI:=@Option.map_some
def Kn:=@Nat.add_assoc
def Ko:=@Array.mem_append
def MJ:=@List.not_mem_nil
def zC:=@List.drop_zero
def AL:=@Nat.ble_eq
def QG:=@of_decide_eq_false
def tO:=@Ne.symm
def asL:=@Go.wpIn_region_lit
def UM:=@Classical.choose_spec
def Hr:=@Go.Addr.add_lit
def Kq:=@List.all_nil
def Ht:=@Nat.add_zero
def FH:=@List.getElem?_set
def ZA:=@List.pairwise_iff_getElem
def Hu:=@List.length_drop
def nW:=@List.map_map
def Kr:=@Int.pow_succ
def UN:=@Nat.eq_zero_or_pos
def UO:=@Array.empty_append
def QH:=@Option.map_none
def ZB:=@List.size_toArray
def UQ:=@List.drop_drop
def MK:=@Bool.and_false
def ZC:=@Array.getElem?_toList
def QI:=@Nat.mul_comm
def ZE:=@List.contains_eq_mem
def asM:=@Go.Oper.semAt_eq
def adI:=@Array.getElem?_setIfInBounds
def QJ:=@beq_eq_false_iff_ne
def UR:=@Go.cell_of_row
def adJ:=@Array.getElem?_append_right
def ML:=@List.map_id
def ZF:=@List.range_succ
def ZG:=@Nat.add_right_comm
def ZH:=@Nat.lt_or_gt_of_ne
def adK:=@List.mem_of_find?_eq_some
def adL:=@List.mem_or_eq_of_mem_set
def MN:=@Nat.blt_eq
def ajy:=@List.take_add_one
def Kt:=@Bool.false_or
def ZI:=@Go.Sem.run_ite
def asN:=@Nat.add_sub_cancel_left
def ZJ:=@Option.getD_some
def ZK:=@Array.toList_inj
def asO:=@List.getElem?_set_self
def adM:=@Nat.sub_self
def ajz:=@Go.callsIn_wide
def UU:=@Int.mul_comm
def ZL:=@Nat.div_add_mod
def adN:=@List.foldl_cons
def adO:=@List.pairwise_flatMap
def asP:=@Go.wpIn_seq
def QK:=@Nat.mod_lt
def Hw:=@Eq.trans
def adP:=@Nat.div_lt_of_lt_mul
def adQ:=@List.mem_of_mem_take
def ZM:=@List.mem_range
def adR:=@Go.heap_alloc_new
def asQ:=@Int.toNat_of_nonneg
def ZN:=@Nat.lt_irrefl
def adS:=@Int.tmod_lt_of_pos
def MO:=@List.sum_cons
def ajA:=@Nat.add_sub_cancel
def MP:=@or_false
def adT:=@Nat.lt_trichotomy
def adU:=@Go.run_storeCells_at
def ZO:=@Nat.mul_zero
def ZP:=@List.map_set
def zD:=@List.map_nil
def ajB:=@List.eq_nil_iff_forall_not_mem
def adV:=@Go.IntKind.wrap_i64
def Hy:=@beq_self_eq_true
def Cu:=@Int.le_refl
def asR:=@Go.wpIn_cond_false
def adW:=@Int.tmod_nonneg
def adX:=@List.find?_some
def adY:=@Nat.mul_one
def adZ:=@List.length_set
def ZQ:=@Nat.one_mul
def Ec:=@Bool.false_and
def asS:=@Go.wpIn_cond_true
def asT:=@List.getElem?_replicate
def ajC:=@Array.getElem?_eq_none
def ajD:=@Array.getElem?_extract
def aea:=@List.take_of_length_le
def ajE:=@Bool.and_eq_false_iff
def asU:=@Go.CallsIn.mono
def asV:=@Go.results_none
def kG:=@Nat.le_of_lt
def Ku:=@decide_false
def ajF:=@Nat.ble_eq_true_of_le
def aeb:=@List.set_set
def ZR:=@Go.mem_ready
def aec:=@Go.setRow_other
def ajG:=@getElem!_pos
def ajH:=@Array.mem_of_getElem?
def ah {p:Prop} (h:p:=by omega):p:=h
def au {p:Prop} (h:p:=by kernel_rfl):p:=h
def aF {p:Prop} (h:p:=by simp):p:=h
def aD {p:Prop} (h:p:=by decide):p:=h
def bT {p:Prop} (h:p:=by simp;omega):p:=h
def gF {p:Prop} (h:p:=by first|rfl|trivial):p:=h
def gy {p:Prop} (h:p:=by simp [Op.operands]):p:=h
def mO {p:Prop} (h:p:=by decide+kernel):p:=h
def aJB {p:Prop} (h:p:=by simp only;omega):p:=h
def av {α β:Type} (a:α) (f:α->Option β):Option.bind (some a) f=f a:=rfl
inductive V where
 | junk
 | c (v:Value)
 | sl (nn x:Bool) (rows:List (List V))
 | own (id:Nat)
 | loc (id off:Nat)
 | vp (id k i j:Nat)
 | vw (id k a n:Nat)
 | el (cells:List V)
 | fn (f:FuncId) (caps:List V)
 | agg (cells:List V)
 | jX (vs:List V)
 deriving Inhabited
def flat (n k:Nat) (Fs:Nat->Nat->List Nat):List Nat:=(List.range n).flatMap fun i=>(List.range k).flatMap fun j=>Fs i j
def tight (k:Nat):Value->Prop
 | .slice _ n cap=>n=0->k=1\/cap=0
 | _=>True
inductive RD (S:Nat->Prop) (w:World):Value->V->List Nat->Prop
 | c (v:Value) (h:v.oneCell'=true):RD S w v (.c v) []
 | mF (x:Bool):RD S w (.slice none 0 0) (.sl false x []) []
 | shr (a:Addr) (cap:Nat) (nn:Bool) (rows:List (List V)) (k:Nat) (cs:Nat->Nat->Value)
   (hlen:rows.length<=maxLen) (hcap:rows.length<=cap) (hk:∀ (i:Nat) (r:List V),rows[i]?=some r->r.length=k)
   (hc:∀ (i j:Nat) (r:List V) (x:V),rows[i]?=some r->r[j]?=some x->S a.block/\w.cell? (a.add<|i*k+j)=some (cs i j))
   (hr:∀ (i j:Nat) (r:List V) (x:V),rows[i]?=some r->r[j]?=some x->RD S w (cs i j) x []):RD S w (.slice (some a) rows.length cap) (.sl nn false rows) []
 | exc (g cap:Nat) (arr:Array Value) (ety:TypeId) (nn:Bool) (rows:List (List V)) (k:Nat) (cs:Nat->Nat->Value) (Fs:Nat->Nat->List Nat)
   (hh:w.heap[g]?=some (.cells arr ety (0,0))) (hcap:rows.length<=cap) (hmax:cap<=maxLen) (hsz:arr.size=cap*k)
   (hk:∀ (i:Nat) (r:List V),rows[i]?=some r->r.length=k)
   (hc:∀ (i j:Nat) (r:List V) (x:V),rows[i]?=some r->r[j]?=some x->arr[i*k+j]?=some (cs i j))
   (hr:∀ (i j:Nat) (r:List V) (x:V),rows[i]?=some r->r[j]?=some x->RD S w (cs i j) x (Fs i j)) (ht:rows.length=0->k=1\/cap=0:=by assumption):
   RD S w (.slice (some ⟨g,0,none⟩) rows.length cap) (.sl nn true rows) (g::flat rows.length k Fs)
def RD.one {S:Nat->Prop} {w:World} {v:Value} {x:V} {F:List Nat} (h:RD S w v x F):v.oneCell'=true:=by
 cases h<;>first|assumption|rfl
def qy {n k:Nat} {Fs:Nat->Nat->List Nat} {b:Nat}:b∈flat n k Fs↔∃ i j,i < n/\j < k/\b∈Fs i j:=by
 simp only [flat,vY,ZM];constructor
 .rintro ⟨i,hi,j,hj,hb⟩;exact ⟨i,j,hi,hj,hb⟩
 .rintro ⟨i,j,hi,hj,hb⟩;exact ⟨i,hi,j,hj,hb⟩
def RD.mono {S S':Nat->Prop} {w w':World} {v:Value} {x:V} {F:List Nat} (h:RD S w v x F)
  (hS:∀ b,S b->S' b/\w'.heap[b]?=w.heap[b]?) (hF:∀ b,b∈F->w'.heap[b]?=w.heap[b]?):RD S' w' v x F:=by
 induction h with
 | c v h=>exact .c v h
 | mF x=>exact .mF x
 | shr a cap nn rows k cs hlen hcap hk hc hr ih=>
  refine .shr a cap nn rows k cs hlen hcap hk (fun i j r x h1 h2=>?_) (fun i j r x h1 h2=>ih i j r x h1 h2 fun b hb=>by cases hb);obtain ⟨hs,hcell⟩:=hc i j r x h1 h2;obtain ⟨hs',hw⟩:=hS _ hs;exact ⟨hs',(World.cell?_of_block<|by simpa [Addr.add] using (by split<;>exact hw)).trans hcell⟩
 | exc g cap arr ety nn rows k cs Fs hh hcap hmax hsz hk hc hr ht ih=>
  refine .exc g cap arr ety nn rows k cs Fs ((hF g aF).trans hh) hcap hmax hsz hk hc (fun i j r x h1 h2=>ih i j r x h1 h2 fun b hb=>hF b ?_) ht;have hi:i < rows.length:=(dK.1 h1).1;have hj:j < k:=by
   have:=(dK.1 h2).1;rw [hk i r h1] at this;exact this
  exact sG _ (qy.2 ⟨i,j,hi,hj,hb⟩)
mutual
def V.has (i:Nat):V->Bool
 | .own j=>i==j
 | .loc j _=>i==j
 | .vp j _ _ _=>i==j
 | .vw j _ _ _=>i==j
 | .fn _ cs=>V.nX i cs
 | .agg cs=>V.nX i cs
 | .jX cs=>V.nX i cs
 | _=>false
def V.nX (i:Nat):List V->Bool
 | []=>false
 | x::r=>V.has i x||V.nX i r
end
def UW {i:Nat} {x:V} {l:List V} (hx:x∈l) (h:x.has i=true):V.nX i l=true:=by
 induction l with
 | nil=>cases hx
 | cons y l ih=>
  simp only [V.nX,lH];rcases fF.1 hx with rfl|hx
  .exact .inl h
  .exact .inr (ih hx)
inductive RV (ρ:Nat->Option Value) (S:Nat->Prop) (w:World):Value->V->Prop
 | junk (v:Value):RV ρ S w v .junk
 | c (v:Value):RV ρ S w v (.c v)
 | sl (v:Value) (nn x:Bool) (rows:List (List V)) (h:RD S w v (.sl nn x rows) []):RV ρ S w v (.sl nn x rows)
 | own (v:Value) (i:Nat) (h:∀ r,ρ i=some r->v=r):RV ρ S w v (.own i)
 | loc (v:Value) (i off:Nat) (h:∀ r,ρ i=some r->∃ g,r=.pointer (some ⟨g,0,none⟩)/\v=.pointer (some ⟨g,off,none⟩)):RV ρ S w v (.loc i off)
 | vp (v:Value) (i k a b:Nat) (h:∀ r,ρ i=some r->∃ g n cap,r=.slice (some ⟨g,0,none⟩) n cap/\v=.pointer (some ⟨g,a*k+b,none⟩)):RV ρ S w v (.vp i k a b)
 | vw (v:Value) (i k a n:Nat) (h:∀ r,ρ i=some r->(v=.slice none 0 0/\n=0)\/∃ A c,v=.slice (some A) n c/\(n≠0->∃ g m cap,r=.slice (some ⟨g,0,none⟩) m cap/\A=⟨g,a*k,none⟩)):RV ρ S w v (.vw i k a n)
 | el (a:Addr) (cells:List V) (cs:Nat->Value) (hc:∀ (j:Nat) (x:V),cells[j]?=some x->S a.block/\w.cell? (a.add j)=some (cs j))
   (hr:∀ (j:Nat) (x:V),cells[j]?=some x->RD S w (cs j) x []):RV ρ S w (.pointer<|some a) (.el cells)
 | fn (f:FuncId) (arr:Array Value) (caps:List V) (hsz:arr.size=caps.length)
   (hr:∀ (j:Nat) (x:V) (c:Value),caps[j]?=some x->arr[j]?=some c->RV ρ S w c x):RV ρ S w (.func (.func f) #[] arr) (.fn f caps)
 | agg (arr:Array Value) (cells:List V) (hsz:arr.size=cells.length) (h1:∀ (j:Nat) (c:Value),arr[j]?=some c->c.oneCell'=true)
   (hr:∀ (j:Nat) (x:V) (c:Value),cells[j]?=some x->arr[j]?=some c->RV ρ S w c x):RV ρ S w (.agg arr) (.agg cells)
 | jX (arr:Array Value) (cells:List V) (hsz:arr.size=cells.length)
   (hr:∀ (j:Nat) (x:V) (c:Value),cells[j]?=some x->arr[j]?=some c->RV ρ S w c x):RV ρ S w (.tuple arr) (.jX cells)
def RD.ajI {ρ:Nat->Option Value} {S:Nat->Prop} {w:World} {v:Value} {x:V} (h:RD S w v x []):RV ρ S w v x:=by
 cases x with
 | c u=>cases h;exact .c _
 | sl nn b rows=>exact .sl v nn b rows h
 | _=>cases h
def Keeps (S:Nat->Prop) (w:World) (S':Nat->Prop) (w':World):Prop:=∀ b,S b->S' b/\w'.heap[b]?=w.heap[b]?
def RV.mono {ρ ρ':Nat->Option Value} {S S':Nat->Prop} {w w':World} {v:Value} {x:V} (h:RV ρ S w v x)
  (hρ:∀ i r,ρ' i=some r->x.has i=true->ρ i=some r) (hS:Keeps S w S' w'):RV ρ' S' w' v x:=by
 induction h with
 | junk v=>exact .junk v
 | c v=>exact .c v
 | sl v nn x rows h=>exact .sl v nn x rows (h.mono hS fun b hb=>by cases hb)
 | own v i h=>exact .own v i fun r hr=>h r (hρ i r hr<|by simp [V.has])
 | loc v i off h=>exact .loc v i off fun r hr=>h r (hρ i r hr<|by simp [V.has])
 | vp v i k a b h=>exact .vp v i k a b fun r hr=>h r (hρ i r hr<|by simp [V.has])
 | vw v i k a b h=>exact .vw v i k a b fun r hr=>h r (hρ i r hr<|by simp [V.has])
 | el a cells cs hc hr=>
  refine .el a cells cs (fun j x hx=>?_) (fun j x hx=>(hr j x hx).mono hS fun b hb=>by cases hb);obtain ⟨hs,hcell⟩:=hc j x hx;obtain ⟨hs',hw⟩:=hS _ hs;exact ⟨hs',(World.cell?_of_block<|by simpa [Addr.add] using (by split<;>exact hw)).trans hcell⟩
 | fn f arr caps hsz hr ih=>
  exact .fn f arr caps hsz fun j x c hx hc=>ih j x c hx hc fun i r hi hh=>hρ i r hi (by simpa [V.has] using UW (nT hx) hh)
 | agg arr cells hsz h1 hr ih=>
  exact .agg arr cells hsz h1 fun j x c hx hc=>ih j x c hx hc fun i r hi hh=>hρ i r hi (by simpa [V.has] using UW (nT hx) hh)
 | jX arr cells hsz hr ih=>
  exact .jX arr cells hsz fun j x c hx hc=>ih j x c hx hc fun i r hi hh=>hρ i r hi (by simpa [V.has] using UW (nT hx) hh)
inductive Tg where
 | ty (t:TypeId)
 | sp (t:TypeId)
 | at_ (c:Value)
 | any
 deriving Inhabited
instance (n:Nat):OfNat Tg n:=⟨.ty n⟩
instance:Coe TypeId Tg:=⟨.ty⟩
def Tg.ok (t:Tg) (k:Nat) (e:TypeId) (v:Value):Prop:=match t with
 | .ty t=>e=t/\tight k v
 | .sp t=>e=t
 | .at_ c=>v=c/\tight k v
 | .any=>tight k v
def Tg.elt:Tg->Option TypeId
 | .ty t=>some t
 | .sp t=>some t
 | _=>none
def asW {t:Tg} {el:TypeId} {k:Nat} {e:TypeId} {v:Value} (h:t.elt=some el) (h2:t.ok k e v):e=el:=by
 cases t with
 | ty t=>cases h;exact h2.1
 | sp t=>cases h;exact h2
 | at_ c=>cases h
 | any=>cases h
def Tg.hard:Tg->Bool
 | .sp _=>false
 | _=>true
def Tg.ok.tight {t:Tg} {k:Nat} {e:TypeId} {v:Value} (h:t.ok k e v) (hh:t.hard=true):Av.tight k v:=by
 cases t with
 | ty t=>exact h.2
 | sp t=>cases hh
 | at_ c=>exact h.2
 | any=>exact h
def Tg.cut (t:TypeId) (k:Nat):Tg:=match k with
 | 1=>.ty t
 | _=>.sp t
def asX (t:TypeId) (k:Nat) (v:Value):(Tg.cut t k).ok k t v:=by
 unfold Tg.cut;split
 .cases v<;>first|exact ⟨rfl,trivial⟩|exact ⟨rfl,fun _=>.inl rfl⟩
 .rfl
def Tg.ZT (t:Tg):Prop:=match t with
 | .at_ c=>c=.slice none 0 0
 | _=>True
def asY (t:TypeId) (k:Nat):(Tg.cut t k).ZT:=by
 unfold Tg.cut;split<;>trivial
inductive Ob where
 | cells (ety:TypeId) (cs:List V)
 | vec (nn:Bool) (ety:Tg) (k:Nat) (rows:List (List V))
 deriving Inhabited
def Ob.has (i:Nat):Ob->Bool
 | .cells _ cs=>V.nX i cs
 | .vec ..=>false
inductive jd (ρ:Nat->Option Value) (S:Nat->Prop) (w:World):Value->Ob->List Nat->Prop
 | cells (g:Nat) (arr:Array Value) (ety:TypeId) (cs:List V) (hh:w.heap[g]?=some (.cells arr ety (0,0))) (hsz:arr.size=cs.length)
   (hr:∀ (j:Nat) (x:V),cs[j]?=some x->∃ c,arr[j]?=some c/\c.oneCell'=true/\RV ρ S w c x):jd ρ S w (.pointer<|some ⟨g,0,none⟩) (.cells ety cs) [g]
 | kZ (ety:Tg) (k:Nat) (ht:ety.ZT:=by first|assumption|trivial):jd ρ S w (.slice none 0 0) (.vec false ety k []) []
 | vec (g cap:Nat) (arr:Array Value) (nn:Bool) (ety:Tg) (k:Nat) (rows:List (List V)) (cs:Nat->Nat->Value) (Fs:Nat->Nat->List Nat) {e:TypeId}
   (hh:w.heap[g]?=some (.cells arr e (0,0))) (hcap:rows.length<=cap) (hmax:cap<=maxLen) (hsz:arr.size=cap*k)
   (hk:∀ (i:Nat) (r:List V),rows[i]?=some r->r.length=k)
   (hc:∀ (i j:Nat) (r:List V) (x:V),rows[i]?=some r->r[j]?=some x->arr[i*k+j]?=some (cs i j))
   (hr:∀ (i j:Nat) (r:List V) (x:V),rows[i]?=some r->r[j]?=some x->RD S w (cs i j) x (Fs i j)) (ht:ety.ok k e (.slice (some ⟨g,0,none⟩) rows.length cap):=by first|assumption|exact ⟨rfl,fun _=>.inl rfl⟩|exact ⟨rfl,fun h=>.inr h⟩):
   jd ρ S w (.slice (some ⟨g,0,none⟩) rows.length cap) (.vec nn ety k rows) (g::flat rows.length k Fs)
def jd.mono {ρ ρ':Nat->Option Value} {S S':Nat->Prop} {w w':World} {v:Value} {o:Ob} {F:List Nat} (h:jd ρ S w v o F)
  (hρ:∀ i r,ρ' i=some r->o.has i=true->ρ i=some r) (hS:Keeps S w S' w') (hF:∀ b,b∈F->w'.heap[b]?=w.heap[b]?):jd ρ' S' w' v o F:=by
 cases h with
 | cells g arr ety cs hh hsz hr=>
  refine .cells g arr ety cs ((hF g aF).trans hh) hsz fun j x hx=>?_;obtain ⟨c,h1,h2,h3⟩:=hr j x hx;exact ⟨c,h1,h2,h3.mono (fun i r hi hh=>hρ i r hi<|by simpa [Ob.has] using UW (nT hx) hh) hS⟩
 | kZ ety k=>exact .kZ ety k
 | vec g cap arr nn ety k rows cs Fs hh hcap hmax hsz hk hc hr ht=>
  refine .vec g cap arr nn ety k rows cs Fs ((hF g aF).trans hh) hcap hmax hsz hk hc (fun i j r x h1 h2=>(hr i j r x h1 h2).mono hS fun b hb=>hF b ?_) ht;have hi:i < rows.length:=(dK.1 h1).1;have hj:j < k:=by
   have:=(dK.1 h2).1;rw [hk i r h1] at this;exact this
  exact sG _ (qy.2 ⟨i,j,hi,hj,hb⟩)
abbrev Hp:=List (Nat×Ob)
def look:Hp->Nat->Option Ob
 | [],_=>none
 | (j,o)::H,i=>if i=j then some o else look H i
def hput:Hp->Nat->Ob->Hp
 | [],i,o=>[(i,o)]
 | (j,p)::H,i,o=>if i=j then (i,o)::H else (j,p)::hput H i o
def MQ (H:Hp) (i j:Nat) (o:Ob):look (hput H i o) j=if j=i then some o else look H j:=by
 induction H with
 | nil=>simp [hput,look]
 | cons x H ih=>
  obtain ⟨k,p⟩:=x;simp only [hput];by_cases h:i=k
  .subst h;simp only [kF,look];by_cases hj:j=i<;>simp [hj]
  .simp only [h,if_false,look,ih];by_cases hj:j=k
   .subst hj;simp [tO h]
   .simp [hj]
structure dY (ρ:Nat->Option Value) (S:Nat->Prop) (F:Nat->List Nat) (H:Hp) (w:World):Prop where
 dom:∀ i,look H i=none->ρ i=none
 obj:∀ i o,look H i=some o->∃ r,ρ i=some r/\jd ρ S w r o (F i)
 nodup:∀ i o,look H i=some o->(F i).Nodup
 gW:∀ i j o p b,look H i=some o->look H j=some p->i≠j->b∈F i->b∈F j->False
 sep:∀ i o b,look H i=some o->b∈F i-> ¬S b
 lt:∀ i o b,look H i=some o->b∈F i->b < w.heap.size
 slt:∀ b,S b->b < w.heap.size
def Ub (H:Hp) (F:Nat->List Nat) (b:Nat):Prop:=∃ i o,look H i=some o/\b∈F i
structure jI (S:Nat->Prop) (U:Nat->Prop) (w:World) (S':Nat->Prop) (U':Nat->Prop) (w':World):Prop where
 os:w'.os=w.os
 tape:w'.tape=w.tape
 output:w'.output=w.output
 size:w.heap.size<=w'.heap.size
 keep:∀ b,b < w.heap.size-> ¬U b->w'.heap[b]?=w.heap[b]?
 sub:∀ b,S b->S' b
 newS:∀ b,S' b->S b\/U b\/w.heap.size<=b
 uT:∀ b,U' b->U b\/w.heap.size<=b
def jI.refl (S U:Nat->Prop) (w:World):jI S U w S U w:=
 ⟨rfl,rfl,rfl,cZ _,fun _ _ _=>rfl,fun _ h=>h,fun _ h=>.inl h,fun _ h=>.inl h⟩
def jI.trans {S U S1 U1 S2 U2:Nat->Prop} {w w1 w2:World} (h:jI S U w S1 U1 w1) (k:jI S1 U1 w1 S2 U2 w2):jI S U w S2 U2 w2:=by
 refine ⟨k.os.trans h.os,k.tape.trans h.tape,k.output.trans h.output,sH h.size k.size,fun b hb hu=>?_,fun b hb=>k.sub b<|h.sub b hb,fun b hb=>?_,fun b hb=>?_⟩
 .refine (k.keep b (Az hb h.size) fun h1=>?_).trans (h.keep b hb hu);rcases h.uT b h1 with h2|h2
  .exact hu h2
  .omega
 .rcases k.newS b hb with h1|h1|h1
  .exact h.newS b h1
  .rcases h.uT b h1 with h2|h2
   .exact .inr (.inl h2)
   .exact .inr (.inr h2)
  .exact .inr (.inr<|sH h.size h1)
 .rcases k.uT b hb with h1|h1
  .exact h.uT b h1
  .exact .inr (sH h.size h1)
def dY.keeps {ρ:Nat->Option Value} {S S':Nat->Prop} {F:Nat->List Nat} {H:Hp} {w w':World} {U':Nat->Prop} (h:dY ρ S F H w) (e:jI S (Ub H F) w S' U' w'):Keeps S w S' w':=
 fun b hb=>⟨e.sub b hb,e.keep b (h.slt b hb) fun ⟨i,o,h1,h2⟩=>h.sep i o b h1 h2 hb⟩
def Hf (G:Nat->Option (List V)) (S:Nat->Prop) (w:World):Prop:=∀ g cs,G g=some cs->
 RV (fun _=>none) S w (.pointer<|some ⟨g,0,none⟩) (.el cs)/\∃ arr ety fr,w.heap[g]?=some (.cells arr ety fr)/\arr.size=cs.length/\S g
def Hf.mono {G:Nat->Option (List V)} {S S':Nat->Prop} {w w':World} (h:Hf G S w) (hS:Keeps S w S' w'):Hf G S' w':=fun g cs hg=>by
 obtain ⟨h1,arr,ety,fr,h2,h3,h4⟩:=h g cs hg;exact ⟨h1.mono (fun _ _ hi _=>by cases hi) hS,arr,ety,fr,by rw [(hS g h4).2];exact h2,h3,(hS g h4).1⟩
end Go.Av
namespace Go.Av
structure St where
 T:List V
 H:Hp
def ev (G:Nat->Option (List V)) (T:List V):Operand->V
 | .tmp t=>T.getD t .junk
 | .const v=>.c v
 | .global g=>match G g with|some cs=>.el cs|none=>.junk
 | .func f=>.fn f []
def gG (i:Nat):Hp->Bool
 | []=>false
 | (j,o)::H=>i==j||o.has i||gG i H
def fresh (N:List Nat) (st:St):Bool:=N.all fun i=>Nat.ble 100 i&&!V.nX i st.T&&!gG i st.H
def qz (ρ ρ':Nat->Option Value):Prop:=∀ i r,i < 100->ρ' i=some r->ρ i=some r
def QL (ρ ρ':Nat->Option Value) (N:List Nat):Prop:=∀ i r,ρ' i=some r->i∉N->ρ i=some r
def qz.refl (ρ:Nat->Option Value):qz ρ ρ:=fun _ _ _ h=>h
def qz.trans {a b c:Nat->Option Value} (h:qz a b) (k:qz b c):qz a c:=fun i r hi hr=>h i r hi (k i r hi hr)
def UY {i:Nat} {l:List V} (h:V.nX i l=false) {x:V} (hx:x∈l):x.has i=false:=by
 cases hh:x.has i with
 | false=>rfl
 | true=>rw [UW hx hh] at h;cases h
def yB {i:Nat} {H:Hp} (h:gG i H=false):look H i=none/\∀ j o,look H j=some o->o.has i=false:=by
 induction H with
 | nil=>exact ⟨rfl,fun j o h=>by simp [look] at h⟩
 | cons x H ih=>
  obtain ⟨k,p⟩:=x;simp only [gG,ME,QJ] at h;obtain ⟨h1,h2⟩:=ih h.2;refine ⟨by simp only [look];rw [bI h.1.1];exact h1,fun j o hj=>?_⟩;simp only [look] at hj;split at hj
  .cases hj;exact h.1.2
  .exact h2 j o hj
def QM {N:List Nat} {st:St} (h:fresh N st=true) {i:Nat} (hi:i∈N):100<=i/\V.nX i st.T=false/\gG i st.H=false:=by
 have:=kW.1 h i hi;simp only [dL,kX,AL] at this;exact ⟨this.1.1,this.1.2,this.2⟩
def mark (D:Nat):Deferred:={target:=.collected D,args:=#[]}
def Marks (B:Nat) (S:Nat->Prop) (ds:List Deferred) (w:World):Prop:=
 B<=w.heap.size/\∃ Ds:List Nat,Ds.Nodup/\ds=Ds.map mark/\∀ D,D∈Ds->B<=D/\ ¬S D/\w.heap[D]?=some (.deferred<|some [])
def Marks.nil {B:Nat} (S:Nat->Prop) {w:World} (h:B<=w.heap.size):Marks B S [] w:=⟨h,[],FB,rfl,fun _ h=>by cases h⟩
def RD.cells {S:Nat->Prop} {w:World} {v:Value} {x:V} {F:List Nat} (h:RD S w v x F) {b:Nat} (hb:b∈F):∃ arr e m,w.heap[b]?=some (.cells arr e m):=by
 induction h with
 | c=>cases hb
 | mF=>cases hb
 | shr=>cases hb
 | exc g cap arr ety nn rows k cs Fs hh hcap hmax hsz hk hc hr ht ih=>
  rcases fF.1 hb with rfl|hb
  .exact ⟨_,_,_,hh⟩
  .obtain ⟨i,j,hi,hj,hb⟩:=qy.1 hb;have hr1:=fQ hi;have hj':j < (rows[i]).length:=by rw [hk i _ hr1];exact hj
   exact ih i j _ _ hr1 (fQ hj') hb
def jd.blocks {ρ:Nat->Option Value} {S:Nat->Prop} {w:World} {r:Value} {o:Ob} {F:List Nat} (h:jd ρ S w r o F) {b:Nat} (hb:b∈F):∃ arr e m,w.heap[b]?=some (.cells arr e m):=by
 cases h with
 | cells g arr ety cs hh hsz hr=>
  rcases fF.1 hb with rfl|hb
  .exact ⟨_,_,_,hh⟩
  .cases hb
 | kZ=>cases hb
 | vec g cap arr nn ety k rows cs Fs hh hcap hmax hsz hk hc hr=>
  rcases fF.1 hb with rfl|hb
  .exact ⟨_,_,_,hh⟩
  .obtain ⟨i,j,hi,hj,hb⟩:=qy.1 hb;have hr1:=fQ hi;have hj':j < (rows[i]).length:=by rw [hk i _ hr1];exact hj
   exact (hr i j _ _ hr1<|fQ hj').cells hb
def dY.blocks {ρ:Nat->Option Value} {S:Nat->Prop} {F:Nat->List Nat} {H:Hp} {w:World} (h:dY ρ S F H w) {b:Nat} (hb:Ub H F b):∃ arr e m,w.heap[b]?=some (.cells arr e m):=by
 obtain ⟨i,o,hl,hb⟩:=hb;obtain ⟨r,_,bY⟩:=h.obj i o hl;exact bY.blocks hb
def Marks.ZU {ρ:Nat->Option Value} {S S' U':Nat->Prop} {F:Nat->List Nat} {H:Hp} {w w':World} {B:Nat} {ds:List Deferred} (h:Marks B S ds w) (hH:dY ρ S F H w) (e:jI S (Ub H F) w S' U' w'):Marks B S' ds w':=by
 obtain ⟨hB,Ds,hn,hd,hD⟩:=h;refine ⟨sH hB e.size,Ds,hn,hd,fun D hm=>?_⟩;obtain ⟨h1,h2,h3⟩:=hD D hm;have hlt:D < w.heap.size:=(tN.1 h3).1;have hU: ¬Ub H F D:=fun hU=>by
  obtain ⟨arr,t,m,hc⟩:=hH.blocks hU;rw [h3] at hc;cases hc
 refine ⟨h1,fun hs=>?_,(e.keep D hlt hU).trans h3⟩;rcases e.newS D hs with h|h|h
 .exact h2 h
 .exact hU h
 .omega
def Marks.more {S S':Nat->Prop} {w:World} {B:Nat} {ds:List Deferred} (h:Marks B S ds w) (hS:∀ b,S' b->S b\/∃ arr e m,w.heap[b]?=some (.cells arr e m)):Marks B S' ds w:=by
 obtain ⟨hB,Ds,hn,hd,hD⟩:=h;refine ⟨hB,Ds,hn,hd,fun D hm=>?_⟩;obtain ⟨h1,h2,h3⟩:=hD D hm;refine ⟨h1,fun hs=>?_,h3⟩;rcases hS D hs with h|⟨arr,t,m,hc⟩
 .exact h2 h
 .rw [h3] at hc;cases hc
structure nH (B:Nat) (G:Nat->Option (List V)) (ρ:Nat->Option Value) (S:Nat->Prop) (F:Nat->List Nat) (st:St) (a:Act) (w:World):Prop where
 defers:Marks B S a.defers w
 size:a.tmps.size=st.T.length
 tmps:∀ i x,st.T[i]?=some x->RV ρ S w (a.tmps.getD i undef) x
 heap:dY ρ S F st.H w
 glob:Hf G S w
def MR (L:Option Nat):Fence:={Fence.wide with round:=L}
section
variable {P:Program} {G:Nat->Option (List V)} {L:Option Nat} {B:Nat}
theorem nH.ev {ρ:Nat->Option Value} {S:Nat->Prop} {F:Nat->List Nat} {st:St} {a:Act} {w:World} (h:nH B G ρ S F st a w) (x:Operand):RV ρ S w (a.eval x) (ev G st.T x):=by
 cases x with
 | tmp t=>
  simp only [Act.eval,Av.ev,Hl];cases ht:st.T[t]? with
  | none=>exact .junk _
  | some y=>exact h.tmps t y ht
 | const v=>exact .c v
 | global g=>
  simp only [Act.eval,Av.ev];cases hg:G g with
  | none=>exact .junk _
  | some cs=>exact (h.glob g cs hg).1.mono (fun _ _ _ hh=>by simp [V.has] at hh) (fun b hb=>⟨hb,rfl⟩)
 | func f=>exact .fn f #[] [] rfl fun j x c hx _=>by simp at hx
theorem RV.iX {ρ:Nat->Option Value} {S:Nat->Prop} {w:World} {v u:Value} (h:RV ρ S w v (.c u)):v=u:=by cases h;rfl
def oC (P:Program) (o:Oper) (η:Operand->Value) (w:World) (K:Value->World->Prop):Prop:=
 match (execOp η o).run P w with
 | .ok (.value x) w'=>K x w'
 | .ok .skip w'=>K undef w'
 | .ok (.enter f args) w'=>Calls P f args w' fun e w''=>∃ x,e=.returned x/\K x w''
 | _=>False
theorem oC.mono {o:Oper} {η:Operand->Value} {w:World} {K K':Value->World->Prop} (h:oC P o η w K) (hk:∀ x w',K x w'->K' x w'):oC P o η w K':=by
 unfold oC at*;split at h
 .exact hk _ _ h
 .exact hk _ _ h
 .exact h.mono fun e w'' ⟨x,he,hx⟩=>⟨x,he,hk _ _ hx⟩
 .exact h.elim
theorem oC.asZ {o:Oper} {η:Operand->Value} {w:World} {K:Value->World->Prop} (h:oC P o η w K):∀ c,o.op≠.defer c:=by
 intro c hc;unfold oC at h;have:∃ m:Sem Deferred,execOp η o=(do pure (.defer<|<- m)):=⟨resolve η c o.type,by unfold execOp;rw [hc]⟩
 obtain ⟨m,hm⟩:=this;rw [hm] at h;simp only [gU] at h;cases hr:m.run P w with
 | ok d w'=>rw [hr] at h;simp at h
 | halt x w'=>rw [hr] at h;simp at h
theorem oC.wp {o:Oper} {a:Act} {w:World} {K:Value->World->Prop} {next:Act->World->Prop} {Q:Exit->Act->World->Prop}
    (h:oC P o a.eval w K) (hk:∀ x w',K x w'->next (a.put o.dst x) w'):o.wpIn (MR L) 0 P a w next Q:=by
  refine ⟨fun _ _=>trivial,?_⟩;rw [asM _ _ _ h.asZ];unfold oC at h;generalize (execOp a.eval o).run P w=r at*;cases r with
  | ok n w'=>
    cases n<;>first
      | exact h.elim
      | exact hk _ _ h
      | (refine ⟨fun h=>(by cases h),?_⟩
         refine asU (ajz.2 h:CallsIn Fence.wide 0 P _ _ _ _) fun e w'' ⟨x,he,hx⟩=>?_;subst he;exact hk _ _ hx)
  | halt x w'=>exact h.elim
def Post (ρ:Nat->Option Value) (S:Nat->Prop) (F:Nat->List Nat) (H:Hp) (w:World) (v:V) (H':Hp) (N:List Nat) (x:Value) (w':World):Prop:=
 ∃ ρ' S' F',RV ρ' S' w' x v/\dY ρ' S' F' H' w'/\jI S (Ub H F) w S' (Ub H' F') w'/\QL ρ ρ' N
def gH (P:Program) (G:Nat->Option (List V)) (o:Oper) (e:Operand->V) (H:Hp) (v:V) (H':Hp) (N:List Nat):Prop:=
 ∀ ρ S F (η:Operand->Value) w,(∀ x,x∈o.op.operands->RV ρ S w (η x) (e x))->dY ρ S F H w->Hf G S w->oC P o η w (Post ρ S F H w v H' N)
def St.put (st:St) (d:Option Tmp) (v:V) (H:Hp):St:=⟨match d with|some t=>st.T.set t v|none=>st.T,H⟩
def Step (P:Program) (G:Nat->Option (List V)) (o:Oper) (st:St) (K:St->Prop):Prop:=
 ∃ v H' N,fresh N st=true/\gH P G o (ev G st.T) st.H v H' N/\K (st.put o.dst v H')
abbrev V.und:V:=.c undef
def MS (ops:Array Oper) (T:List V) (j:Nat):Option (Option Bool):=
 match (ops[j]?).bind (·.dst) with
 | some d=>match T[d]? with
  | some (.c<|.bool b)=>some (some b)
  | some (.c<|.tuple ⟨[]⟩)=>some none
  | _=>none
 | none=>none
def pU (P:Program) (G:Nat->Option (List V)) (ops:Array Oper):List Oper->St->(St->Prop)->Prop
 | [],st,Q=>Q st
 | o::l,st,Q=>match o.guard with
  | none=>Step P G o st fun st'=>pU P G ops l st' Q
  | some (j,b)=>∃ b',MS ops st.T j=some b'/\((b'=some b/\Step P G o st fun st'=>pU P G ops l st' Q)\/(b'≠some b/\pU P G ops l (st.put o.dst V.und st.H) Q))
theorem ata {l:Array Value} {i j:Nat} {x:Value} (hi:i < l.size):(l.setIfInBounds j x).getD i undef=if i=j then x else l.getD i undef:=by
 simp only [nS,adI];by_cases h:j=i
 .subst h;simp [hi]
 .simp [h,tO h]
theorem nH.put {ρ ρ':Nat->Option Value} {S S':Nat->Prop} {F F':Nat->List Nat} {st:St} {a:Act} {w w':World} {d:Option Tmp} {v:V} {x:Value} {H':Hp} {N:List Nat}
  (h:nH B G ρ S F st a w) (hN:fresh N st=true) (hv:RV ρ' S' w' x v) (hH:dY ρ' S' F' H' w') (hE:jI S (Ub st.H F) w S' (Ub H' F') w') (hA:QL ρ ρ' N):
  nH B G ρ' S' F' (st.put d v H') (a.put d x) w':=by
 have hk:=h.heap.keeps hE;have hold:∀ i y,st.T[i]?=some y->RV ρ' S' w' (a.tmps.getD i undef) y:=fun i y hy=>
  (h.tmps i y hy).mono (fun j r hr hh=>hA j r hr fun hj=>by
   have:=UY (QM hN hj).2.1 (nT hy);rw [this] at hh;cases hh) hk
 cases d with
 | none=>exact ⟨h.defers.ZU h.heap hE,h.size,hold,hH,h.glob.mono hk⟩
 | some t=>
  refine ⟨h.defers.ZU h.heap hE,by simp [Act.put,St.put,h.size],fun i y hy=>?_,hH,h.glob.mono hk⟩;simp only [St.put] at hy;have hlt:i < a.tmps.size:=by
   have:=(dK.1 hy).1;rw [h.size];simpa using this
  simp only [Act.put];rw [ata hlt];rw [FH] at hy;by_cases he:t=i
  .subst he;rw [dA rfl] at hy;rw [dA rfl];split at hy
   .cases hy;exact hv
   .cases hy
  .rw [bI he] at hy;rw [bI<|tO he];exact hold i y hy
theorem QL.toF {ρ ρ':Nat->Option Value} {N:List Nat} {st:St} (h:QL ρ ρ' N) (hN:fresh N st=true):qz ρ ρ':=
 fun i r hi hr=>h i r hr fun hm=>by have:=(QM hN hm).1;omega
theorem ajK {ρ:Nat->Option Value} {S:Nat->Prop} {F:Nat->List Nat} {st:St} {a:Act} {w:World} (h:nH B G ρ S F st a w) {ops:Array Oper} {j:Nat} {b:Option Bool}
  (hg:MS ops st.T j=some b):yielded ops a.tmps j=b:=by
 unfold MS at hg;unfold yielded;cases hd:(ops[j]?).bind (·.dst) with
 | none=>rw [hd] at hg;cases hg
 | some d=>
  rw [hd] at hg;simp only at hg;cases ht:st.T[d]? with
  | none=>rw [ht] at hg;cases hg
  | some y=>
   have hr:=h.tmps d _ ht;have hlt:d < a.tmps.size:=by rw [h.size];exact (dK.1 ht).1
   rw [ht] at hg;have key:∀ u,y=.c u->a.tmps[d]?=some u:=fun u hu=>by
    subst hu;have hx:a.tmps.getD d undef=u:=hr.iX;rw [mP hlt];rw [nS,mP hlt] at hx;simpa using hx
   split at hg
   .rename_i b' he;cases hg;simp [key _<|kD he]
   .rename_i he;cases hg;simp [key _<|kD he]
   .cases hg
def Onto (B:Nat) (G:Nat->Option (List V)) (ρ:Nat->Option Value) (S:Nat->Prop) (F:Nat->List Nat) (H:Hp) (w:World) (st':St) (R:Act->World->Prop):Prop:=
 ∀ ρ' S' F' a' w',nH B G ρ' S' F' st' a' w'->jI S (Ub H F) w S' (Ub st'.H F') w'->qz ρ ρ'->R a' w'
theorem Step.wp {o:Oper} {st:St} {K:St->Prop} (h:Step P G o st K) {ρ:Nat->Option Value} {S:Nat->Prop} {F:Nat->List Nat} {a:Act} {w:World} (hst:nH B G ρ S F st a w)
  {next:Act->World->Prop} {Q:Exit->Act->World->Prop} (hn:∀ st',K st'->Onto B G ρ S F st.H w st' next):o.wpIn (MR L) 0 P a w next Q:=by
 obtain ⟨v,H',N,hN,hop,hK⟩:=h;refine (hop ρ S F a.eval w (fun x _=>hst.ev x) hst.heap hst.glob).wp fun x w' hp=>?_;obtain ⟨ρ',S',F',hv,hH,hE,hA⟩:=hp;exact hn _ hK ρ' S' F' _ w' (hst.put hN hv hH hE hA) hE (hA.toF hN)
theorem ajL {ρ:Nat->Option Value} {S:Nat->Prop} {F:Nat->List Nat} {st:St} {a:Act} {w:World} (hst:nH B G ρ S F st a w) (d:Option Tmp):nH B G ρ S F (st.put d V.und st.H) (a.put d undef) w:=
 hst.put (N:=[]) rfl (.c _) hst.heap (jI.refl _ _ _) (fun _ _ h _=>h)
theorem pU.wp {ops:Array Oper} {Q:Exit->Act->World->Prop} (l:List Oper):∀ {st:St} {K:St->Prop},pU P G ops l st K->
  ∀ {ρ:Nat->Option Value} {S:Nat->Prop} {F:Nat->List Nat} {a:Act} {w:World},nH B G ρ S F st a w->
  (∀ st',K st'->Onto B G ρ S F st.H w st' (Q .normal))->wpListIn (MR L) 0 P ops Q l a w:=by
 induction l with
 | nil=>
  intro st K h ρ S F a w hst hn;exact hn st h ρ S F a w hst (jI.refl _ _ _) (qz.refl _)
 | cons o l ih=>
  intro st K h ρ S F a w hst hn;have go:Step P G o st (fun st'=>pU P G ops l st' K)->Region.wanted o (yielded ops a.tmps)=true->wpListIn (MR L) 0 P ops Q (o::l) a w:=by
   intro hs hw;unfold wpListIn;rw [dA hw];refine (hs.wp hst fun st' h' ρ' S' F' a' w' hst' hE hA=>?_);exact ih h' hst' fun st2 h2 sJ S2 F2 a2 w2 yC hE2 hA2=>hn st2 h2 sJ S2 F2 a2 w2 yC (hE.trans hE2) (hA.trans hA2)
  unfold pU at h;cases hg:o.guard with
  | none=>
   rw [hg] at h;exact go h (by simp [Region.wanted,hg])
  | some jb=>
   obtain ⟨j,b⟩:=jb;rw [hg] at h;obtain ⟨b',hgv,h⟩:=h;have hy:=ajK hst hgv;rcases h with ⟨rfl,h⟩|⟨hne,h⟩
   .exact go h (by simp [Region.wanted,hg,hy])
   .unfold wpListIn;rw [bI<|by simp [Region.wanted,hg,hy,hne]];refine ⟨fun _ _=>trivial,?_⟩;refine ih h (ajL hst o.dst) fun st2 h2 sJ S2 F2 a2 w2 yC hE2 hA2=>?_;exact hn st2 h2 sJ S2 F2 a2 w2 yC (by simpa [St.put] using hE2) hA2
def CO (L:Option Nat) (P:Program) (G:Nat->Option (List V)) (c:Code) (st:St) (Q:Exit->St->Prop):Prop:=
 ∀ B ρ S F a w (R:Exit->Act->World->Prop),nH B G ρ S F st a w->(∀ e st',Q e st'->Onto B G ρ S F st.H w st' (R e))->c.wpIn (MR L) 0 P R a w
theorem atb {id:Nat} {l:List Oper} {st:St} {Q:Exit->St->Prop} (h:pU P G l.toArray l st (Q .normal)):CO L P G (.region id l.toArray false) st Q:=by
 intro B ρ S F a w R hst hn;exact asL (pU.wp l h hst fun st' h'=>hn .normal st' h')
theorem ajM {x y:Code} {st:St} {Q:Exit->St->Prop} (h:CO L P G x st fun e st'=>match e with|.normal=>CO L P G y st' Q|e=>Q e st'):CO L P G (.seq x y) st Q:=by
 intro B ρ S F a w R hst hn;refine asP (h B ρ S F a w _ hst fun e st' hq=>?_);intro iK S1 F1 a1 w1 AO hE hA;cases e<;>first
  | exact hn _ st' hq iK S1 F1 a1 w1 AO hE hA
  | exact hq B iK S1 F1 a1 w1 R AO fun e2 st2 h2 sJ S2 F2 a2 w2 yC hE2 hA2=>hn e2 st2 h2 sJ S2 F2 a2 w2 yC (hE.trans hE2) (hA.trans hA2)
theorem aY {st:St} {Q:Exit->St->Prop} (h:Q .normal st):CO L P G .skip st Q:=fun _ ρ S F a w _ hst hn=>wpIn_skip (hn .normal st h ρ S F a w hst (jI.refl _ _ _)<|qz.refl _)
theorem eF {id:Nat} {st:St} {Q:Exit->St->Prop} (h:Q (.exit id) st):CO L P G (.exit id) st Q:=fun _ ρ S F a w _ hst hn=>wpIn_exit (hn (.exit id) st h ρ S F a w hst (jI.refl _ _ _)<|qz.refl _)
theorem aS {st:St} {Q:Exit->St->Prop} (h:Q .ret st):CO L P G .ret st Q:=fun _ ρ S F a w _ hst hn=>wpIn_ret (hn .ret st h ρ S F a w hst (jI.refl _ _ _)<|qz.refl _)
theorem ajN {c:Operand} {x y:Code} {st:St} {Q:Exit->St->Prop} {b:Bool} (hc:ev G st.T c=.c (.bool b))
  (ht:b=true->CO L P G x st Q) (hf:b=false->CO L P G y st Q):CO L P G (.cond c x y) st Q:=by
 intro B ρ S F a w R hst hn;have hb:a.eval c=.bool b:=by
  have:=hst.ev c;rw [hc] at this;exact this.iX
 cases b with
 | true=>exact asS hb (ht rfl B ρ S F a w R hst hn)
 | false=>exact asR hb (hf rfl B ρ S F a w R hst hn)
theorem CO.block {id:Nat} {c:Code} {st:St} {Q:Exit->St->Prop} (h:CO L P G c st fun e st'=>match e with|.exit i=>if i=id then Q .normal st' else Q (.exit i) st'|e=>Q e st'):CO L P G (.block id c) st Q:=by
 intro B ρ S F a w R hst hn;refine wpIn_block (h B ρ S F a w _ hst fun e st' hq=>?_);intro iK S1 F1 a1 w1 AO hE hA;cases e with
 | exit i=>
  simp only [Exit.inBlock];simp only at hq;split
  .rw [dA ‹_›] at hq;exact hn _ st' hq iK S1 F1 a1 w1 AO hE hA
  .rw [bI ‹_›] at hq;exact hn _ st' hq iK S1 F1 a1 w1 AO hE hA
 | _=>exact hn _ st' hq iK S1 F1 a1 w1 AO hE hA
theorem CO.mono {c:Code} {st:St} {Q Q':Exit->St->Prop} (h:CO L P G c st Q) (hq:∀ e st',Q e st'->Q' e st'):CO L P G c st Q':=
 fun B ρ S F a w R hst hn=>h B ρ S F a w R hst fun e st' h'=>hn e st' (hq e st' h')
def Weak (st st':St):Prop:=∀ B G ρ S F a w,nH B G ρ S F st a w->∃ ρ' S' F',nH B G ρ' S' F' st' a w/\jI S (Ub st.H F) w S' (Ub st'.H F') w/\qz ρ ρ'
theorem Weak.refl (st:St):Weak st st:=fun _ _ ρ S F _ w h=>⟨ρ,S,F,h,jI.refl _ _ w,qz.refl _⟩
theorem Weak.trans {a b c:St} (h:Weak a b) (k:Weak b c):Weak a c:=by
 intro B G ρ S F x w hst;obtain ⟨iK,S1,F1,h1,e1,a1⟩:=h _ G ρ S F x w hst;obtain ⟨sJ,S2,F2,h2,e2,a2⟩:=k _ G iK S1 F1 x w h1;exact ⟨sJ,S2,F2,h2,e1.trans e2,a1.trans a2⟩
theorem jR {c:Code} {st st':St} {Q:Exit->St->Prop} (hw:Weak st st') (h:CO L P G c st' Q):CO L P G c st Q:=by
 intro B ρ S F a w R hst hn;obtain ⟨iK,S1,F1,h1,e1,a1⟩:=hw _ G ρ S F a w hst;exact h B iK S1 F1 a w R h1 fun e st2 h2 sJ S2 F2 a2 w2 yC hE2 hA2=>hn e st2 h2 sJ S2 F2 a2 w2 yC (e1.trans hE2) (a1.trans hA2)
end
end Go.Av
namespace Go.Av
abbrev Ren:=List (Nat×Nat)
def dZ:Ren->Nat->Option Nat
 | [],_=>none
 | (a,b)::m,i=>if i=a then some b else dZ m i
mutual
def V.rn (m:Ren):V->V
 | .own j=>match dZ m j with|some k=>.own k|none=>.junk
 | .loc j o=>match dZ m j with|some k=>.loc k o|none=>.junk
 | .vp j a i' j'=>match dZ m j with|some k=>.vp k a i' j'|none=>.junk
 | .vw j a i' j'=>match dZ m j with|some k=>.vw k a i' j'|none=>.junk
 | .fn f cs=>.fn f (xB m cs)
 | .agg cs=>.agg (xB m cs)
 | .jX cs=>.jX (xB m cs)
 | x=>x
def xB (m:Ren):List V->List V
 | []=>[]
 | x::r=>V.rn m x::xB m r
end
def UZ (m:Ren) (l:List V):xB m l=l.map (V.rn m):=by
 induction l with
 | nil=>rfl
 | cons x l ih=>simp [xB,ih]
def Ren.ok (m:Ren):Bool:=decide (m.map (·.2)).Nodup
def yD {m:Ren} {i j:Nat} (h:dZ m i=some j):(i,j)∈m:=by
 induction m with
 | nil=>cases h
 | cons x m ih=>
  obtain ⟨a,b⟩:=x;simp only [dZ] at h;split at h
  .cases h;subst_vars;simp
  .exact sG _ (ih h)
def Ren.inj {m:Ren} (hm:m.ok=true) {i i' j:Nat} (h:dZ m i=some j) (h':dZ m i'=some j):i=i':=by
 have hn:(m.map (·.2)).Nodup:=nU hm;have h1:=yD h;have h2:=yD h';clear h h' hm;induction m with
 | nil=>cases h1
 | cons x m ih=>
  simp only [jV,qw] at hn;rcases fF.1 h1 with e1|m1
  .rcases fF.1 h2 with e2|m2
   .have:=e1.trans e2.symm;exact (Prod.mk.inj this).1
   .subst e1;exact absurd (Cr (f:=(·.2)) m2) hn.1
  .rcases fF.1 h2 with e2|m2
   .subst e2;exact absurd (Cr (f:=(·.2)) m1) hn.1
   .exact ih hn.2 m1 m2
noncomputable def MU (m:Ren) (ρ:Nat->Option Value) (j:Nat):Option Value:=by
 classical
 exact if h:∃ i,dZ m i=some j then ρ (Classical.choose h) else none
def QN {m:Ren} (hm:m.ok=true) {ρ:Nat->Option Value} {i j:Nat} (h:dZ m i=some j):MU m ρ j=ρ i:=by
 have hx:∃ i,dZ m i=some j:=⟨i,h⟩
 unfold MU;rw [dif_pos hx,Ren.inj hm (UM hx) h]
def ajO {m:Ren} {ρ:Nat->Option Value} {j:Nat} {r:Value} (h:MU m ρ j=some r):∃ i,dZ m i=some j/\ρ i=some r:=by
 unfold MU at h;split at h
 .rename_i hx;exact ⟨_,UM hx,h⟩
 .cases h
def RV.rn {m:Ren} {ρ ρ':Nat->Option Value} {S:Nat->Prop} {w:World} (hρ:∀ i j r,dZ m i=some j->ρ' j=some r->ρ i=some r)
  {v:Value} {x:V} (h:RV ρ S w v x):RV ρ' S w v (x.rn m):=by
 induction h with
 | junk v=>exact .junk v
 | c v=>exact .c v
 | sl v nn x rows h=>exact .sl v nn x rows h
 | own v i h=>
  simp only [V.rn];cases hi:dZ m i with
  | none=>exact .junk v
  | some j=>exact .own v j fun r hr=>h r (hρ i j r hi hr)
 | loc v i off h=>
  simp only [V.rn];cases hi:dZ m i with
  | none=>exact .junk v
  | some j=>exact .loc v j off fun r hr=>h r (hρ i j r hi hr)
 | vp v i k a b h=>
  simp only [V.rn];cases hi:dZ m i with
  | none=>exact .junk v
  | some j=>exact .vp v j k a b fun r hr=>h r (hρ i j r hi hr)
 | vw v i k a b h=>
  simp only [V.rn];cases hi:dZ m i with
  | none=>exact .junk v
  | some j=>exact .vw v j k a b fun r hr=>h r (hρ i j r hi hr)
 | el a cells cs hc hr=>exact .el a cells cs hc hr
 | fn f arr caps hsz hr ih=>
  simp only [V.rn,UZ];refine .fn f arr _ (by simpa using hsz) fun j x c hx hc=>?_;rw [gD,eD] at hx;obtain ⟨y,hy,rfl⟩:=hx;exact ih j y c hy hc
 | agg arr cells hsz h1 hr ih=>
  simp only [V.rn,UZ];refine .agg arr _ (by simpa using hsz) h1 fun j x c hx hc=>?_;rw [gD,eD] at hx;obtain ⟨y,hy,rfl⟩:=hx;exact ih j y c hy hc
 | jX arr cells hsz hr ih=>
  simp only [V.rn,UZ];refine .jX arr _ (by simpa using hsz) fun j x c hx hc=>?_;rw [gD,eD] at hx;obtain ⟨y,hy,rfl⟩:=hx;exact ih j y c hy hc
def AP (m:Ren):List V->List V->Prop
 | [],[]=>True
 | x::T,y::T'=>(y=.junk\/x.rn m=y)/\AP m T T'
 | _,_=>False
def AP.length {m:Ren}:∀ {T T':List V},AP m T T'->T.length=T'.length
 | [],[],_=>rfl
 | _::_,_::_,h=>by simp [h.2.length]
 | [],_::_,h=>h.elim
 | _::_,[],h=>h.elim
def AP.get {m:Ren}:∀ {T T':List V},AP m T T'->∀ {i:Nat} {y:V},T'[i]?=some y->y=.junk\/∃ x,T[i]?=some x/\x.rn m=y
 | [],[],_,i,y,h=>by simp at h
 | x::T,z::T',h,i,y,hy=>by
  cases i with
  | zero=>
   simp only [Fz,iG] at hy;subst hy;exact h.1.imp id fun e=>⟨x,aF,e⟩
  | succ i=>
   simp only [MG] at hy ⊢;exact h.2.get hy
 | [],_::_,h,_,_,_=>h.elim
 | _::_,[],h,_,_,_=>h.elim
def Kv (m:Ren):Ob->Ob->Prop
 | .cells e cs,.cells e' cs'=>e=e'/\AP m cs cs'
 | .vec nn e k rows,.vec mG e' k' rows'=>(mG=nn\/mG=false)/\e=e'/\k=k'/\rows=rows'
 | _,_=>False
def Hz (m:Ren) (H:Hp):Hp->Prop
 | []=>True
 | (j,o')::H'=>(∃ i o,dZ m i=some j/\look H i=some o/\Kv m o o')/\Hz m H H'
def Hz.get {m:Ren} {H:Hp}:∀ {H':Hp},Hz m H H'->∀ {j:Nat} {o':Ob},look H' j=some o'->∃ i o,dZ m i=some j/\look H i=some o/\Kv m o o'
 | [],_,_,_,h=>by simp [look] at h
 | (k,p)::H',h,j,o',hj=>by
  simp only [look] at hj;split at hj
  .cases hj;subst_vars;exact h.1
  .exact h.2.get hj
def jd.rn {m:Ren} {ρ ρ':Nat->Option Value} {S:Nat->Prop} {w:World} (hρ:∀ i j r,dZ m i=some j->ρ' j=some r->ρ i=some r)
  {r:Value} {o o':Ob} {F:List Nat} (h:jd ρ S w r o F) (hs:Kv m o o'):jd ρ' S w r o' F:=by
 cases h with
 | cells g arr ety cs hh hsz hr=>
  cases o' with
  | vec=>exact hs.elim
  | cells e' cs'=>
   obtain ⟨rfl,hs⟩:=hs;refine .cells g arr ety cs' hh (hsz.trans hs.length) fun j y hy=>?_;have hlt:j < cs.length:=by rw [hs.length];exact (dK.1 hy).1
   rcases hs.get hy with rfl|⟨x,hx,rfl⟩
   .obtain ⟨c,h1,h2,_⟩:=hr j cs[j] (fQ hlt);exact ⟨c,h1,h2,.junk c⟩
   .obtain ⟨c,h1,h2,h3⟩:=hr j x hx;exact ⟨c,h1,h2,h3.rn hρ⟩
 | kZ ety k=>
  cases o' with
  | cells=>exact hs.elim
  | vec mG e' k' rows'=>
   obtain ⟨h1,rfl,rfl,rfl⟩:=hs;have:mG=false:=by rcases h1 with rfl|rfl<;>rfl
   subst this;exact .kZ _ _
 | vec g cap arr nn ety k rows cs Fs hh hcap hmax hsz hk hc hr=>
  cases o' with
  | cells=>exact hs.elim
  | vec mG e' k' rows'=>
   obtain ⟨_,rfl,rfl,rfl⟩:=hs;exact .vec g cap arr mG _ _ _ cs Fs hh hcap hmax hsz hk hc hr
def Ren.keep (m:Ren):Bool:=m.all fun p=>Nat.ble 100 p.2||p.1==p.2
def atc {m:Ren} (hm:m.keep=true) {i j:Nat} (h:dZ m i=some j) (hj:j < 100):i=j:=by
 have:=kW.1 hm _ (yD h);simp only [lH,AL,mR] at this;omega
def dY.rn {m:Ren} (hm:m.ok=true) {ρ:Nat->Option Value} {S:Nat->Prop} {F:Nat->List Nat} {H H':Hp} {w:World} (h:dY ρ S F H w) (hH:Hz m H H'):
  ∃ ρ' F',dY ρ' S F' H' w/\(∀ i j r,dZ m i=some j->ρ' j=some r->ρ i=some r)/\(∀ j r,ρ' j=some r->∃ i,dZ m i=some j/\ρ i=some r)/\
   (∀ j o',look H' j=some o'->∃ i o,dZ m i=some j/\look H i=some o/\F' j=F i/\ρ' j=ρ i):=by
 classical
 refine ⟨fun j=>if (look H' j).isSome then MU m ρ j else none,fun j=>if h:∃ i,dZ m i=some j then F (Classical.choose h) else [],?_,?_,?_,?_⟩
 rotate_left
 .intro i j r hi hr;simp only at hr;split at hr
  .rw [QN hm hi] at hr;exact hr
  .cases hr
 .intro j r hr;simp only at hr;split at hr
  .exact ajO hr
  .cases hr
 .intro j o' ho;obtain ⟨i,o,hi,hl,_⟩:=hH.get ho;refine ⟨i,o,hi,hl,?_,?_⟩
  .have hx:∃ i,dZ m i=some j:=⟨i,hi⟩
   simp only [dif_pos hx];rw [Ren.inj hm (UM hx) hi]
  .simp [ho,QN hm hi]
 have key:∀ j o',look H' j=some o'->∃ i o,dZ m i=some j/\look H i=some o/\Kv m o o'/\
   (if h:∃ i,dZ m i=some j then F (Classical.choose h) else [])=F i/\(if (look H' j).isSome then MU m ρ j else none)=ρ i:=by
  intro j o' ho;obtain ⟨i,o,hi,hl,hs⟩:=hH.get ho;have hx:∃ i,dZ m i=some j:=⟨i,hi⟩
  refine ⟨i,o,hi,hl,hs,?_,?_⟩
  .rw [dif_pos hx,Ren.inj hm (UM hx) hi]
  .simp [ho,QN hm hi]
 refine ⟨fun j hj=>by simp [hj],fun j o' ho=>?_,fun j o' ho=>?_,fun j j' o o' b hj hj' hne hb hb'=>?_,fun j o' b ho hb=>?_,fun j o' b ho hb=>?_,h.slt⟩
 .obtain ⟨i,o,hi,hl,hs,e1,e2⟩:=key j o' ho;obtain ⟨r,hr,bY⟩:=h.obj i o hl;refine ⟨r,by rw [e2];exact hr,?_⟩;refine (e1.symm ▸ bY:jd ρ S w r o _).rn (fun i' j' r' hi' hr'=>by
   split at hr'
   .rw [QN hm hi'] at hr';exact hr'
   .cases hr') hs
 .obtain ⟨i,o,_,hl,_,e1,_⟩:=key j o' ho;rw [e1];exact h.nodup i o hl
 .obtain ⟨i,p,hi,hl,_,e1,_⟩:=key j o hj;obtain ⟨i',p',hi',hl',_,HV,_⟩:=key j' o' hj';rw [e1] at hb;rw [HV] at hb';refine h.gW i i' p p' b hl hl' (fun e=>hne ?_) hb hb';subst e;rw [hi] at hi';exact kD hi'
 .obtain ⟨i,o,_,hl,_,e1,_⟩:=key j o' ho;rw [e1] at hb;exact h.sep i o b hl hb
 .obtain ⟨i,o,_,hl,_,e1,_⟩:=key j o' ho;rw [e1] at hb;exact h.lt i o b hl hb
def Weak.rn (m:Ren) {st st':St} (hm:m.ok=true) (hk:m.keep=true) (hT:AP m st.T st'.T) (hH:Hz m st.H st'.H):Weak st st':=by
 intro B G ρ S F a w h;obtain ⟨ρ',F',h1,h2,h3,h4⟩:=h.heap.rn hm hH;refine ⟨ρ',S,F',⟨h.defers,h.size.trans hT.length,fun i y hy=>?_,h1,h.glob⟩,⟨rfl,rfl,rfl,cZ _,fun _ _ _=>rfl,fun _ hb=>hb,fun _ hb=>.inl hb,?_⟩,?_⟩
 .rcases hT.get hy with rfl|⟨x,hx,rfl⟩
  .exact .junk _
  .exact (h.tmps i x hx).rn h2
 .rintro b ⟨j,o',ho,hb⟩;obtain ⟨i,o,_,hl,e,_⟩:=h4 j o' ho;exact .inl ⟨i,o,hl,e ▸ hb⟩
 .intro j r hj hr;obtain ⟨i,hi,hir⟩:=h3 j r hr;obtain rfl:=atc hk hi hj;exact hir
end Go.Av
namespace Go.Av
mutual
def V.share:V->V
 | .sl nn _ rows=>.sl nn false (qN rows)
 | x=>x
def tQ:List V->List V
 | []=>[]
 | x::r=>V.share x::tQ r
def qN:List (List V)->List (List V)
 | []=>[]
 | x::r=>tQ x::qN r
end
def Va (l:List V):tQ l=l.map V.share:=by
 induction l with
 | nil=>rfl
 | cons x l ih=>simp [tQ,ih]
def MV (l:List (List V)):qN l=l.map tQ:=by
 induction l with
 | nil=>rfl
 | cons x l ih=>simp [qN,ih]
def RD.share {S S':Nat->Prop} {w:World} {v:Value} {x:V} {F:List Nat} (h:RD S w v x F) (hS:∀ b,S b->S' b) (hF:∀ b,b∈F->S' b):RD S' w v x.share []:=by
 induction h with
 | c v h=>exact .c v h
 | mF x=>exact .mF false
 | shr a cap nn rows k cs hlen hcap hk hc hr ih=>
  simp only [V.share,MV];have e:rows.length=(rows.map tQ).length:=aF;rw [e];refine .shr a cap nn (rows.map tQ) k cs (by rw [<- e];exact hlen) (by rw [<- e];exact hcap) (fun i r hi=>?_) (fun i j r x hi hj=>?_) (fun i j r x hi hj=>?_)
  .rw [gD,eD] at hi;obtain ⟨r0,hr0,rfl⟩:=hi;rw [Va,mE];exact hk i r0 hr0
  all_goals
   rw [gD,eD] at hi;obtain ⟨r0,hr0,rfl⟩:=hi;rw [Va,gD,eD] at hj;obtain ⟨x0,hx0,rfl⟩:=hj
  .exact ⟨hS _ (hc i j r0 x0 hr0 hx0).1,(hc i j r0 x0 hr0 hx0).2⟩
  .exact ih i j r0 x0 hr0 hx0 (fun b hb=>by cases hb)
 | exc g cap arr ety nn rows k cs Fs hh hcap hmax hsz hk hc hr ht ih=>
  simp only [V.share,MV];have e:rows.length=(rows.map tQ).length:=aF;rw [e];refine .shr ⟨g,0,none⟩ cap nn (rows.map tQ) k cs (by rw [<- e];exact sH hcap hmax) (by rw [<- e];exact hcap) (fun i r hi=>?_) (fun i j r x hi hj=>?_) (fun i j r x hi hj=>?_)
  .rw [gD,eD] at hi;obtain ⟨r0,hr0,rfl⟩:=hi;rw [Va,mE];exact hk i r0 hr0
  all_goals
   rw [gD,eD] at hi;obtain ⟨r0,hr0,rfl⟩:=hi;rw [Va,gD,eD] at hj;obtain ⟨x0,hx0,rfl⟩:=hj
  .refine ⟨hF _ aF,?_⟩;have hcell:=hc i j r0 x0 hr0 hx0;have hadd:(⟨g,0,none⟩:Addr).add (i*k+j)=⟨g,i*k+j,none⟩:=by rw [Hr,qM]
   rw [hadd,UR w g (i*k+j) arr _ (0,0) hh];exact hcell
  .have hi':i < rows.length:=(dK.1 hr0).1;have hj':j < k:=by
    have:=(dK.1 hx0).1;rw [hk i r0 hr0] at this;exact this
   exact ih i j r0 x0 hr0 hx0 (fun b hb=>hF b<|sG _<|qy.2 ⟨i,j,hi',hj',hb⟩)
def jd.ajP {ρ:Nat->Option Value} {S:Nat->Prop} {w:World} {r:Value} {nn:Bool} {e:Tg} {k:Nat} {rows:List (List V)} {F:List Nat} (h:jd ρ S w r (.vec nn e k rows) F) (hs:e.hard=true):RD S w r (.sl nn true rows) F:=by
 cases h with
 | kZ=>exact .mF true
 | vec g cap arr _ _ _ _ cs Fs hh hcap hmax hsz hk hc hr ht=>exact .exc g cap arr _ nn rows k cs Fs hh hcap hmax hsz hk hc hr (ht.tight hs)
def jd.atd {ρ:Nat->Option Value} {S S':Nat->Prop} {w:World} {r:Value} {nn:Bool} {e:Tg} {k:Nat} {rows:List (List V)} {F:List Nat} (h:jd ρ S w r (.vec nn e k rows) F) (hS:∀ b,S b->S' b) (hF:∀ b,b∈F->S' b):RD S' w r (.sl nn false<|qN rows) []:=by
 cases h with
 | kZ=>exact .mF false
 | vec g cap arr _ _ _ _ cs Fs hh hcap hmax hsz hk hc hr ht=>
  cases rows with
  | nil=>exact .shr ⟨g,0,none⟩ cap nn [] k cs (Ct _) (Ct _) (fun i r h=>by simp at h) (fun i j r x h=>by simp at h) (fun i j r x h=>by simp at h)
  | cons r0 rows=>
   have:=RD.exc (S:=S) g cap arr _ nn (r0::rows) k cs Fs hh hcap hmax hsz hk hc hr aF;exact this.share hS hF
def Weak.nil (t i e k:Nat) {st:St} (ht:st.T[t]?=some (.c<|.slice none 0 0)) (hf:fresh [i] st=true):Weak st ⟨st.T.set t<|.own i,(i,.vec false e k [])::st.H⟩:=by
 intro B G ρ S F a w h;obtain ⟨ajQ,hT,hH⟩:=QM hf (by simp:i∈[i]);obtain ⟨hl,hO⟩:=yB hH;let ρ':Nat->Option Value:=fun j=>if j=i then some (.slice none 0 0) else ρ j
 let F':Nat->List Nat:=fun j=>if j=i then [] else F j
 have hρ:∀ j r (x:V),x.has i=false->ρ' j=some r->x.has j=true->ρ j=some r:=fun j r x hx hj hh=>by
  simp only [ρ'] at hj;split at hj
  .subst_vars;rw [hx] at hh;cases hh
  .exact hj
 refine ⟨ρ',S,F',⟨h.defers,by simp [h.size],fun j x hx=>?_,⟨fun j hj=>?_,fun j o ho=>?_,fun j o ho=>?_,fun j j' o o' b hj hj' hne hb hb'=>?_,fun j o b ho hb=>?_,fun j o b ho hb=>?_,h.heap.slt⟩,h.glob⟩,
  ⟨rfl,rfl,rfl,cZ _,fun _ _ _=>rfl,fun _ hb=>hb,fun _ hb=>.inl hb,?_⟩,fun j r hj hr=>?_⟩
 .simp only [FH] at hx;split at hx
  .subst_vars;split at hx
   .cases hx;have:=(h.tmps _ _ ht).iX;rw [this];exact .own _ i fun r hr=>by simp only [ρ',kF] at hr;cases hr;rfl
   .cases hx
  .exact (h.tmps j x hx).mono (fun q r hq hh=>hρ q r x (UY hT<|nT hx) hq hh) (fun b hb=>⟨hb,rfl⟩)
 .simp only [look] at hj;split at hj
  .cases hj
  .rename_i hne;simp only [ρ',bI hne];exact h.heap.dom j hj
 .simp only [look] at ho;split at ho
  .cases ho;subst_vars;exact ⟨.slice none 0 0,by simp [ρ'],by simpa [F'] using jd.kZ e k⟩
  .rename_i hne;obtain ⟨r,hr,bY⟩:=h.heap.obj j o ho;refine ⟨r,by simp only [ρ',bI hne];exact hr,?_⟩;simp only [F',bI hne];refine bY.mono (fun q r hq hh=>?_) (fun b hb=>⟨hb,rfl⟩) (fun _ _=>rfl);simp only [ρ'] at hq;split at hq
   .subst_vars;rw [hO j o ho] at hh;cases hh
   .exact hq
 .simp only [look] at ho;split at ho
  .simp_all [F']
  .rename_i hne;simp only [F',bI hne];exact h.heap.nodup j o ho
 .simp only [look] at hj hj';simp only [F'] at hb hb';split at hj
  .simp_all
  .split at hj'
   .simp_all
   .simp_all;exact h.heap.gW j j' o o' b hj hj' hne hb hb'
 .simp only [look] at ho;simp only [F'] at hb;split at ho
  .simp_all
  .simp_all;exact h.heap.sep j o b ho hb
 .simp only [look] at ho;simp only [F'] at hb;split at ho
  .simp_all
  .simp_all;exact h.heap.lt j o b ho hb
 .rintro b ⟨j,o,ho,hb⟩;simp only [look] at ho;simp only [F'] at hb;split at ho
  .simp_all
  .rename_i hne;rw [bI hne] at hb;exact .inl ⟨j,o,ho,hb⟩
 .simp only [ρ'] at hr;split at hr
  .omega
  .exact hr
end Go.Av
namespace Go.Av
section
variable {P:Program} {G:Nat->Option (List V)} {B:Nat}
def AC (P:Program) (G:Nat->Option (List V)) (f:FuncId) (vs:List V) (H:Hp) (r:V) (H':Hp):Prop:=
 ∀ ρ S F (xs:Array Value) w,xs.size=vs.length->(∀ i x,vs[i]?=some x->RV ρ S w (xs.getD i undef) x)->dY ρ S F H w->Hf G S w->
  Calls P f xs w fun e w'=>∃ x ρ' S' F',e=.returned x/\RV ρ' S' w' x r/\dY ρ' S' F' H' w'/\jI S (Ub H F) w S' (Ub H' F') w'/\qz ρ ρ'
def aO (P:Program) (fn:Func) (st:St) (r:V):Prop:=∀ B G ρ S F a w,nH B G ρ S F st a w->∃ x,(results fn a.tmps).run P w=.ok x w/\RV ρ S w x r
def Ends (P:Program) (fn:Func) (r:V) (H':Hp) (e:Exit) (st:St):Prop:=(e=.normal\/e=.ret)/\∃ r0,aO P fn st r0/\Weak ⟨[r0],st.H⟩ ⟨[r],H'⟩
def shut:List Nat->World->World
 | [],w=>w
 | D::Ds,w=>shut Ds (w.putObj D<|.deferred none)
theorem ajR:∀ (Ds:List Nat) (w:World),(shut Ds w).os=w.os/\(shut Ds w).tape=w.tape/\(shut Ds w).output=w.output/\(shut Ds w).heap.size=w.heap.size
 | [],_=>⟨rfl,rfl,rfl,rfl⟩
 | D::Ds,w=>by
  have h:=ajR Ds (w.putObj D<|.deferred none);exact ⟨h.1,h.2.1,h.2.2.1,h.2.2.2.trans UL⟩
theorem ajS:∀ (Ds:List Nat) (w:World) (b:Nat),b∉Ds->(shut Ds w).heap[b]?=w.heap[b]?
 | [],_,_,_=>rfl
 | D::Ds,w,b,h=>by
  rw [fF,not_or] at h;exact (ajS Ds _ b h.2).trans (MB h.1)
theorem ajT {fn:Func} {tmps:Array Value} {R:Ending->World->Prop}:∀ (Ds:List Nat) (w:World),Ds.Nodup->(∀ D,D∈Ds->w.heap[D]?=some (.deferred<|some []))->
  LeavesIn Fence.wide 0 P fn tmps R [] .returning (shut Ds w)->LeavesInM Fence.wide 0 P fn tmps R (Ds.map mark) .returning w
 | [],w,_,_,h=>h
 | D::Ds,w,hn,hD,h=>by
  refine ⟨aF,.inl ⟨D,w.putObj D<|.deferred none,rfl,run_takeDeferred<|hD D aF,?_⟩⟩;rw [qw] at hn;refine ajT Ds _ hn.2 (fun E hE=>?_) h;exact (MB fun e:E=D=>hn.1<|e ▸ hE).trans (hD E<|by simp [hE])
theorem aX {f:FuncId} {fn:Func} {c:Code} {vs:List V} {H H':Hp} {r:V} (hf:P.funcs[f]?=some fn) (hb:fn.body=some c)
  (h:CO none P G c ⟨vs++List.replicate (fn.ntmps - vs.length) .junk,H⟩ (Ends P fn r H')):AC P G f vs H r H':=by
 intro ρ S F xs w hsz hxs hH hG;refine ajz.1 (callsIn_of_wp_marks (F:=Fence.wide) (n:=0) hf hb trivial ?_);refine h w.heap.size ρ S F _ w _ ⟨Marks.nil _<|cZ _,?_,?_,hH,hG⟩ fun e st' hq=>?_
 .simp [hsz]
 .intro i x hx;simp only at hx;by_cases hi:i < vs.length
  .rw [uR hi] at hx;have:=hxs i x hx;simp only [nS] at this ⊢;rw [QE ah];exact this
  .rw [uQ ah,asT] at hx;split at hx
   .cases hx;exact .junk _
   .cases hx
 .intro ρ' S' F' a' w' hst hE hA;obtain ⟨he,r0,hr,hw⟩:=hq;obtain ⟨hB,Ds,hnd,hds,hD⟩:=hst.defers;have hos:=ajR Ds w';have hout:∀ b,b∉Ds->(shut Ds w').heap[b]?=w'.heap[b]?:=ajS Ds w';have QO:Keeps S' w' S' (shut Ds w'):=fun b hb=>⟨hb,hout b fun hm=>(hD b hm).2.1 hb⟩
  have hkU:∀ b,Ub st'.H F' b->(shut Ds w').heap[b]?=w'.heap[b]?:=fun b hb=>hout b fun hm=>by
   obtain ⟨arr,t,m,hc⟩:=hst.heap.blocks hb;rw [(hD b hm).2.2] at hc;cases hc
  have yC:nH w.heap.size G ρ' S' F' st' ⟨a'.tmps,[]⟩ (shut Ds w'):=⟨Marks.nil _ (by rw [hos.2.2.2];exact hB),hst.size,fun i x hx=>(hst.tmps i x hx).mono (fun _ _ h _=>h) QO,
   ⟨hst.heap.dom,fun i o ho=>by
    obtain ⟨q,hq,bY⟩:=hst.heap.obj i o ho;exact ⟨q,hq,bY.mono (fun _ _ h _=>h) QO fun b hb=>hkU b ⟨i,o,ho,hb⟩⟩,hst.heap.nodup,hst.heap.gW,hst.heap.sep,
    fun i o b ho hb=>by rw [hos.2.2.2];exact hst.heap.lt i o b ho hb,fun b hb=>by rw [hos.2.2.2];exact hst.heap.slt b hb⟩,hst.glob.mono QO⟩
  have hE2:jI S (Ub H F) w S' (Ub st'.H F') (shut Ds w'):=⟨hos.1.trans hE.os,hos.2.1.trans hE.tape,hos.2.2.1.trans hE.output,by rw [hos.2.2.2];exact hE.size,
   fun b hb hu=>(hout b fun hm=>by have:=(hD b hm).1;omega).trans<|hE.keep b hb hu,hE.sub,hE.newS,hE.uT⟩
  obtain ⟨x,hx,xC⟩:=hr _ G ρ' S' F' _ _ yC;obtain ⟨sJ,S2,F2,h2,hE3,hA2⟩:=hw w.heap.size G ρ' S' F' ⟨#[x],[]⟩ (shut Ds w') ⟨Marks.nil _ (by rw [hos.2.2.2];exact hB),rfl,fun i y hy=>by
   cases i with
   | zero=>simp at hy;subst hy;simpa using xC
   | succ i=>simp at hy,yC.heap,yC.glob⟩
  have hfin:LeavesInM Fence.wide 0 P fn a'.tmps (fun e w'=>∃ x ρ' S' F',e=.returned x/\RV ρ' S' w' x r/\dY ρ' S' F' H' w'/\jI S (Ub H F) w S' (Ub H' F') w'/\qz ρ ρ') a'.defers .returning w':=by
   rw [hds];refine ajT Ds w' hnd (fun D hm=>(hD D hm).2.2) ?_;exact ⟨x,hx,x,sJ,S2,F2,rfl,by simpa using h2.tmps 0 r rfl,h2.heap,hE2.trans hE3,hA.trans hA2⟩
  rcases he with rfl|rfl<;>exact hfin
theorem aO.tmp {fn:Func} {st:St} {t:Tmp} {r:V} (h:fn.results=#[.tmp t]) (ht:st.T[t]?=some r):aO P fn st r:=by
 intro B G ρ S F a w hst;exact ⟨_,by rw [results_tmp h],hst.tmps t r ht⟩
theorem ajU {fn:Func} {st:St} (h:fn.results=#[]):aO P fn st (.jX []):=by
 intro B G ρ S F a w hst;exact ⟨_,by rw [asV h],.jX #[] [] rfl fun j x c hx _=>by simp at hx⟩
def one (tmps:Array Value):ResultVar->Sem Value
 | .tmp t=>pure (tmps.getD t undef)
 | .cell a t=>do loadVar t (<- asAddr (tmps.getD a undef))
theorem aed (fn:Func) (tmps:Array Value):results fn tmps=(do let vs <- fn.results.mapM (one tmps);pure (if h:vs.size=1 then vs[0] else .tuple vs)):=rfl
def bX (P:Program) (st:St) (rv:ResultVar) (r:V):Prop:=
 ∀ B G ρ S F a w,nH B G ρ S F st a w->∃ x,(one a.tmps rv).run P w=.ok x w/\RV ρ S w x r
theorem ZV {st:St} {t:Tmp} {r:V} (ht:st.T[t]?=some r):bX P st (.tmp t) r:=fun _ _ _ _ _ _ _ hst=>⟨_,rfl,hst.tmps t r ht⟩
theorem aO.two {fn:Func} {st:St} {a b:ResultVar} {r s:V} (h:fn.results=#[a,b]) (h1:bX P st a r) (h2:bX P st b s):aO P fn st (.jX [r,s]):=by
 intro B G ρ S F act w hst;obtain ⟨x,hx,rx⟩:=h1 _ G ρ S F act w hst;obtain ⟨y,hy,ry⟩:=h2 _ G ρ S F act w hst;refine ⟨.tuple #[x,y],?_,.jX #[x,y] [r,s] rfl fun j z c hz hc=>?_⟩
 .simp [aed,h,hx,hy]
 .match j with
  | 0=>simp at hz hc;subst hz hc;exact rx
  | 1=>simp at hz hc;subst hz hc;exact ry
  | j+2=>simp at hz
theorem Vb {fn:Func} {st:St} {a b c:ResultVar} {r s t:V} (h:fn.results=#[a,b,c]) (h1:bX P st a r) (h2:bX P st b s) (h3:bX P st c t):aO P fn st (.jX [r,s,t]):=by
 intro B G ρ S F act w hst;obtain ⟨x,hx,rx⟩:=h1 _ G ρ S F act w hst;obtain ⟨y,hy,ry⟩:=h2 _ G ρ S F act w hst;obtain ⟨z,hz,rz⟩:=h3 _ G ρ S F act w hst;refine ⟨.tuple #[x,y,z],?_,.jX #[x,y,z] [r,s,t] rfl fun j q d hq hd=>?_⟩
 .simp [aed,h,hx,hy,hz]
 .match j with
  | 0=>simp at hq hd;subst hq hd;exact rx
  | 1=>simp at hq hd;subst hq hd;exact ry
  | 2=>simp at hq hd;subst hq hd;exact rz
  | j+3=>simp at hq
theorem aO.one {fn:Func} {st:St} {a:ResultVar} {r:V} (h:fn.results=#[a]) (h1:bX P st a r):aO P fn st r:=by
 intro B G ρ S F act w hst;obtain ⟨x,hx,rx⟩:=h1 _ G ρ S F act w hst;refine ⟨x,?_,rx⟩;simp [aed,h,hx]
structure Vd (q m:Ren) (args:List V) (H:Hp) (vs:List V) (Hc:Hp) (rc:V) (dU:Hp) (v:V) (H':Hp) (N:List Nat):Prop where
 qok:q.ok=true
 mok:m.ok=true
 args:AP q args vs
 heap:Hz q H Hc
 val:rc.rn m=v
 back:∀ j o',look H' j=some o'->(dZ q j=none/\look H j=some o'/\∀ i,dZ m i≠some j)\/(∃ i o,dZ m i=some j/\look dU i=some o/\Kv m o o')
 old:∀ i j,dZ m i=some j->i < 100->dZ q j=some i
 new:∀ i j,dZ m i=some j->100<=i->j∈N
 free:∀ j,j∈N->look H j=none
theorem aef {f:FuncId} {vs:List V} {Hc dU:Hp} {rc:V} (h:AC P G f vs Hc rc dU) {q m:Ren} {args:List V} {H H':Hp} {v:V} {N:List Nat}
  (c:Vd q m args H vs Hc rc dU v H' N)
  {ρ:Nat->Option Value} {S:Nat->Prop} {F:Nat->List Nat} {xs:Array Value} {w:World} (hsz:xs.size=args.length) (hxs:∀ i x,args[i]?=some x->RV ρ S w (xs.getD i undef) x)
  (hH:dY ρ S F H w) (hG:Hf G S w) (hfr:∀ j o,look H j=some o->∀ i,i∈N->o.has i=false):
  Calls P f xs w fun e w'=>∃ x,e=.returned x/\Post ρ S F H w v H' N x w':=by
 classical
 obtain ⟨ρc,Fc,hHc,k2,k3,k4⟩:=hH.rn c.qok c.heap;refine (h ρc S Fc xs w (hsz.trans c.args.length) (fun i y hy=>?_) hHc hG).mono ?_
 .rcases c.args.get hy with rfl|⟨x,hx,rfl⟩
  .exact .junk _
  .exact (hxs i x hx).rn k2
 .rintro e w' ⟨x,iK,S1,F1,rfl,hx,hH1,hE,hA⟩;have hUc:∀ b,Ub Hc Fc b->Ub H F b:=by
   rintro b ⟨j,o',ho,hb⟩;obtain ⟨i,o,_,hl,e,_⟩:=k4 j o' ho;exact ⟨i,o,hl,e ▸ hb⟩
  let own:Nat->Prop:=fun j=>∃ i,dZ m i=some j
  let ρ':Nat->Option Value:=fun j=>if (look H' j).isSome then (if own j then MU m iK j else ρ j) else none
  let F':Nat->List Nat:=fun j=>if h:own j then F1 (Classical.choose h) else F j
  have hown:∀ {i j:Nat},dZ m i=some j->own j:=fun {i j} h=>⟨i,h⟩
  have hF':∀ {i j:Nat},dZ m i=some j->F' j=F1 i:=fun {i j} h=>by
   have hx:own j:=⟨i,h⟩
   simp only [F',dif_pos hx];rw [Ren.inj c.mok (UM hx) h]
  have ajV:∀ i j r,dZ m i=some j->ρ' j=some r->iK i=some r:=fun i j r hi hr=>by
   simp only [ρ'] at hr;split at hr
   .rw [dA<|hown hi,QN c.mok hi] at hr;exact hr
   .cases hr
  have ZW:QL ρ ρ' N:=by
   intro j r hr hN;simp only [ρ'] at hr;split at hr
   .split at hr
    .obtain ⟨i,hi,hr1⟩:=ajO hr;rcases xA i 100 with hlt|hge
     .exact k2 j i r (c.old i j hi hlt) (hA i r hlt hr1)
     .exact absurd (c.new i j hi hge) hN
    .exact hr
   .cases hr
  have hk:Keeps S w S1 w':=hHc.keeps hE;have cases':∀ j o',look H' j=some o'->(¬own j/\dZ q j=none/\look H j=some o'/\F' j=F j/\ρ' j=ρ j)\/(∃ i o,dZ m i=some j/\look dU i=some o/\Kv m o o'/\F' j=F1 i/\ρ' j=iK i):=by
   intro j o' ho;rcases c.back j o' ho with ⟨h1,h2,h3⟩|⟨i,o,hi,hl,hs⟩
   .refine .inl ⟨fun ⟨i,hi⟩=>h3 i hi,h1,h2,?_,?_⟩
    .have: ¬own j:=fun ⟨i,hi⟩=>h3 i hi;simp only [F',dif_neg this]
    .have: ¬own j:=fun ⟨i,hi⟩=>h3 i hi;simp only [ρ',ho,bI this];rfl
   .refine .inr ⟨i,o,hi,hl,hs,hF' hi,?_⟩;simp only [ρ',ho,dA<|hown hi,QN c.mok hi];rfl
  have hframe:∀ j o b,dZ q j=none->look H j=some o->b∈F j-> ¬Ub Hc Fc b:=by
   rintro j o b hq hl hb ⟨i',o',ho',hb'⟩;obtain ⟨i,p,hi,hp,e,_⟩:=k4 i' o' ho';rw [e] at hb';refine hH.gW j i o p b hl hp (fun hji=>?_) hb hb';subst hji;rw [hi] at hq;cases hq
  have ati:∀ j o b,dZ q j=none->look H j=some o->b∈F j->w'.heap[b]?=w.heap[b]?:=fun j o b hq hl hb=>hE.keep b (hH.lt j o b hl hb) (hframe j o b hq hl hb);have aeh:∀ i o b,look dU i=some o->b∈F1 i->Ub Hc Fc b\/w.heap.size<=b:=fun i o b hl hb=>hE.uT b ⟨i,o,hl,hb⟩;have ajW:∀ b,S1 b->S b\/Ub Hc Fc b\/w.heap.size<=b:=hE.newS;refine ⟨x,rfl,ρ',S1,F',c.val ▸ hx.rn ajV,⟨fun j hj=>by simp [ρ',hj],fun j o' ho=>?_,fun j o' ho=>?_,fun j j' o o' b hj hj' hne hb hb'=>?_,fun j o' b ho hb=>?_,fun j o' b ho hb=>?_,hH1.slt⟩,
   ⟨hE.os,hE.tape,hE.output,hE.size,fun b hb hu=>hE.keep b hb fun h=>hu<|hUc b h,hE.sub,fun b hb=>(ajW b hb).imp id<|Or.imp (hUc b) id,?_⟩,ZW⟩
  .rcases cases' j o' ho with ⟨h1,h2,h3,h4,h5⟩|⟨i,o,hi,hl,hs,h4,h5⟩
   .obtain ⟨r,hr,bY⟩:=hH.obj j o' h3;refine ⟨r,h5.trans hr,?_⟩;rw [h4];refine bY.mono (fun i r hi hh=>ZW i r hi fun hN=>?_) hk (fun b hb=>ati j o' b h2 h3 hb);rw [hfr j o' h3 i hN] at hh;cases hh
   .obtain ⟨r,hr,bY⟩:=hH1.obj i o hl;refine ⟨r,h5.trans hr,?_⟩;rw [h4];exact bY.rn ajV hs
  .rcases cases' j o' ho with ⟨h1,h2,h3,h4,h5⟩|⟨i,o,hi,hl,hs,h4,h5⟩
   .rw [h4];exact hH.nodup j o' h3
   .rw [h4];exact hH1.nodup i o hl
  .rcases cases' j o hj with ⟨h1,h2,h3,h4,h5⟩|⟨i,p,hi,hl,hs,h4,h5⟩
   .rcases cases' j' o' hj' with ⟨h1',h2',h3',h4',h5'⟩|⟨i',p',hi',hl',hs',h4',h5'⟩
    .rw [h4] at hb;rw [h4'] at hb';exact hH.gW j j' o o' b h3 h3' hne hb hb'
    .rw [h4] at hb;rw [h4'] at hb';rcases aeh i' p' b hl' hb' with h|h
     .exact hframe j o b h2 h3 hb h
     .have:=hH.lt j o b h3 hb;omega
   .rcases cases' j' o' hj' with ⟨h1',h2',h3',h4',h5'⟩|⟨i',p',hi',hl',hs',h4',h5'⟩
    .rw [h4] at hb;rw [h4'] at hb';rcases aeh i p b hl hb with h|h
     .exact hframe j' o' b h2' h3' hb' h
     .have:=hH.lt j' o' b h3' hb';omega
    .rw [h4] at hb;rw [h4'] at hb';refine hH1.gW i i' p p' b hl hl' (fun e=>hne ?_) hb hb';subst e;rw [hi] at hi';exact kD hi'
  .rcases cases' j o' ho with ⟨h1,h2,h3,h4,h5⟩|⟨i,o,hi,hl,hs,h4,h5⟩
   .rw [h4] at hb;intro hs;rcases ajW b hs with h|h|h
    .exact hH.sep j o' b h3 hb h
    .exact hframe j o' b h2 h3 hb h
    .have:=hH.lt j o' b h3 hb;omega
   .rw [h4] at hb;exact hH1.sep i o b hl hb
  .rcases cases' j o' ho with ⟨h1,h2,h3,h4,h5⟩|⟨i,o,hi,hl,hs,h4,h5⟩
   .rw [h4] at hb;exact Az (hH.lt j o' b h3 hb) hE.size
   .rw [h4] at hb;exact hH1.lt i o b hl hb
  .rintro b ⟨j,o',ho,hb⟩;rcases cases' j o' ho with ⟨h1,h2,h3,h4,h5⟩|⟨i,o,hi,hl,hs,h4,h5⟩
   .rw [h4] at hb;exact .inl ⟨j,o',h3,hb⟩
   .rw [h4] at hb;exact (aeh i o b hl hb).imp (hUc b) id
end
end Go.Av
namespace Go.Av
inductive TD where
 | int (k:IntKind)
 | bool
 | str
 | slice (e:TypeId)
 | arr (n:Nat) (e:TypeId)
 | struct (fs:List (Nat×TypeId))
 | other
 deriving Inhabited
structure Ty where
 d:TD
 size:Nat
 bytes:Nat
 zero:List Value
 cmp:Bool:=false
 deriving Inhabited
def TD.is:TD->TypeDesc->Prop
 | .int k,.int k'=>k=k'
 | .bool,.bool=>True
 | .str,.string=>True
 | .slice e,.slice e'=>e=e'
 | .arr n e,.array n' e'=>n=n'/\e=e'
 | .struct fs,.struct fields=>fields.toList.map (fun f=>(f.offset,f.type))=fs
 | .other,.struct _=>False
 | .other,.array _ _=>False
 | .other,_=>True
 | _,_=>False
def TD.agg:TD->Bool
 | .arr ..=>true
 | .struct ..=>true
 | _=>false
def eP (P:Program) (t:TypeId) (i:Ty):Prop:=
 (∃ inf z,P.info? t=some inf/\inf.size=i.size/\inf.bytes=i.bytes/\inf.zero=some z/\z.cells.toList=i.zero/\i.zero.all (·.oneCell')=true/\i.zero.length=i.size)/\(∃ d,P.underlying t=some d/\i.d.is d)/\
 (i.cmp=true->P.stoodInHeld t=false/\P.eqGuardType P.depth t=false/\∀ f,f∈(P.fieldsOf t).toList->f.name≠ "_")
abbrev Tab:=List (Option Ty)
def Tab.at (D:Tab) (t:TypeId):Option Ty:=D.getD t none
def dQ (P:Program) (D:Tab):Prop:=∀ t i,D.at t=some i->eP P t i
def HY (P:Program):Nat->Tab->Prop
 | _,[]=>True
 | n,none::l=>HY P (n+1) l
 | n,some i::l=>eP P n i/\HY P (n+1) l
def HY.get {P:Program}:∀ {n:Nat} {l:Tab},HY P n l->∀ {j:Nat} {i:Ty},l.getD j none=some i->eP P (n+j) i
 | n,[],_,j,i,h=>by simp at h
 | n,none::l,h,j,i,hj=>by
  cases j with
  | zero=>simp at hj
  | succ j=>have:=HY.get (n:=n+1) h (j:=j) (i:=i) (by simpa using hj);rwa [ZG] at this
 | n,some y::l,h,j,i,hj=>by
  cases j with
  | zero=>simp at hj;subst hj;exact h.1
  | succ j=>have:=HY.get (n:=n+1) h.2 (j:=j) (i:=i) (by simpa using hj);rwa [ZG] at this
def HY.ok {P:Program} {D:Tab} (h:HY P 0 D):dQ P D:=fun t i hi=>by simpa using h.get (j:=t) hi
section
variable {P:Program} {G:Nat->Option (List V)}
theorem eP.sizeOf {t:TypeId} {i:Ty} (h:eP P t i) (w:World):(sizeOf t).run P w=.ok i.size w:=by
 obtain ⟨⟨inf,z,h1,h2,_⟩,_,_⟩:=h;simp [Go.sizeOf,typeInfo,h1,h2]
theorem eP.isAgg {t:TypeId} {i:Ty} (h:eP P t i) (w:World):(isAgg t).run P w=.ok i.d.agg w:=by
 obtain ⟨_,⟨d,h1,h2⟩,_⟩:=h;simp only [Go.isAgg,gU,nV h1,gN];cases hd:i.d<;>cases d<;>simp_all [TD.is,TD.agg]
theorem eP.zeroValue {t:TypeId} {i:Ty} (h:eP P t i) (w:World):∃ z,(zeroValue t).run P w=.ok z w/\z.cells.toList=i.zero/\i.zero.all (·.oneCell')=true:=by
 obtain ⟨⟨inf,z,h1,_,_,h4,h5,h6,_⟩,_,_⟩:=h;exact ⟨z,by simp [Go.zeroValue,typeInfo,h1,h4],h5,h6⟩
theorem Ed {o:Oper} {e:Operand->V} {H:Hp} {v:V}
  (h:∀ ρ S F (η:Operand->Value) w,(∀ x,x∈o.op.operands->RV ρ S w (η x) (e x))->dY ρ S F H w->∃ x,(execOp η o).run P w=.ok (.value x) w/\RV ρ S w x v):gH P G o e H v H []:=by
 intro ρ S F η w bQ hH hG;obtain ⟨x,hx,hv⟩:=h ρ S F η w bQ hH;unfold oC;rw [hx];exact ⟨ρ,S,F,hv,hH,jI.refl _ _ _,fun i r h _=>h⟩
def aj (n:Int):V:=.c (.int .i64 n)
def V.b (b:Bool):V:=.c (.bool b)
def V.s (l:List UInt8):V:=.c (.string ⟨⟨l⟩⟩)
theorem atj (bs:ByteArray) (i:Nat) (r:List UInt8):ByteArray.toList.loop bs i r=r.reverse++bs.data.toList.drop i:=by
 fun_induction ByteArray.toList.loop bs i r with
 | case1 i r h ih=>
  rw [ih];have:bs.data.toList.drop i=bs.get! i::bs.data.toList.drop (i+1):=by
   rw [zB<|by simpa using h];congr 1;simp [ByteArray.get!,Array.getElem!_eq_getD,Array.getD];omega
  simp [this]
 | case2 i r h=>simp;omega
theorem toList_eq (s:ByteArray):s.toList=s.data.toList:=by simp [ByteArray.toList,atj]
def aei:TD->V->V->Option Bool
 | .int _,.c<|.int k a,.c (.int k' b)=>if k=k' then some (a==b) else none
 | .str,.c<|.string a,.c (.string b)=>some (a.data.toList==b.data.toList)
 | .bool,.c<|.bool a,.c (.bool b)=>some (a==b)
 | _,_,_=>none
def ajX (D:Tab) (t:TypeId) (x y:Option V):Option Bool:=
 match D.at t,x,y with
 | some i,some x,some y=>aei i.d x y
 | _,_,_=>none
def QS (D:Tab):List (Nat×TypeId)->List V->List V->Option Bool
 | [],_,_=>some true
 | (o,t)::fs,xs,ys=>(ajX D t xs[o]? ys[o]?).bind fun q=>(QS D fs xs ys).map fun r=>q&&r
def ZX (op:BinOp) (k:IntKind) (a b:Int):Option V:=
 match op with
 | .add=>some (.c<|.int k<|k.wrap<|a+b)
 | .sub=>some (.c<|.int k<|k.wrap<|a - b)
 | .mul=>some (.c<|.int k<|k.wrap<|a*b)
 | .quo=>if b=0 then none else some (.c<|.int k<|k.wrap<|a.tdiv b)
 | .rem=>if b=0 then none else some (.c<|.int k<|a.tmod b)
 | .and=>some (.c<|.int k<|bits .and k a b)
 | .or=>some (.c<|.int k<|bits .or k a b)
 | .xor=>some (.c<|.int k<|bits .xor k a b)
 | .eql=>some (.c<|.bool<|a==b)
 | .neq=>some (.c<|.bool<|a !=b)
 | .lss=>some (.c<|.bool<|decide<|a < b)
 | .leq=>some (.c<|.bool<|decide<|a<=b)
 | .gtr=>some (.c<|.bool<|decide<|a > b)
 | .geq=>some (.c<|.bool<|decide<|a>=b)
 | _=>none
def ZY (op:BinOp) (k:IntKind) (a b:Int):Option V:=
 if b < 0 then none else
 match op with
 | .shl=>some (.c<|.int k<|k.wrap<|a*2 ^ (min b.toNat k.bits))
 | .shr=>some (.c<|.int k<|a.fdiv<|2 ^ (min b.toNat k.bits))
 | _=>none
def aej (op:BinOp) (a b:ByteArray):Option V:=
 match op with
 | .eql=>some (.c<|.bool<|a.data.toList==b.data.toList)
 | .neq=>some (.c<|.bool<|!(a.data.toList==b.data.toList))
 | .lss=>some (.c<|.bool<|Op.bytesLess a.data.toList b.data.toList)
 | .gtr=>some (.c<|.bool<|!(Op.bytesLess a.data.toList b.data.toList||a.data.toList==b.data.toList))
 | _=>none
def aek (D:Tab) (op:BinOp) (t:TypeId) (a b:Bool):Option V:=
 match D.at t with
 | some i=>match i.d,op with
  | .bool,.eql=>some (.c<|.bool<|a==b)
  | .bool,.neq=>some (.c<|.bool<|!(a==b))
  | _,_=>none
 | none=>none
def ael (D:Tab) (op:BinOp) (t:TypeId) (xs ys:List V):Option V:=
 match D.at t with
 | some i=>match i.d,op,i.cmp with
  | .struct fs,.eql,true=>(QS D fs xs ys).map fun b=>.c (.bool b)
  | .struct fs,.neq,true=>(QS D fs xs ys).map fun b=>.c (.bool<|!b)
  | _,_,_=>none
 | none=>none
def aac (D:Tab) (op:BinOp) (t:TypeId):V->V->Option V
 | .c (.int k a),.c (.int k' b)=>
  match op with
  | .shl=>ZY .shl k a b
  | .shr=>ZY .shr k a b
  | op=>if k=k' then ZX op k a b else none
 | .c (.string a),.c (.string b)=>aej op a b
 | .c (.bool a),.c (.bool b)=>aek D op t a b
 | .agg xs,.agg ys=>ael D op t xs ys
 | _,_=>none
theorem RV.Kw {ρ:Nat->Option Value} {S:Nat->Prop} {w:World} {v:Value} {cells:List V} (h:RV ρ S w v (.agg cells)):
  ∃ arr,v=.agg arr/\arr.size=cells.length/\(∀ (j:Nat) (c:Value),arr[j]?=some c->c.oneCell'=true)/\∀ (j:Nat) (x:V),cells[j]?=some x->∃ c,arr[j]?=some c/\RV ρ S w c x:=by
 cases h with
 | agg arr _ hsz h1 hr=>
  refine ⟨arr,rfl,hsz,h1,fun j x hx=>?_⟩;have hj:j < arr.size:=by rw [hsz];exact (dK.1 hx).1
  exact ⟨arr[j],mP hj,hr j x _ hx<|mP hj⟩
theorem ajY {t:TypeId} {i:Ty} (h:eP P t i) (ha:i.d.agg=false) {cs:Array Value} {o:Nat} {v:Value} (hv:cs[o]?=some v) (w:World):(part t cs o).run P w=.ok v w:=by
 simp [part,h.isAgg w,ha,hv]
theorem atl {t:TypeId} {i:Ty} (ht:eP P t i) {x y:V} {q:Bool} (h:aei i.d x y=some q) {ρ:Nat->Option Value} {S:Nat->Prop} {w:World} {c1 c2:Value} {d:Nat}
  (hx:RV ρ S w c1 x) (hy:RV ρ S w c2 y):(Op.equalIn (d+1) t c1 c2).run P w=.ok q w/\i.d.agg=false:=by
 obtain ⟨_,⟨dd,u1,u2⟩,_⟩:=ht;generalize i.d=td at*;unfold aei at h;split at h
 .split at h
  .cases h;cases hx;cases hy;subst_vars;refine ⟨?_,rfl⟩;cases dd<;>simp only [TD.is] at u2;exact run_equalIn_int w d t _ _ _ _ u1
  .cases h
 .cases h;cases hx;cases hy;refine ⟨?_,rfl⟩;cases dd<;>simp only [TD.is] at u2;rw [run_equalIn_string w d t _ _ u1,toList_eq,toList_eq]
 .cases h;cases hx;cases hy;refine ⟨?_,rfl⟩;cases dd<;>simp only [TD.is] at u2;rw [run_equalIn_bool w d t _ _ u1]
 .cases h
theorem atm {D:Tab} (hD:dQ P D) {ρ:Nat->Option Value} {S:Nat->Prop} {w:World} {xs ys:List V} {ax ay:Array Value} {d:Nat}
  (hx:∀ (j:Nat) (x:V),xs[j]?=some x->∃ c,ax[j]?=some c/\RV ρ S w c x) (hy:∀ (j:Nat) (x:V),ys[j]?=some x->∃ c,ay[j]?=some c/\RV ρ S w c x)
  (fields:List Field):∀ {b:Bool},(∀ f,f∈fields->f.name≠ "_")->QS D (fields.map fun f=>(f.offset,f.type)) xs ys=some b->(Op.eqFields (d+1) ax ay fields).run P w=.ok b w:=by
 induction fields with
 | nil=>intro b _ h;simp [QS] at h;subst h;simp [Op.eqFields]
 | cons f fields ih=>
  intro b hn h;have hname:f.name≠ "_" :=hn f aF;simp only [jV,QS,dB,eD] at h;obtain ⟨q,hq,r,hr,rfl⟩:=h;have ih':=ih (fun g hg=>hn g<|sG _ hg) hr;unfold ajX at hq;split at hq
  .rename_i i x y hty h1 h2;obtain ⟨c1,e1,r1⟩:=hx _ _ h1;obtain ⟨c2,e2,r2⟩:=hy _ _ h2;obtain ⟨he,ha⟩:=atl (hD _ _ hty) hq r1 r2 (d:=d);simp only [Op.eqFields,dA hname,gU,ajY (hD _ _ hty) ha e1 w,gN,ajY (hD _ _ hty) ha e2 w,he,ZI,ih'];cases q<;>simp
  .cases hq
def atn {op:BinOp} {k:IntKind} {a b:Int} {v:V} {t:TypeId} {x y:Operand} {w:World} (h:ZX op k a b=some v):
    ∃ r,(do eqGuard op t x y (.int k a) (.int k b);binOp op t (.int k a) (.int k b):Sem Value).run P w=.ok r w/\v=.c r:=by
  cases op<;>simp only [ZX] at h<;>first
    | (cases h;done)
    | (split at h
       · cases h
       · cases h
         refine ⟨_,?_,rfl⟩;simp_all [go_sem,Op.intDiv])
    | (cases h
       refine ⟨_,?_,rfl⟩;simp [go_sem,Op.intArith])
def ajZ {op:BinOp} {k k':IntKind} {a b:Int} {v:V} {t:TypeId} {x y:Operand} {w:World} (h:ZY op k a b=some v):
    ∃ r,(do eqGuard op t x y (.int k a) (.int k' b);binOp op t (.int k a) (.int k' b):Sem Value).run P w=.ok r w/\v=.c r:=by
  unfold ZY at h;split at h
  · cases h
  · rename_i hb
    cases op<;>simp only at h<;>first
      | (cases h;done)
      | (cases h
         refine ⟨_,?_,rfl⟩;simp only [gU,eqGuard_shl,eqGuard_shr,kY,gN,binOp_shl,binOp_shr,Op.shift,bI hb])
def ato {op:BinOp} {a b:ByteArray} {v:V} {t:TypeId} {x y:Operand} {w:World} (h:aej op a b=some v):
    ∃ r,(do eqGuard op t x y (.string a) (.string b);binOp op t (.string a) (.string b):Sem Value).run P w=.ok r w/\v=.c r:=by
  cases op<;>simp only [aej] at h<;>first
    | (cases h;done)
    | (cases h
       refine ⟨_,?_,rfl⟩;simp [go_sem,binOp,Op.stringOp,toList_eq])
def atp {D:Tab} (hD:dQ P D) {op:BinOp} {a b:Bool} {v:V} {t:TypeId} {x y:Operand} {w:World} (h:aek D op t a b=some v):
    ∃ r,(do eqGuard op t x y (.bool a) (.bool b);binOp op t (.bool a) (.bool b):Sem Value).run P w=.ok r w/\v=.c r:=by
  unfold aek at h;split at h
  · rename_i i hty
    obtain ⟨_,⟨d,h1,h2⟩,_⟩:=hD _ _ hty;split at h;all_goals first
      | (cases h;done)
      | (rename_i hd
         rw [hd] at h2;have:d=.bool:=by cases d<;>simp_all [TD.is]
         subst this;cases h;refine ⟨_,?_,rfl⟩;simp [go_sem,run_eql_bool w t _ _ h1,run_neq_bool w t _ _ h1])
  · cases h
def atq {D:Tab} (hD:dQ P D) {op:BinOp} {t:TypeId} {x y:Operand} {a b:List V} {v:V} (h:ael D op t a b=some v) {u u':Value} {ρ:Nat->Option Value} {S:Nat->Prop} {w:World}
    (ha:RV ρ S w u (.agg a)) (hb:RV ρ S w u' (.agg b)):∃ r,(do eqGuard op t x y u u';binOp op t u u':Sem Value).run P w=.ok r w/\v=.c r:=by
  unfold ael at h;split at h
  · rename_i i hty
    have ty:=hD _ _ hty;obtain ⟨ax,rfl,_,_,hx⟩:=ha.Kw;obtain ⟨ay,rfl,_,_,hy⟩:=hb.Kw;obtain ⟨_,⟨d,h1,h2⟩,h3⟩:=ty;split at h;all_goals first
      | (cases h;done)
      | (rename_i fs hd hc
         obtain ⟨s1,s2,s3⟩:=h3 hc;rw [hd] at h2;obtain ⟨fields,rfl⟩:∃ fields,d=.struct fields:=by cases d<;>simp_all [TD.is]
         have h1':P.underlying t=some (.struct<|P.fieldsOf t):=by simp [Program.fieldsOf,h1]
         have hf:P.fieldsOf t=fields:=by simp [Program.fieldsOf,h1]
         rw [hf] at s3;simp only [TD.is] at h2;rw [eD] at h;obtain ⟨q,hq,rfl⟩:=h;rw [<- h2] at hq;have he:=run_equalIn_struct w 9999 t ax ay h1' s1;rw [hf,atm hD hx hy (d:=9998) _ s3 hq] at he;refine ⟨_,?_,rfl⟩;simp only [gU,run_eqGuard_agg w _ t x y ax ay s2,gN,run_eql_struct,run_neq_struct,he])
  · cases h
def atr {D:Tab} (hD:dQ P D) {op:BinOp} {t:TypeId} {x y:Operand} {a b v:V} (h:aac D op t a b=some v) {u u':Value} {ρ:Nat->Option Value} {S:Nat->Prop} {w:World}
  (ha:RV ρ S w u a) (hb:RV ρ S w u' b):∃ r,(do eqGuard op t x y u u';binOp op t u u':Sem Value).run P w=.ok r w/\v=.c r:=by
 unfold aac at h;split at h
 .cases ha;cases hb;split at h
  .exact ajZ h
  .exact ajZ h
  .split at h
   .subst_vars;exact atn h
   .cases h
 .cases ha;cases hb;exact ato h
 .cases ha;cases hb;exact atp hD h
 .exact atq hD h ha hb
 .cases h
end
end Go.Av
namespace Go.Av
section
variable {P:Program} {G:Nat->Option (List V)}
def live (H:Hp) (i:Nat):Bool:=(look H i).isSome
def uU (H:Hp):V->Option (List V)
 | .agg cs=>some cs
 | .c v=>if v.oneCell' then some [.c v] else none
 | .sl nn x rows=>some [.sl nn x rows]
 | .own i=>bif live H i then some [.own i] else none
 | .loc i o=>bif live H i then some [.loc i o] else none
 | .vp i a b c=>bif live H i then some [.vp i a b c] else none
 | .el cs=>some [.el cs]
 | .fn f cs=>some [.fn f cs]
 | _=>none
def Ee (D:Tab) (t:TypeId) (cs:List V):Option V:=
 match D.at t with
 | some i=>bif i.d.agg then (bif Nat.ble i.size cs.length then some (.agg<|cs.take i.size) else none) else cs[0]?
 | none=>none
def Ky (H:Hp) (n:Nat):V->Option V
 | .loc i o=>bif live H i then some (.loc i<|o+n) else none
 | .vp i k a b=>bif live H i then some (.vp i k a<|b+n) else none
 | .el cs=>some (.el<|cs.drop n)
 | _=>none
def Kz (H:Hp):V->Option Nat
 | .sl _ _ rows=>some rows.length
 | .c (.slice none n _)=>some n
 | .own i=>match look H i with
  | some (.vec _ _ _ rows)=>some rows.length
  | _=>none
 | _=>none
def MW (D:Tab) (H:Hp) (t:TypeId):V->Option V
 | .el cs=>Ee D t cs
 | .loc i o=>match look H i with
  | some (.cells _ cs)=>Ee D t (cs.drop o)
  | _=>none
 | _=>none
def wo (H:Hp) (place:Nat->Option (Nat×Nat)) (cells:List V):List (Nat×V)->Option (List V)
 | []=>some cells
 | (i,v)::rest=>
  match place i,uU H v with
  | some (off,size),some cs=>if cs.length≠size\/off+size > cells.length then none else wo H place (cells.take off++cs++cells.drop (off+size)) rest
  | _,_=>none
def QT (D:Tab) (t:TypeId):Option Nat:=(D.at t).map (·.size)
def Ve (D:Tab):List (Nat×TypeId)->Option (List<|Nat×Nat)
 | []=>some []
 | (o,t)::fs=>(QT D t).bind fun s=>(Ve D fs).map fun r=>(o,s)::r
def QU (D:Tab) (H:Hp) (t:TypeId) (parts:List (Nat×V)):Option V:=
 match D.at t with
 | some i=>match i.d with
  | .struct fs=>(Ve D fs).bind fun places=>(wo H (fun j=>places[j]?) (i.zero.map .c) parts).map .agg
  | .arr _ e=>match QT D e with
   | some s=>(wo H (fun j=>some (j*s,s)) (i.zero.map .c) parts).map .agg
   | none=>none
  | _=>none
 | none=>none
def iy (D:Tab) (H:Hp) (e:Operand->V):Op->Option V
 | .move x=>some (e x)
 | .assign x=>some (e x)
 | .pick c a b=>match e c with
  | .c (.bool t)=>match e a,e b with
   | .c (.bool x),.c (.bool y)=>some (.c<|.bool<|cond t x y)
   | x,y=>some (cond t x y)
  | _=>none
 | .nilCheck x=>match e x with
  | .loc i o=>bif live H i then some (.loc i o) else none
  | .vp i k a b=>bif live H i then some (.vp i k a b) else none
  | .el cs=>some (.el cs)
  | .fn f cs=>some (.fn f cs)
  | _=>none
 | .binOp op t x y _=>aac D op t (e x) (e y)
 | .unOp .not _ x=>match e x with
  | .c (.bool b)=>some (.c<|.bool<|!b)
  | _=>none
 | .unOp .neg _ x=>match e x with
  | .c (.int k n)=>some (.c<|.int k<|k.wrap<|0 - n)
  | _=>none
 | .convert s d x=>match D.at s,D.at d,e x with
  | some _,some j,.c (.int _ n)=>match j.d with
   | .int k=>some (.c<|.int k<|k.wrap n)
   | _=>none
  | _,_,_=>none
 | .fieldAddr s x f=>match D.at s with
  | some i=>match i.d with
   | .struct fs=>match fs[f]? with
    | some (o,ft)=>match QT D ft with
     | some (_+1)=>Ky H o (e x)
     | _=>none
    | none=>none
   | _=>none
  | none=>none
 | .field s x f=>match D.at s,e x with
  | some i,.agg cs=>match i.d with
   | .struct fs=>match fs[f]? with
    | some (o,ft)=>Ee D ft (cs.drop o)
    | none=>none
   | _=>none
  | _,_=>none
 | .load t a=>MW D H t (e a)
 | .extract x i=>match e x with
  | .jX vs=>vs[i]?
  | _=>none
 | .makeFunc (.func f) first caps=>if first.size=0 then some (.fn f<|caps.toList.map e) else none
 | .build t parts=>QU D H t (parts.toList.map fun p=>(p.1,e p.2))
 | .call c=>match c.callee,c.args.toList,c.argTypes.toList with
  | .builtin .len,[x],[t]=>match D.at t with
   | some i=>match i.d with
    | .slice _=>(Kz H<|e x).map fun (n:Nat)=>.c (.int .i64 (n:Int))
    | .str=>match e x with
     | .c (.string s)=>some (.c<|.int .i64 s.size)
     | _=>none
    | _=>none
   | none=>none
  | .builtin .max,[x,y],_=>match e x,e y with
   | .c (.int k a),.c (.int _ b)=>some (.c<|.int k<|if b > a then b else a)
   | _,_=>none
  | .builtin .min,[x,y],_=>match e x,e y with
   | .c (.int k a),.c (.int _ b)=>some (.c<|.int k<|if b < a then b else a)
   | _,_=>none
  | _,_,_=>none
 | _=>none
theorem RV.aem {ρ:Nat->Option Value} {S:Nat->Prop} {w:World} {v:Value} {i off:Nat} (h:RV ρ S w v (.loc i off)):∀ r,ρ i=some r->∃ g,r=.pointer (some ⟨g,0,none⟩)/\v=.pointer (some ⟨g,off,none⟩):=by cases h;assumption
theorem RV.aen {ρ:Nat->Option Value} {S:Nat->Prop} {w:World} {v:Value} {i k a b:Nat} (h:RV ρ S w v (.vp i k a b)):∀ r,ρ i=some r->∃ g n cap,r=.slice (some ⟨g,0,none⟩) n cap/\v=.pointer (some ⟨g,a*k+b,none⟩):=by cases h;assumption
theorem RV.Cv {ρ:Nat->Option Value} {S:Nat->Prop} {w:World} {v:Value} {i:Nat} (h:RV ρ S w v (.own i)):∀ r,ρ i=some r->v=r:=by cases h;assumption
theorem RV.Vf {ρ:Nat->Option Value} {S:Nat->Prop} {w:World} {v:Value} {nn x:Bool} {rows:List (List V)} (h:RV ρ S w v (.sl nn x rows)):RD S w v (.sl nn x rows) []:=by cases h;assumption
theorem RV.akb {ρ:Nat->Option Value} {S:Nat->Prop} {w:World} {v:Value} {cells:List V} (h:RV ρ S w v (.el cells)):
  ∃ (a:Addr) (cs:Nat->Value),v=.pointer (some a)/\(∀ (j:Nat) (x:V),cells[j]?=some x->S a.block/\w.cell? (a.add j)=some (cs j))/\(∀ (j:Nat) (x:V),cells[j]?=some x->RD S w (cs j) x []):=by
 cases h with|el a _ cs h1 h2=>exact ⟨a,cs,rfl,h1,h2⟩
theorem RV.Vg {ρ:Nat->Option Value} {S:Nat->Prop} {w:World} {v:Value} {f:FuncId} {caps:List V} (h:RV ρ S w v (.fn f caps)):
  ∃ arr:Array Value,v=.func (.func f) #[] arr/\arr.size=caps.length/\∀ (j:Nat) (x:V) (c:Value),caps[j]?=some x->arr[j]?=some c->RV ρ S w c x:=by
 cases h with|fn _ arr _ h1 h2=>exact ⟨arr,rfl,h1,h2⟩
theorem dY.root {ρ:Nat->Option Value} {S:Nat->Prop} {F:Nat->List Nat} {H:Hp} {w:World} (h:dY ρ S F H w) {i:Nat} (hl:live H i=true):∃ r,ρ i=some r/\r.oneCell'=true:=by
 obtain ⟨o,ho⟩:=MC.1 hl;obtain ⟨r,hr,bY⟩:=h.obj i o ho;exact ⟨r,hr,by generalize F i=Fi at bY;cases bY<;>rfl⟩
theorem RV.cells {ρ:Nat->Option Value} {S:Nat->Prop} {F:Nat->List Nat} {H:Hp} {w:World} (hH:dY ρ S F H w) {x:Value} {v:V} (h:RV ρ S w x v) {cs:List V} (hc:uU H v=some cs):
  x.cells.size=cs.length/\(∀ (j:Nat) (c:Value),x.cells[j]?=some c->c.oneCell'=true)/\∀ (j:Nat) (y:V),cs[j]?=some y->∃ c,x.cells[j]?=some c/\RV ρ S w c y:=by
 have one:∀ (u:Value) (y:V),u.oneCell'=true->RV ρ S w u y->u.cells.size=[y].length/\(∀ (j:Nat) (c:Value),u.cells[j]?=some c->c.oneCell'=true)/\∀ (j:Nat) (z:V),[y][j]?=some z->∃ c,u.cells[j]?=some c/\RV ρ S w c z:=by
  intro u y hu hr;have he:u.cells=#[u]:=by cases u<;>first|rfl|cases hu
  rw [he];refine ⟨rfl,fun j c hj=>?_,fun j z hj=>?_⟩
  .cases j with
   | zero=>simp at hj;subst hj;exact hu
   | succ j=>simp at hj
  .cases j with
   | zero=>simp at hj;subst hj;exact ⟨u,aF,hr⟩
   | succ j=>simp at hj
 have aeo:∀ {b:Bool} {y:V},(bif b then some [y] else none)=some cs->b=true/\cs=[y]:=by
  intro b y hb;cases b with
  | true=>simp at hb;exact ⟨rfl,hb.symm⟩
  | false=>simp at hb
 cases v with
 | junk=>cases hc
 | vw=>cases hc
 | jX=>cases hc
 | agg l=>
  simp only [uU,iG] at hc;subst hc;obtain ⟨arr,rfl,h1,h2,h3⟩:=h.Kw;exact ⟨h1,h2,h3⟩
 | c u=>
  simp only [uU] at hc;split at hc
  .cases hc;cases h.iX;exact one _ _ ‹_› h
  .cases hc
 | sl nn b rows=>
  cases hc;cases h with
  | sl _ _ _ _ hd=>exact one _ _ hd.one (.sl _ _ _ _ hd)
 | own i=>
  obtain ⟨hl,rfl⟩:=aeo hc;obtain ⟨r,hr,h1⟩:=hH.root hl;cases h with
  | own _ _ hx=>rw [hx r hr];exact one _ _ h1 (.own _ i fun r' hr'=>by rw [hr] at hr';cases hr';rfl)
 | loc i o=>
  obtain ⟨hl,rfl⟩:=aeo hc;obtain ⟨r,hr,h1⟩:=hH.root hl;cases h with
  | loc _ _ _ hx=>
   obtain ⟨g,e1,e2⟩:=hx r hr;exact one _ _ (by rw [e2];rfl) (.loc _ _ _ hx)
 | vp i a b c=>
  obtain ⟨hl,rfl⟩:=aeo hc;obtain ⟨r,hr,h1⟩:=hH.root hl;cases h with
  | vp _ _ _ _ _ hx=>
   obtain ⟨g,n,cap,e1,e2⟩:=hx r hr;exact one _ _ (by rw [e2];rfl) (.vp _ _ _ _ _ hx)
 | el l=>cases hc;cases h with|el a _ cs h1 h2=>exact one _ _ rfl (.el a l cs h1 h2)
 | fn f l=>cases hc;cases h with|fn _ arr _ h1 h2=>exact one _ _ rfl (.fn f arr l h1 h2)
theorem aad (a:Addr) (m n:Nat):(a.add m).add n=a.add (m+n):=by
 unfold Addr.add;by_cases hm:m=0<;>by_cases hn:n=0<;>simp [hm,hn,Kn]
theorem akc {H:Hp} {n:Nat} {x v:V} (h:Ky H n x=some v) {ρ:Nat->Option Value} {S:Nat->Prop} {F:Nat->List Nat} {w:World} (hH:dY ρ S F H w) {u:Value} (hu:RV ρ S w u x):
  ∃ a,u=.pointer (some a)/\RV ρ S w (.pointer<|some<|a.add n) v:=by
 cases x with
 | loc i o=>
  simp only [Ky] at h;cases hl:live H i with
  | false=>rw [hl] at h;cases h
  | true=>
   rw [hl] at h;cases h;obtain ⟨r,hr,_⟩:=hH.root hl;cases hu with
   | loc _ _ _ hx=>
    obtain ⟨g,e1,rfl⟩:=hx r hr;exact ⟨_,rfl,.loc _ i (o+n) fun r' hr'=>⟨g,by rw [hr] at hr';cases hr';exact e1,by rw [Hr]⟩⟩
 | vp i k a b=>
  simp only [Ky] at h;cases hl:live H i with
  | false=>rw [hl] at h;cases h
  | true=>
   rw [hl] at h;cases h;obtain ⟨r,hr,_⟩:=hH.root hl;cases hu with
   | vp _ _ _ _ _ hx=>
    obtain ⟨g,m,cap,e1,rfl⟩:=hx r hr;exact ⟨_,rfl,.vp _ i k a (b+n) fun r' hr'=>⟨g,m,cap,by rw [hr] at hr';cases hr';exact e1,by rw [Hr,Kn]⟩⟩
 | el cs=>
  cases h;cases hu with
  | el a _ cc h1 h2=>
   refine ⟨a,rfl,.el (a.add n) _ (fun j=>cc<|n+j) (fun j x hj=>?_) fun j x hj=>?_⟩
   .rw [Eb] at hj;obtain ⟨hs,hc⟩:=h1 _ _ hj;refine ⟨?_,by rw [aad];exact hc⟩;have:(a.add n).block=a.block:=by unfold Addr.add;split<;>rfl
    rw [this];exact hs
   .rw [Eb] at hj;exact h2 _ _ hj
 | _=>cases h
theorem run_loadCellsFrom {a:Addr} {w:World} {cs:Nat->Value}:∀ (n i:Nat) (acc:Array Value),(∀ j,i<=j->j < i+n->w.cell? (a.add j)=some (cs j))->
  (loadCellsFrom a i n acc).run P w=.ok (acc++((List.range' i n).map cs).toArray) w
 | 0,i,acc,h=>by simp [loadCellsFrom]
 | n+1,i,acc,h=>by
  have h0:=h i (cZ _) ah;simp only [loadCellsFrom,gU,run_load,h0,gN];rw [run_loadCellsFrom n (i+1) _ fun j h1 h2=>h j ah ah];simp [List.range'_succ]
theorem run_loadCells {a:Addr} {w:World} {cs:Nat->Value} {n:Nat} (h:∀ j,j < n->w.cell? (a.add j)=some (cs j)):
  (loadCells a n).run P w=.ok ((List.range n).map cs).toArray w:=by
 unfold loadCells;rw [run_loadCellsFrom n 0 #[] fun j _ hj=>h j ah];simp [List.range_eq_range']
theorem range_map_get {n:Nat} {cc:Nat->Value} {j:Nat} {c:Value} (h:(((List.range n).map cc).toArray)[j]?=some c):j < n/\c=cc j:=by
 simp only [Kk,gD,eD] at h;obtain ⟨j',hj',rfl⟩:=h;obtain ⟨h1,h2⟩:=dK.1 hj';simp at h1 h2;subst h2;exact ⟨h1,rfl⟩
theorem aep {D:Tab} (hD:dQ P D) {t:TypeId} {cs:List V} {v:V} (h:Ee D t cs=some v) {ρ:Nat->Option Value} {S:Nat->Prop} {w:World} {a:Addr} {cc:Nat->Value}
  (hc:∀ (j:Nat) (x:V),cs[j]?=some x->w.cell? (a.add j)=some (cc j)/\(cc j).oneCell'=true/\RV ρ S w (cc j) x):∃ u,(loadVar t a).run P w=.ok u w/\RV ρ S w u v:=by
 unfold Ee at h;split at h
 .rename_i i hty;have ty:=hD _ _ hty;simp only [loadVar,gU,ty.isAgg w,gN];cases ha:i.d.agg with
  | true=>
   rw [ha] at h;simp only [aH] at h;cases hle:Nat.ble i.size cs.length with
   | false=>rw [hle] at h;cases h
   | true=>
    rw [hle] at h;cases h;have hle':i.size<=cs.length:=Fy hle;have hcell:∀ j,j < i.size->w.cell? (a.add j)=some (cc j):=fun j hj=>(hc j cs[j]<|fQ ah).1;simp only [kF,gU,ty.sizeOf w,gN,run_loadCells hcell,kY];refine ⟨_,rfl,.agg _ _ (by simp [hle']) (fun j c hj=>?_) fun j x c hx hj=>?_⟩
    .obtain ⟨hlt,rfl⟩:=range_map_get hj;exact (hc j cs[j]<|fQ ah).2.1
    .obtain ⟨hlt,rfl⟩:=range_map_get hj;rw [AB,dA hlt] at hx;exact (hc j x hx).2.2
  | false=>
   rw [ha] at h;simp only [aG] at h;obtain ⟨h1,_,h3⟩:=hc 0 v h;refine ⟨cc 0,?_,h3⟩;have:a.add 0=a:=by simp [Addr.add]
   rw [this] at h1;simp [h1]
 .cases h
theorem akd {D:Tab} (hD:dQ P D) {H:Hp} {t:TypeId} {x v:V} (h:MW D H t x=some v) {ρ:Nat->Option Value} {S:Nat->Prop} {F:Nat->List Nat} {w:World} (hH:dY ρ S F H w)
  {u:Value} (hu:RV ρ S w u x):∃ r,(Instr.loadAt t u).run P w=.ok r w/\RV ρ S w r v:=by
 cases x with
 | el cs=>
  cases hu with
  | el a _ cc h1 h2=>
   obtain ⟨r,hr,hv⟩:=aep hD h (ρ:=ρ) (S:=S) (w:=w) (a:=a) (cc:=cc) fun j x hx=>⟨(h1 j x hx).2,(h2 j x hx).one,(h2 j x hx).ajI⟩
   exact ⟨r,by simp [Instr.loadAt,Instr.sureAddr,hr],hv⟩
 | loc i o=>
  simp only [MW] at h;split at h
  .rename_i ety cs hl;obtain ⟨r,hr,bY⟩:=hH.obj i _ hl;cases hu with
   | loc _ _ _ hx=>
    obtain ⟨g,e1,rfl⟩:=hx r hr;generalize F i=Fi at bY;cases bY with
    | cells g' arr _ _ hh hsz hcs=>
     cases e1;obtain ⟨r',hr',hv⟩:=aep hD h (ρ:=ρ) (S:=S) (w:=w) (a:=⟨g,o,none⟩) (cc:=fun j=>arr.getD (o+j) undef) fun j x hx=>by
      rw [Eb] at hx;obtain ⟨c,h1,h2,h3⟩:=hcs _ _ hx;have hg:arr.getD (o+j) undef=c:=by simp [nS,h1]
      rw [Hr,UR w g (o+j) arr ety (0,0) hh,hg];exact ⟨h1,h2,h3⟩
     exact ⟨r',by simp [Instr.loadAt,Instr.sureAddr,hr'],hv⟩
  .cases h
 | _=>cases h
end
end Go.Av
