/-
 Abstract values, states, walks, part 2.
-/
import Derived.Test.YtaobbpcbeopddaaGreatDoorGCore1
set_option linter.all false
namespace Go.Av
section
variable {P:Program} {G:Nat->Option (List V)}
def Cells (ρ:Nat->Option Value) (S:Nat->Prop) (w:World) (arr:Array Value) (cs:List V):Prop:=
 arr.size=cs.length/\(∀ (j:Nat) (c:Value),arr[j]?=some c->c.oneCell'=true)/\∀ (j:Nat) (x:V),cs[j]?=some x->∃ c,arr[j]?=some c/\RV ρ S w c x
theorem att (vs:List Value):∀ (off k:Nat) (arr:Array Value) (p:Nat),k+vs.length+off<=arr.size->
  ((vs.zipIdx k).foldl (fun (cs:Array Value) (p:Value×Nat)=>cs.setIfInBounds (off+p.2) p.1) arr)[p]?=if off+k<=p/\p < off+k+vs.length then vs[p - (off+k)]? else arr[p]?:=by
 induction vs with
 | nil=>intro off k arr p h;simp;omega
 | cons v vs ih=>
  intro off k arr p h;simp only [fT] at h ⊢;simp only [List.zipIdx_cons,adN];rw [ih off (k+1) _ p bT,adI];by_cases c1:off+(k+1)<=p/\p < off+(k+1)+vs.length
  .rw [dA c1,dA ah,show p - (off+k)=(p - (off+(k+1)))+1 by omega,MG]
  .rw [bI c1];by_cases c2:off+k=p
   .rw [dA c2,dA ah,dA ah,show p - (off+k)=0 by omega];rfl
   .rw [bI c2,bI ah]
theorem Vh {α:Type} (xs ys:List α) (off p:Nat) (h:off+ys.length<=xs.length):
  (xs.take off++ys++xs.drop (off+ys.length))[p]?=if off<=p/\p < off+ys.length then ys[p - off]? else xs[p]?:=by
 have lt1:(xs.take off).length=off:=by rw [FD];omega
 rw [kC];by_cases c1:p < off
 .rw [uR ah,AB,dA c1,bI ah]
 .rw [uQ ah,lt1];by_cases c2:p < off+ys.length
  .rw [uR ah,dA ah]
  .rw [uQ ah,Eb,bI ah];congr 1;omega
theorem ake {ρ:Nat->Option Value} {S:Nat->Prop} {w:World} {arr vs out:Array Value} {cs ys:List V} {off:Nat} (h:Cells ρ S w arr cs) (k:Cells ρ S w vs ys) (hf:off+ys.length<=cs.length)
  (hsz:out.size=arr.size) (hout:∀ p,out[p]?=if off<=p/\p < off+ys.length then vs[p - off]? else arr[p]?):Cells ρ S w out (cs.take off++ys++cs.drop (off+ys.length)):=by
 refine ⟨?_,fun j c hj=>?_,fun j x hj=>?_⟩
 .rw [hsz,h.1];simp only [jQ,FD,Hu];omega
 .rw [hout] at hj;split at hj
  .exact k.2.1 _ c hj
  .exact h.2.1 _ c hj
 .rw [Vh cs ys off j hf] at hj;rw [hout];split at hj
  .rw [dA ‹_›];exact k.2.2 _ x hj
  .rw [bI ‹_›];exact h.2.2 _ x hj
theorem akf {ρ:Nat->Option Value} {S:Nat->Prop} {F:Nat->List Nat} {H:Hp} {w:World} (hH:dY ρ S F H w) {place:Nat->Option (Nat×Nat)} (η:Operand->Value) (e:Operand->V):
  ∀ (parts:List (Nat×Operand)) {cells out:List V} {arr:Array Value},(∀ p,p∈parts->RV ρ S w (η p.2) (e p.2))->Cells ρ S w arr cells->
   wo H place cells (parts.map fun p=>(p.1,e p.2))=some out->∃ arr',Instr.fill place arr (parts.map fun p=>(p.1,η p.2))=some arr'/\Cells ρ S w arr' out:=by
 intro parts;induction parts with
 | nil=>intro cells out arr _ hc h;simp [wo] at h;subst h;exact ⟨arr,rfl,hc⟩
 | cons p parts ih=>
  intro cells out arr hp hc h;simp only [jV,wo] at h;split at h
  .rename_i off size cs h1 h2;split at h
   .cases h
   .rename_i hn;have hv:=(hp p aF).cells hH h2;have hsz:cs.length=size/\off+size<=cells.length:=ah;obtain ⟨rfl,hle⟩:=hsz;have hcs:Cells ρ S w (η p.2).cells cs:=hv;have hstep:Cells ρ S w ((η p.2).cells.zipIdx.foldl (fun cs (c,j)=>cs.setIfInBounds (off+j) c) arr) (cells.take off++cs++cells.drop (off+cs.length)):=by
     have h1:=hv.1;have h2:=hc.1;have hput:=fun q=>att (η p.2).cells.toList off 0 arr q bT;have heq:((η p.2).cells.zipIdx.foldl (fun cs (c,j)=>cs.setIfInBounds (off+j) c) arr)=((η p.2).cells.toList.zipIdx 0).foldl (fun (cs:Array Value) (p:Value×Nat)=>cs.setIfInBounds (off+p.2) p.1) arr:=by
      rw [<- Array.foldl_toList];simp
     rw [heq];refine ake hc hcs hle ?_ fun q=>?_
     .generalize hz:(η p.2).cells.toList.zipIdx 0=zs;clear hz hput heq hcs h1 h2 hc;induction zs generalizing arr with
      | nil=>rfl
      | cons z zs ih=>simp only [adN];rw [ih];simp
     .rw [hput];simp only [Ht,Co,h1,ZC]
    obtain ⟨arr',ha,hc'⟩:=ih (fun q hq=>hp q<|sG _ hq) hstep h;refine ⟨arr',?_,hc'⟩;simp only [jV,Instr.fill,h1];rw [bI (by have:=hv.1;have:=hc.1;simp;omega)];exact ha
  .cases h
theorem atv {D:Tab} (hD:dQ P D) {w:World}:∀ (fields:List Field) {places:List (Nat×Nat)},Ve D (fields.map fun f=>(f.offset,f.type))=some places->
  (fields.mapM fun f=>(do pure (f.offset,<- sizeOf f.type):Sem (Nat×Nat))).run P w=.ok places w:=by
 intro fields;induction fields with
 | nil=>intro places h;simp [Ve] at h;subst h;rfl
 | cons f fields ih=>
  intro places h;simp only [jV,Ve,dB,eD,QT] at h;obtain ⟨s,⟨i,hi,rfl⟩,r,hr,rfl⟩:=h;simp only [List.mapM_cons,gU,(hD _ _ hi).sizeOf w,gN,kY,ih hr]
theorem atw {D:Tab} (hD:dQ P D) {ρ:Nat->Option Value} {S:Nat->Prop} {F:Nat->List Nat} {H:Hp} {w:World} (hH:dY ρ S F H w) {t:TypeId} {parts:Array (Nat×Operand)} {η:Operand->Value} {e:Operand->V}
  (hp:∀ p,p∈parts.toList->RV ρ S w (η p.2) (e p.2)) {v:V} (h:QU D H t (parts.toList.map fun p=>(p.1,e p.2))=some v):
  ∃ x,(Instr.build t<|parts.map fun (i,x)=>(i,η x)).run P w=.ok x w/\RV ρ S w x v:=by
 unfold QU at h;split at h
 .rename_i i hty;have ty:=hD _ _ hty;obtain ⟨z,hz,hzc,hz1⟩:=ty.zeroValue w;obtain ⟨_,⟨d,u1,u2⟩,_⟩:=ty;have hz0:Cells ρ S w z.cells (i.zero.map .c):=by
   refine ⟨by simp [<- hzc],fun j c hj=>?_,fun j x hj=>?_⟩
   .refine kW.1 hz1 c ?_;rw [<- hzc];exact nT (by simpa using hj)
   .rw [<- hzc,gD,eD] at hj;obtain ⟨c,hc,rfl⟩:=hj;exact ⟨c,by simpa using hc,.c c⟩
  have hmap:(parts.map fun (i,x)=>(i,η x)).toList=parts.toList.map fun p=>(p.1,η p.2):=aF;have fin:∀ {place:Nat->Option (Nat×Nat)} {out:List V},wo H place (i.zero.map .c) (parts.toList.map fun p=>(p.1,e p.2))=some out->
    ∃ arr,Instr.fill place z.cells (parts.map fun (i,x)=>(i,η x)).toList=some arr/\RV ρ S w (.agg arr) (.agg out):=by
   intro place out ho;obtain ⟨arr,ha,hc⟩:=akf hH η e parts.toList hp hz0 ho;refine ⟨arr,by rw [hmap];exact ha,.agg arr out hc.1 hc.2.1 fun j x c hx hj=>?_⟩;obtain ⟨c',h1,h2⟩:=hc.2.2 j x hx;rw [hj] at h1;cases h1;exact h2
  split at h
  .rename_i fs hd;rw [hd] at u2;obtain ⟨fields,rfl⟩:∃ fields,d=.struct fields:=by cases d<;>simp_all [TD.is]
   simp only [TD.is] at u2;simp only [dB,eD] at h;obtain ⟨places,hpl,out,ho,rfl⟩:=h;rw [<- u2] at hpl;obtain ⟨arr,ha,hr⟩:=fin ho;refine ⟨.agg arr,?_,hr⟩;have hm:(fields.mapM fun f=>(do pure (f.offset,<- sizeOf f.type):Sem (Nat×Nat))).run P w=.ok places.toArray w:=by
    have:=atv hD (w:=w) fields.toList hpl;rw [Array.mapM_eq_mapM_toList];simp only [Sem.run_map,this,gN]
   simp only [Instr.build,gU,hz,gN,nV u1,hm];have hpe:(fun j:Nat=>places.toArray[j]?)=fun j:Nat=>places[j]?:=by funext j;simp
   rw [hpe,ha];rfl
  .rename_i n el hd;rw [hd] at u2;obtain ⟨n',FI,rfl⟩:∃ n' FI,d=.array n' FI:=by cases d<;>simp_all [TD.is]
   simp only [TD.is] at u2;obtain ⟨rfl,rfl⟩:=u2;split at h
   .rename_i s hs;rw [eD] at h;obtain ⟨out,ho,rfl⟩:=h;simp only [QT,eD] at hs;obtain ⟨ie,hie,rfl⟩:=hs;obtain ⟨arr,ha,hr⟩:=fin ho;refine ⟨.agg arr,?_,hr⟩;simp only [Instr.build,gU,hz,gN,nV u1,(hD _ _ hie).sizeOf w];rw [ha];rfl
   .cases h
  .cases h
 .cases h
theorem aae {D:Tab} (hD:dQ P D) {o:Oper} {e:Operand->V} {H:Hp} {v:V} (h:iy D H e o.op=some v):gH P G o e H v H []:=by
  refine Ed fun ρ S F η w bQ hH=>?_;unfold execOp;generalize o.op=op at*;cases op with
  | move x=>simp only [iy,iG] at h;subst h;exact ⟨_,rfl,bQ x gy⟩
  | assign x=>simp only [iy,iG] at h;subst h;exact ⟨_,rfl,bQ x gy⟩
  | pick c a b=>
    dsimp only;have h1:=bQ c gy;have h2:=bQ a gy;have h3:=bQ b gy;simp only [iy] at h;split at h
    · rename_i t ht
      rw [ht] at h1;have hc:=h1.iX;refine ⟨if t then η a else η b,by simp [hc,asBool],?_⟩;split at h
      · rename_i x y ha hb
        rw [ha] at h2;rw [hb] at h3;rw [h2.iX,h3.iX];cases h;cases t<;>exact .c _
      · cases h
        cases t
        · simpa using h3
        · simpa using h2
    · cases h
  | nilCheck x=>
    dsimp only;have h1:=bQ x gy;simp only [iy] at h;split at h
    · rename_i i o hx
      rw [hx] at h1;cases hl:live H i with
      | false=>rw [hl] at h;cases h
      | true=>
        rw [hl] at h;cases h;obtain ⟨r,hr,_⟩:=hH.root hl;obtain ⟨g,_,e2⟩:=h1.aem r hr;rw [e2] at h1 ⊢;exact ⟨_,rfl,h1⟩
    · rename_i i k a b hx
      rw [hx] at h1;cases hl:live H i with
      | false=>rw [hl] at h;cases h
      | true=>
        rw [hl] at h;cases h;obtain ⟨r,hr,_⟩:=hH.root hl;obtain ⟨g,n,cap,_,e2⟩:=h1.aen r hr;rw [e2] at h1 ⊢;exact ⟨_,rfl,h1⟩
    · rename_i cs hx
      cases h;rw [hx] at h1;generalize η x=u at*;cases h1 with
      | el a _ cc h1 h2=>exact ⟨_,rfl,.el a cs cc h1 h2⟩
    · rename_i f cs hx
      cases h;rw [hx] at h1;generalize η x=u at*;cases h1 with
      | fn _ arr _ h1 h2=>exact ⟨_,rfl,.fn f arr cs h1 h2⟩
    · cases h
  | binOp op t x y t'=>
    dsimp only;simp only [iy] at h;obtain ⟨r,hr,rfl⟩:=atr hD h (x:=x) (y:=y) (bQ x gy) (bQ y gy);refine ⟨r,?_,.c r⟩;simp only [gU] at hr ⊢;rw [hr];rfl
  | unOp op t x=>
    dsimp only;have h1:=bQ x gy;cases op<;>first
      | (simp only [iy,reduceCtorEq] at h;done)
      | (simp only [iy] at h
         split at h
         · rename_i hx
           cases h;rw [hx] at h1;rw [h1.iX];exact ⟨_,rfl,.c _⟩
         · cases h)
  | convert s d x=>
    dsimp only;have h1:=bQ x gy;simp only [iy] at h;split at h
    · rename_i i j k n hs hd hx
      rw [hx] at h1;split at h
      · rename_i k' hk
        cases h;obtain ⟨_,⟨ds,s1,_⟩,_⟩:=hD _ _ hs;obtain ⟨_,⟨dd,d1,d2⟩,_⟩:=hD _ _ hd;rw [hk] at d2;have:dd=.int k':=by cases dd<;>simp_all [TD.is]
        subst this;rw [h1.iX];refine ⟨_,?_,.c _⟩;simp [convert,nV s1,nV d1,Conv.intToInt]
      · cases h
    · cases h
  | fieldAddr s x f=>
    dsimp only;have h1:=bQ x gy;simp only [iy] at h;split at h
    · rename_i i hty
      split at h
      · rename_i fs hd
        split at h
        · rename_i o ft hf
          split at h
          · rename_i m hs
            obtain ⟨_,⟨d,u1,u2⟩,_⟩:=hD _ _ hty;rw [hd] at u2;obtain ⟨fields,rfl⟩:∃ fields,d=.struct fields:=by cases d<;>simp_all [TD.is]
            simp only [TD.is] at u2;rw [<- u2,gD,eD] at hf;obtain ⟨fl,hfl,he⟩:=hf;cases he;simp only [QT,eD] at hs;obtain ⟨ie,hie,hsz⟩:=hs;obtain ⟨a,ha,hv⟩:=akc h hH h1;refine ⟨_,?_,hv⟩;have aer:fields[f]?=some fl:=by simpa using hfl
            simp [Instr.fieldAt,nV u1,aer,ha,Instr.sureAddr,fieldPlace,(hD _ _ hie).sizeOf w,hsz]
          · cases h
        · cases h
      · cases h
    · cases h
  | field s x f=>
    dsimp only;have h1:=bQ x gy;simp only [iy] at h;split at h
    · rename_i i cs hty hx
      split at h
      · rename_i fs hd
        split at h
        · rename_i o ft hf
          obtain ⟨_,⟨d,u1,u2⟩,_⟩:=hD _ _ hty;rw [hd] at u2;obtain ⟨fields,rfl⟩:∃ fields,d=.struct fields:=by cases d<;>simp_all [TD.is]
          simp only [TD.is] at u2;rw [<- u2,gD,eD] at hf;obtain ⟨fl,hfl,he⟩:=hf;cases he;have aer:fields[f]?=some fl:=by simpa using hfl
          rw [hx] at h1;obtain ⟨arr,ha,hsz,h1c,hr⟩:=h1.Kw;rw [ha];unfold Ee at h;split at h
          · rename_i ie hie
            have tye:=hD _ _ hie;simp only [gU,Instr.field,nV u1,gN,aer,asAgg,kY,part,tye.isAgg w];cases hag:ie.d.agg with
            | true=>
              rw [hag] at h;simp only [aH] at h;cases hle:Nat.ble ie.size (cs.drop fl.offset).length with
              | false=>rw [hle] at h;cases h
              | true=>
                rw [hle] at h;cases h;have hle':=Fy hle;simp only [Hu] at hle';simp only [kF,gU,tye.sizeOf w,gN,kY];refine ⟨_,rfl,.agg _ _ bT (fun j c hj=>?_) fun j x c hj hc=>?_⟩
                · rw [ajD] at hj
                  split at hj
                  · exact h1c _ c hj
                  · cases hj
                · rw [AB] at hj
                  split at hj
                  · rw [Eb] at hj
                    rw [ajD] at hc;split at hc
                    · obtain ⟨c',e1,e2⟩:=hr _ x hj
                      rw [e1] at hc;cases hc;exact e2
                    · cases hc
                  · cases hj
            | false=>
              rw [hag] at h;simp only [aG,Eb,Ht] at h;obtain ⟨c,e1,e2⟩:=hr _ v h;exact ⟨c,by simp [e1],e2⟩
          · cases h
        · cases h
      · cases h
    · cases h
  | load t a=>
    dsimp only;simp only [iy] at h;obtain ⟨r,hr,hv⟩:=akd hD h hH (bQ a gy);exact ⟨r,by simp [hr],hv⟩
  | extract x i=>
    dsimp only;have h1:=bQ x gy;simp only [iy] at h;split at h
    · rename_i vs hx
      rw [hx] at h1;generalize η x=u at*;cases h1 with
      | jX arr _ hsz hr=>
        have hlt:i < arr.size:=by rw [hsz];exact (dK.1 h).1
        refine ⟨arr[i],?_,hr i v _ h<|mP hlt⟩;simp [Instr.extract,mP hlt]
    · cases h
  | makeFunc fn first caps=>
    dsimp only;cases fn<;>try (simp only [iy,reduceCtorEq] at h;done)
    rename_i f;simp only [iy] at h;split at h
    · rename_i h0
      cases h;have hf:first=#[]:=by simpa using h0
      subst hf;refine ⟨.func (.func f) #[] (caps.map η),by simp [Instr.makeFunc],.fn f (caps.map η) _ aF fun j x c hx hc=>?_⟩;rw [gD,eD] at hx;rw [QF,eD] at hc;obtain ⟨y,hy,rfl⟩:=hx;obtain ⟨y',hy',rfl⟩:=hc;have:y=y':=by simpa [hy'] using hy.symm
      subst this;exact bQ y (by simp [Op.operands];exact ajH hy')
    · cases h
  | build t parts=>
    dsimp only;simp only [iy] at h;obtain ⟨x,hx,hv⟩:=atw hD hH (η:=η) (fun p hp=>bQ p.2<|by simp [Op.operands];exact ⟨p.1,by simpa using hp⟩) h;exact ⟨x,by simp only [gU,hx,gN,kY],hv⟩
  | call c=>
    dsimp only;obtain ⟨cal,args,ats⟩:=c;simp only [iy] at h;split at h
    · rename_i x t hargs atx
      have ha:args=#[x]:=ZK.1 hargs;have hb:ats=#[t]:=ZK.1 atx;subst ha hb;have h1:=bQ x (by simp [Op.operands,Call.operands]);split at h
      · rename_i i hty
        obtain ⟨_,⟨d,u1,u2⟩,_⟩:=hD _ _ hty;split at h
        · rename_i el hd
          rw [hd] at u2;have hdd:d=.slice el:=by cases d<;>simp_all [TD.is]
          subst hdd;rw [eD] at h;obtain ⟨n,hn,rfl⟩:=h;obtain ⟨a,cap,hs⟩:∃ a cap,η x=.slice a n cap:=by
            generalize η x=u at*;unfold Kz at hn;split at hn
            · rename_i hx
              cases hn;rw [hx] at h1;cases h1.Vf with
              | mF=>exact ⟨_,_,rfl⟩
              | shr a cap=>exact ⟨_,_,rfl⟩
            · rename_i hx
              cases hn;rw [hx] at h1;exact ⟨_,_,h1.iX⟩
            · rename_i j hx
              split at hn
              · rename_i hl
                cases hn;rw [hx] at h1;obtain ⟨r,hr,bY⟩:=hH.obj j _ hl;rw [h1.Cv r hr];generalize F j=Fj at bY;cases bY with
                | kZ=>exact ⟨_,_,rfl⟩
                | vec g cap=>exact ⟨_,_,rfl⟩
              · cases hn
            · cases hn
          refine ⟨_,?_,.c _⟩;simp [resolve,invoke,builtin,Builtin.len_,nV u1,hs,goInt]
        · rename_i hd
          rw [hd] at u2;have hdd:d=.string:=by cases d<;>simp_all [TD.is]
          subst hdd;split at h
          · rename_i s hx
            cases h;rw [hx] at h1;refine ⟨_,?_,.c _⟩;simp [resolve,invoke,builtin,Builtin.len_,nV u1,h1.iX,goInt]
          · cases h
        · cases h
      · cases h
    · rename_i x y hargs
      have ha:args=#[x,y]:=ZK.1 hargs;subst ha;have h1:=bQ x (by simp [Op.operands,Call.operands]);have h2:=bQ y (by simp [Op.operands,Call.operands]);split at h
      · rename_i k a k' b hx hy
        cases h;rw [hx] at h1;rw [hy] at h2;refine ⟨_,?_,.c _⟩;simp [resolve,invoke,builtin,Builtin.max_,Builtin.max2,h1.iX,h2.iX]
      · cases h
    · rename_i x y hargs
      have ha:args=#[x,y]:=ZK.1 hargs;subst ha;have h1:=bQ x (by simp [Op.operands,Call.operands]);have h2:=bQ y (by simp [Op.operands,Call.operands]);split at h
      · rename_i k a k' b hx hy
        cases h;rw [hx] at h1;rw [hy] at h2;refine ⟨_,?_,.c _⟩;simp [resolve,invoke,builtin,Builtin.min_,Builtin.min2,h1.iX,h2.iX]
      · cases h
    · cases h
  | _=>simp only [iy,reduceCtorEq] at h
end
end Go.Av
namespace Go.Av
section
variable {P:Program} {G:Nat->Option (List V)}
def yE (P:Program) (f:FuncId):Prop:=∀ args w,(callFunc f args).run P w=.ok (.enter f args) w
theorem aB {P:Program} {f:FuncId} (h:∀ a w,(callFunc f a).run P w=.ok (.enter f a) w:=by intro _ _;rfl):yE P f:=h
theorem gH.call {o:Oper} {e:Operand->V} {H H':Hp} {v:V} {N:List Nat} {f:Operand} {as:Array Operand} {ats:Array TypeId} {fid:FuncId} {caps:List V}
  (ho:o.op=.call {callee:=.value f,args:=as,argTypes:=ats}) (hf:e f=.fn fid caps) (hcf:yE P fid)
  {vs:List V} {Hc dU:Hp} {rc:V} (h:AC P G fid vs Hc rc dU) {q m:Ren} (c:Vd q m (as.toList.map e++caps) H vs Hc rc dU v H' N)
  (hN:(N.all fun i=>!gG i H)=true):gH P G o e H v H' N:=by
 intro ρ S F η w bQ hH hG;have zF:=bQ f (by simp [ho,Op.operands,Call.operands]);rw [hf] at zF;obtain ⟨arr,ha,hsz,hr⟩:=zF.Vg;unfold oC execOp;simp only [ho,resolve,ha,Deferred.ofValue,gU,kY,gN,invoke,UO];have Vi:=hcf (as.map η++arr) w;simp only [Vi];refine aef h c (by simp [hsz]) (fun i x hx=>?_) hH hG (fun j o hj i hi=>?_)
 .by_cases hi:i < as.size
  .rw [uR (by simpa using hi),gD,eD] at hx;obtain ⟨y,hy,rfl⟩:=hx;have hy':as[i]?=some y:=by simpa using hy
   have:(as.map η++arr).getD i undef=η y:=by
    rw [nS,QE (by simpa using hi),QF,hy'];rfl
   rw [this];refine bQ y ?_;simp only [ho,Op.operands,Call.operands];exact Ko.2 (.inr<|ajH hy')
  .rw [uQ<|by simpa using hi] at hx;simp only [mE,Co] at hx;have hlt:i - as.size < arr.size:=by rw [hsz];exact (dK.1 hx).1
   have:(as.map η++arr).getD i undef=arr[i - as.size]:=by
    rw [nS,adJ<|by simpa using hi];simp [mP hlt]
   rw [this];exact hr _ x _ hx (mP hlt)
 .have:=kW.1 hN i hi;simp only [kX] at this;exact (yB this).2 j o hj
theorem aJD {args vs:List V} {H:Hp} {r:V} (hr:r.rn []=r) (ha:AP [] args vs):Vd [] [] args H vs [] r [] r H []:=
 ⟨rfl,rfl,ha,trivial,hr,fun j o' ho=>.inl ⟨rfl,ho,fun i=>by simp [dZ]⟩,fun i j h=>by simp [dZ] at h,fun i j h=>by simp [dZ] at h,fun j h=>by cases h⟩
theorem aty {i:Nat} {o:Ob} {H:Hp} {F:Nat->List Nat} {Fi:List Nat} {b:Nat} (h:Ub ((i,o)::H) (fun j=>if j=i then Fi else F j) b):b∈Fi\/Ub H F b:=by
 obtain ⟨j,p,hj,hb⟩:=h;simp only [look] at hj
 replace hb:b∈(if j=i then Fi else F j):=hb
 split at hj
 .rw [dA ‹_›] at hb;exact .inl hb
 .rw [bI ‹_›] at hb;exact .inr ⟨j,p,hj,hb⟩
theorem Post.new {ρ:Nat->Option Value} {S:Nat->Prop} {F:Nat->List Nat} {H:Hp} {w w':World} (hH:dY ρ S F H w) {i:Nat} (hi:gG i H=false) {o:Ob} {root:Value} {Fi:List Nat}
  (hos:w'.os=w.os) (Vj:w'.tape=w.tape) (hout:w'.output=w.output) (hsize:w.heap.size<=w'.heap.size) (hkeep:∀ b,b < w.heap.size->w'.heap[b]?=w.heap[b]?)
  (AQ:jd ρ S w' root o Fi) (hnd:Fi.Nodup) (iH:∀ b,b∈Fi->w.heap.size<=b/\b < w'.heap.size)
  (hoi:o.has i=false) {x:Value} {v:V} (hv:RV (fun j=>if j=i then some root else ρ j) S w' x v):Post ρ S F H w v ((i,o)::H) [i] x w':=by
 obtain ⟨hl,hO⟩:=yB hi;let ρ':Nat->Option Value:=fun j=>if j=i then some root else ρ j
 have hρ:∀ (y:Nat->Bool),y i=false->∀ j r,ρ' j=some r->y j=true->ρ j=some r:=fun y hy j r hj hh=>by
  simp only [ρ'] at hj;split at hj
  .subst_vars;rw [hy] at hh;cases hh
  .exact hj
 have hk:Keeps S w S w':=fun b hb=>⟨hb,hkeep b<|hH.slt b hb⟩
 refine ⟨ρ',S,fun j=>if j=i then Fi else F j,hv,⟨fun j hj=>?_,fun j p hp=>?_,fun j p hp=>?_,fun j j' p p' b hj hj' hne hb hb'=>?_,fun j p b hp hb=>?_,fun j p b hp hb=>?_,fun b hb=>Az (hH.slt b hb) hsize⟩,
  ⟨hos,Vj,hout,hsize,fun b hb _=>hkeep b hb,fun _ h=>h,fun _ h=>.inl h,fun b hb=>?_⟩,fun j r hj hN=>?_⟩
 .simp only [look] at hj;split at hj
  .cases hj
  .rename_i hne;simp only [ρ',bI hne];exact hH.dom j hj
 .simp only [look] at hp;split at hp
  .cases hp;subst_vars;refine ⟨root,by simp [ρ'],?_⟩;rw [dA rfl];exact AQ.mono (hρ (fun j=>o.has j) hoi) (fun b hb=>⟨hb,rfl⟩) (fun _ _=>rfl)
  .rename_i hne;obtain ⟨r,hr,Cw⟩:=hH.obj j p hp;refine ⟨r,by simp only [ρ',bI hne];exact hr,?_⟩;rw [bI hne];exact Cw.mono (hρ (fun j=>p.has j)<|hO j p hp) hk (fun b hb=>hkeep b<|hH.lt j p b hp hb)
 .simp only [look] at hp;split at hp
  .rename_i e;rw [dA e];exact hnd
  .rename_i e;rw [bI e];exact hH.nodup j p hp
 .simp only [look] at hj hj';by_cases e1:j=i
  .by_cases e2:j'=i
   .exact hne (e1.trans e2.symm)
   .rw [dA e1] at hb;rw [bI e2] at hb' hj';have:=iH b hb;have:=hH.lt j' p' b hj' hb';omega
  .by_cases e2:j'=i
   .rw [bI e1] at hb hj;rw [dA e2] at hb';have:=iH b hb';have:=hH.lt j p b hj hb;omega
   .rw [bI e1] at hb hj;rw [bI e2] at hb' hj';exact hH.gW j j' p p' b hj hj' hne hb hb'
 .simp only [look] at hp;by_cases e1:j=i
  .rw [dA e1] at hb;intro hs;have:=iH b hb;have:=hH.slt b hs;omega
  .rw [bI e1] at hb hp;exact hH.sep j p b hp hb
 .simp only [look] at hp;by_cases e1:j=i
  .rw [dA e1] at hb;exact (iH b hb).2
  .rw [bI e1] at hb hp;exact Az (hH.lt j p b hp hb) hsize
 .rcases aty hb with h|h
  .exact .inr (iH b h).1
  .exact .inl h
 .simp only [nG] at hN;simp only [ρ',bI hN] at hj;exact hj
theorem aes (w:World) (o:Obj) (b:Nat) (h:b < w.heap.size):(w.alloc o).heap[b]?=w.heap[b]?:=heap_alloc_old w o b h
theorem akh {ρ:Nat->Option Value} {S:Nat->Prop} {F:Nat->List Nat} {H:Hp} {w:World} (hH:dY ρ S F H w) {i:Nat} (hi:gG i H=false) {ety:TypeId} {cs:List V} {arr:Array Value}
  (hc:Cells ρ S w arr cs) (hci:V.nX i cs=false):Post ρ S F H w (.loc i 0) ((i,.cells ety cs)::H) [i] (.pointer<|some ⟨w.heap.size,0,none⟩) (w.alloc<|.cells arr ety):=by
 have hk:Keeps S w S (w.alloc<|.cells arr ety):=fun b hb=>⟨hb,aes w _ b<|hH.slt b hb⟩
 refine Post.new hH hi (w':=w.alloc (.cells arr ety)) (o:=.cells ety cs) (root:=.pointer (some ⟨w.heap.size,0,none⟩)) (Fi:=[w.heap.size]) rfl rfl rfl aF (fun b hb=>aes w _ b hb) ?_ aF (fun b hb=>by simp at hb;subst hb;simp) (by simpa [Ob.has] using hci) ?_
 .exact .cells w.heap.size arr ety cs (adR w _) hc.1 fun j x hx=>by
   obtain ⟨c,h1,h2⟩:=hc.2.2 j x hx;exact ⟨c,h1,hc.2.1 j c h1,h2.mono (fun _ _ h _=>h) hk⟩
 .exact .loc _ i 0 fun r hr=>by simp at hr;subst hr;exact ⟨_,rfl,rfl⟩
theorem gH.box {o:Oper} {e:Operand->V} {H:Hp} {t:TypeId} {x:Operand} {cs:List V} (i:Nat) (ho:o.op=.box t x) (hc:uU H (e x)=some cs) (hi:gG i H=false) (hci:V.nX i cs=false):
  gH P G o e H (.loc i 0) ((i,.cells t cs)::H) [i]:=by
 intro ρ S F η w bQ hH hG;have h1:=(bQ x<|by simp [ho,Op.operands]).cells hH hc;unfold oC execOp;simp only [ho,Instr.box,newVar,newRow,gU,run_newObj,gN,kY];exact akh hH hi h1 hci
theorem gH.alloc {D:Tab} (hD:dQ P D) {o:Oper} {e:Operand->V} {H:Hp} {t:TypeId} {ty:Ty} (i:Nat) (ho:o.op=.alloc t) (ht:D.at t=some ty) (hi:gG i H=false):
  gH P G o e H (.loc i 0) ((i,.cells t<|ty.zero.map .c)::H) [i]:=by
 intro ρ S F η w bQ hH hG;obtain ⟨z,hz,hzc,hz1⟩:=(hD _ _ ht).zeroValue w;unfold oC execOp;simp only [ho,Instr.alloc,hz,newVar,newRow,gU,run_newObj,gN,kY];refine akh hH hi (arr:=z.cells) ⟨by simp [<- hzc],fun j c hj=>?_,fun j x hj=>?_⟩ ?_
 .refine kW.1 hz1 c ?_;rw [<- hzc];exact nT (by simpa using hj)
 .rw [<- hzc,gD,eD] at hj;obtain ⟨c,hc,rfl⟩:=hj;exact ⟨c,by simpa using hc,.c c⟩
 .generalize ty.zero=l;induction l with
  | nil=>rfl
  | cons y l ih=>simp [V.nX,V.has,ih]
end
end Go.Av
namespace Go.Av
section
variable {P:Program} {G:Nat->Option (List V)} {L:Option Nat} {B:Nat}
def wu (ops:Array Oper) (T:List V):Option (Nat×Bool)->Option Bool
 | none=>some true
 | some (j,b)=>(MS ops T j).map fun b'=>b'==some b
def fB (T:List V) (d:Option Tmp) (v:V):List V:=match d with|some t=>T.set t v|none=>T
def At (P:Program) (G:Nat->Option (List V)) (ops:Array Oper) (i:Nat) (T:List V) (H:Hp) (Q:St->Prop):Prop:=pU P G ops (ops.toList.drop i) ⟨T,H⟩ Q
theorem atz {ops:Array Oper} {o:Oper} {l:List Oper} {st:St} {Q:St->Prop} {v:V} {H':Hp} {N:List Nat} (hw:wu ops st.T o.guard=some true) (hop:gH P G o (ev G st.T) st.H v H' N) (hN:fresh N st=true)
  (h:pU P G ops l (st.put o.dst v H') Q):pU P G ops (o::l) st Q:=by
 unfold pU;unfold wu at hw;cases hg:o.guard with
 | none=>exact ⟨v,H',N,hN,hop,h⟩
 | some jb=>
  obtain ⟨j,b⟩:=jb;rw [hg] at hw;simp only [eD] at hw;obtain ⟨b',h1,h2⟩:=hw;exact ⟨b',h1,.inl ⟨by simpa using h2,v,H',N,hN,hop,h⟩⟩
theorem atA {ops:Array Oper} {o:Oper} {l:List Oper} {st:St} {Q:St->Prop} (hw:wu ops st.T o.guard=some false) (h:pU P G ops l (st.put o.dst V.und st.H) Q):pU P G ops (o::l) st Q:=by
 unfold pU;unfold wu at hw;cases hg:o.guard with
 | none=>rw [hg] at hw;cases hw
 | some jb=>
  obtain ⟨j,b⟩:=jb;rw [hg] at hw;simp only [eD] at hw;obtain ⟨b',h1,h2⟩:=hw;exact ⟨b',h1,.inr ⟨by simpa using h2,h⟩⟩
theorem drop_at {ops:Array Oper} {i:Nat} {o:Oper} (h:ops[i]?=some o):ops.toList.drop i=o::ops.toList.drop (i+1):=by
 have h':ops.toList[i]?=some o:=by simpa using h
 obtain ⟨h1,h2⟩:=dK.1 h';rw [zB h1,h2]
theorem set_self {α:Type}:∀ {l:List α} {i:Nat} {a:α},l[i]?=some a->l.set i a=l
 | [],_,_,_=>rfl
 | x::l,0,a,h=>by simp at h;subst h;rfl
 | x::l,i+1,a,h=>by simp at h;simp [set_self h]
theorem CO.val {c:Code} {T:List V} {H:Hp} {Q:Exit->St->Prop} (d:Nat) (v v':V) (hd:T[d]?=some v) (hv:v=v') (k:CO L P G c ⟨T.set d v',H⟩ Q):CO L P G c ⟨T,H⟩ Q:=by
 subst hv;rwa [set_self hd] at k
theorem Ends.tmp {fn:Func} {t:Tmp} {r:V} {T:List V} {H:Hp} {e:Exit} (he:e=.normal\/e=.ret) (h:fn.results=#[.tmp t]) (ht:T[t]?=some r) (hr:r.rn []=r):Ends P fn r [] e ⟨T,H⟩:=
 ⟨he,r,aO.tmp h ht,Weak.rn [] rfl rfl ⟨.inr hr,trivial⟩ trivial⟩
end
end Go.Av
namespace Go.Av
section
variable {P:Program} {G:Nat->Option (List V)}
theorem atC (w:World) (t tx ty e:TypeId) (i:TypeInfo) (z:Value) (ht:P.underlying t=some (.slice e)) (hi:P.info? e=some i) (hz:i.zero=some z) (hzs:z.cells.size=i.size)
    (v:Value) (n:Nat) (x:Value) (m:Nat) (news:List Value) (hs:Src P i.size tx x m news w) (old:Nat->Option Value) (e0:TypeId)
    (hv:(v=.slice none 0 0/\n=0)\/∃ g cap arr,v=.slice (some ⟨g,0,none⟩) n cap/\w.heap[g]?=some (.cells arr e0 (0,0))/\n<=cap/\cap<=maxLen/\arr.size=cap*i.size/\∀ p,p < n*i.size->arr[p]?=old p)
    (h63:n+m<=maxLen) (hb:(n+m)*i.bytes<=140737488355328):
    ∃ v' w',(Builtin.append_ #[t,tx] ty #[v,x]).run P w=.ok v' w'/\w.grownBy w' v.ownBlock/\
      ((v'=.slice none 0 0/\v=.slice none 0 0/\n=0/\m=0)\/
       ∃ g' cap' arr' e1,(e0=e->e1=e)/\(n+m=0->v=.slice (some ⟨g',0,none⟩) 0 cap')/\v'=.slice (some ⟨g',0,none⟩) (n+m) cap'/\w'.heap[g']?=some (.cells arr' e1 (0,0))/\n+m<=cap'/\cap'<=maxLen/\arr'.size=cap'*i.size/\
         (∀ p,p < n*i.size->arr'[p]?=old p)/\(∀ p,p < m*i.size->arr'[n*i.size+p]?=news[p]?)/\(v.ownBlock=some g'\/w.heap.size<=g')/\g' < w'.heap.size):=by
  have hsmall:n+m<=9223372036854775807:=by simp only [maxLen] at h63;omega
  have grown:∀ (oc:Nat) (olds:List Value),olds.length=n*i.size->(∀ p,p < n*i.size->olds[p]?=old p)->oc < n+m->∀ row,
      w.grownBy (w.drew.alloc<|.cells ((olds++news).toArray++Builtin.zeroCells z.cells (grownCap w (n+m) oc e - (n+m))) e) row/\
      ∃ g' cap' arr',Value.slice (some ⟨w.heap.size,0,none⟩) (n+m) (grownCap w (n+m) oc e)=.slice (some ⟨g',0,none⟩) (n+m) cap'/\
         (w.drew.alloc<|.cells ((olds++news).toArray++Builtin.zeroCells z.cells (grownCap w (n+m) oc e - (n+m))) e).heap[g']?=some (.cells arr' e (0,0))/\n+m<=cap'/\cap'<=maxLen/\arr'.size=cap'*i.size/\
         (∀ p,p < n*i.size->arr'[p]?=old p)/\(∀ p,p < m*i.size->arr'[n*i.size+p]?=news[p]?)/\(v.ownBlock=some g'\/w.heap.size<=g')/\
         g' < (w.drew.alloc<|.cells ((olds++news).toArray++Builtin.zeroCells z.cells (grownCap w (n+m) oc e - (n+m))) e).heap.size:=by
    intro oc olds hlen hold ho row;have hge:=grownCap_ge w (n+m) oc e;have hcm:grownCap w (n+m) oc e<=maxLen:=grownCap_le_maxLen w (n+m) oc e h63;refine ⟨⟨rfl,rfl,rfl,aF,fun k hk _=>heap_alloc_old w.drew _ k hk⟩,w.heap.size,_,_,rfl,adR w.drew _,hge,hcm,?_,fun p hp=>?_,fun p hp=>?_,.inr<|cZ _,aF⟩
    · simp only [Array.size_append,ZB,jQ,size_zeroCells,hzs,hlen,hs.newsLen,<- wh]
      congr 1;omega
    · rw [QE<|by simp [hlen,hs.newsLen];omega]
      simp only [Kk];rw [uR ah];exact hold p hp
    · rw [QE<|by simp [hlen,hs.newsLen];omega]
      simp only [Kk];rw [uQ ah,hlen];congr 1;omega
  rcases hv with ⟨rfl,rfl⟩|⟨g,cap,arr,rfl,hg,hnc,hcm,hsz,harr⟩
  · by_cases hm:m=0
    · subst hm
      refine ⟨.slice none 0 0,w,?_,⟨rfl,rfl,rfl,cZ _,fun _ _ _=>rfl⟩,.inl ⟨rfl,rfl,rfl,rfl⟩⟩;have hnews:news=[]:=adH (by rw [hs.newsLen];simp);rcases hs.kind with ⟨e',hk⟩|hk<;>simp [Builtin.append_,nV ht,nV hk,sizeOf,typeInfo,hi,hs.len,hs.cells]
    · have hr:=run_append_grow_src w t tx ty e i z ht hi hz none 0 0 [] (by simp [Builtin.firstCells]) x m news hs ah ah (growslice_fits ah hb)
      obtain ⟨h1,h2⟩:=grown 0 [] aF (fun p hp=>by simp at hp) ah (Value.slice none 0 0).ownBlock;obtain ⟨g',c',a',hx⟩:=h2;exact ⟨_,_,hr,h1,.inr ⟨g',c',a',e,fun _=>rfl,fun h=>ah,hx⟩⟩
  · by_cases hroom:n+m<=cap
    · have hfit:0+n*i.size+news.length<=arr.size:=by rw [hs.newsLen,hsz];have:=vW i.size hroom;rw [wh] at this;omega
      have hst:=adU P g (n*i.size) e0 news 0 arr w hg (by simpa using hfit) hs.one;simp only [Ht] at hst;have hr:(Builtin.append_ #[t,tx] ty #[.slice (some ⟨g,0,none⟩) n cap,x]).run P w=.ok (.slice (some ⟨g,0,none⟩) (n+m) cap) (w.setRow g (arr.toList.take (n*i.size)++news++arr.toList.drop (n*i.size+news.length)).toArray):=by
        rcases hs.kind with ⟨e',hk⟩|hk<;>simp [Builtin.append_,nV ht,nV hk,sizeOf,typeInfo,hi,hs.len,hroom,hs.cells,Hr,hst]
      have hf':n*i.size+news.length<=arr.toList.length:=by simpa using hfit
      refine ⟨_,_,hr,⟨rfl,rfl,rfl,aF,fun k _ hk=>aec w g k _ fun e=>hk<|by simp [Value.ownBlock,e]⟩,.inr ⟨g,cap,_,e0,fun h=>h,fun h=>by rw [show n=0 by omega],rfl,setRow_heap w g arr _ e0 _ hg,hroom,hcm,?_,fun p hp=>?_,fun p hp=>?_,.inl rfl,?_⟩⟩
      · simp only [ZB,jQ,FD,Hu,Co]
        simp only [Co] at hf';omega
      · simp only [Kk]
        rw [Vh _ _ _ _ hf',bI ah];simpa using harr p hp
      · simp only [Kk]
        rw [Vh _ _ _ _ hf',dA<|by rw [hs.newsLen];omega];congr 1;omega
      · simp only [setRow_size];exact (tN.1 hg).1
    · have hold:(Builtin.firstCells i.size n<|.slice (some ⟨g,0,none⟩) n cap).run P w.drew=.ok (arr.toList.take<|n*i.size).toArray w.drew:=by
        have hn:n*i.size<=arr.size:=by rw [hsz];exact vW _ hnc
        refine run_firstCells_some w.drew i.size n ⟨g,0,none⟩ n cap _ bT fun j u hj=>?_;rw [Hr,qM,UR w.drew g j arr e0 (0,0) hg];rw [AB] at hj;split at hj
        · simpa using hj
        · cases hj
      have hr:=run_append_grow_src w t tx ty e i z ht hi hz (some ⟨g,0,none⟩) n cap _ hold x m news hs ah ah (growslice_fits ah hb);have hn:n*i.size<=arr.size:=by rw [hsz];exact vW _ hnc
      obtain ⟨h1,h2⟩:=grown cap (arr.toList.take<|n*i.size) bT (fun p hp=>by rw [AB,dA hp];simpa using harr p hp) ah (Value.slice (some ⟨g,0,none⟩) n cap).ownBlock;obtain ⟨g',c',a',hx⟩:=h2;exact ⟨_,_,hr,h1,.inr ⟨g',c',a',e,fun _=>rfl,fun h=>ah,hx⟩⟩
def bU (C:List Nat) (H:Hp):Hp:=H.filter fun p=>!C.contains p.1
theorem lI (C:List Nat) (H:Hp) (j:Nat):look (bU C H) j=if j∈C then none else look H j:=by
 induction H with
 | nil=>simp [bU,look]
 | cons x H ih=>
  obtain ⟨k,p⟩:=x;unfold bU at ih ⊢;simp only [List.filter_cons];by_cases hk:k∈C
  .simp only [ZE,hk,ajx,kE,Bool.false_eq_true,if_false,look];simp only [ZE] at ih;rw [ih];by_cases hj:j=k
   .subst hj;simp [hk]
   .simp [hj]
  .simp only [ZE,hk,Ku,dN,kF,look];simp only [ZE] at ih;rw [ih];by_cases hj:j=k
   .subst hj;simp [hk]
   .simp [hj]
theorem Vk {ρ:Nat->Option Value} {S:Nat->Prop} {F:Nat->List Nat} {H:Hp} {w w':World} (hH:dY ρ S F H w) (C:List Nat) {i:Nat} (hi:gG i H=false) {o:Ob} {root:Value} {Fi:List Nat}
  (hos:w'.os=w.os) (Vj:w'.tape=w.tape) (hout:w'.output=w.output) (hsize:w.heap.size<=w'.heap.size) (hkeep:∀ b,b < w.heap.size->(∀ c o,c∈C->look H c=some o->b∈F c->False)->w'.heap[b]?=w.heap[b]?)
  (AQ:∀ ρ',jd ρ' S w' root o Fi) (hnd:Fi.Nodup) (iH:∀ b,b∈Fi->(∃ c o,c∈C/\look H c=some o/\b∈F c)\/(w.heap.size<=b/\b < w'.heap.size))
  {x:Value} {v:V} (hv:RV (fun j=>if j=i then some root else if j∈C then none else ρ j) S w' x v):Post ρ S F H w v ((i,o)::bU C H) [i] x w':=by
 obtain ⟨hl,hO⟩:=yB hi;let ρ':Nat->Option Value:=fun j=>if j=i then some root else if j∈C then none else ρ j
 have hρ:∀ (p:Ob),p.has i=false->∀ j r,ρ' j=some r->p.has j=true->ρ j=some r:=fun p hy j r hj hh=>by
  simp only [ρ'] at hj;split at hj
  .subst_vars;rw [hy] at hh;cases hh
  .split at hj
   .cases hj
   .exact hj
 have kS:∀ b,S b->w'.heap[b]?=w.heap[b]?:=fun b hb=>hkeep b (hH.slt b hb) fun c o _ ho hc=>hH.sep c o b ho hc hb;have hk:Keeps S w S w':=fun b hb=>⟨hb,kS b hb⟩
 have kO:∀ j p b,j∉C->look H j=some p->b∈F j->w'.heap[b]?=w.heap[b]?:=fun j p b hj hp hb=>hkeep b (hH.lt j p b hp hb) fun c o hc ho hbc=>hH.gW j c p o b hp ho (fun e=>hj<|e ▸ hc) hb hbc;have wz:∀ j p,look ((i,o)::bU C H) j=some p->(j=i/\p=o)\/(j≠i/\j∉C/\look H j=some p):=fun j p hp=>by
  simp only [look,lI] at hp;split at hp
  .cases hp;exact .inl ⟨‹_›,rfl⟩
  .split at hp
   .cases hp
   .exact .inr ⟨‹_›,‹_›,hp⟩
 have far:∀ j p b,j∉C->look H j=some p->b∈F j->b∈Fi->False:=fun j p b hj hp hb hbi=>by
  rcases iH b hbi with ⟨c,q,hc,hq,hbc⟩|⟨h1,_⟩
  .exact hH.gW j c p q b hp hq (fun e=>hj<|e ▸ hc) hb hbc
  .have:=hH.lt j p b hp hb;omega
 refine ⟨ρ',S,fun j=>if j=i then Fi else F j,hv,⟨fun j hj=>?_,fun j p hp=>?_,fun j p hp=>?_,fun j j' p p' b hj hj' hne hb hb'=>?_,fun j p b hp hb=>?_,fun j p b hp hb=>?_,fun b hb=>Az (hH.slt b hb) hsize⟩,
  ⟨hos,Vj,hout,hsize,fun b hb hu=>hkeep b hb fun c o _ ho hbc=>hu ⟨c,o,ho,hbc⟩,fun _ h=>h,fun _ h=>.inl h,fun b hb=>?_⟩,fun j r hj hN=>?_⟩
 .simp only [look,lI] at hj;simp only [ρ'];split at hj
  .cases hj
  .rename_i hne;rw [bI hne];split at hj
   .rw [dA ‹_›]
   .rw [bI ‹_›];exact hH.dom j hj
 .rcases wz j p hp with ⟨rfl,rfl⟩|⟨hne,hC,hp⟩
  .exact ⟨root,by simp [ρ'],by rw [dA rfl];exact AQ ρ'⟩
  .obtain ⟨r,hr,Cw⟩:=hH.obj j p hp;refine ⟨r,by simp only [ρ',bI hne,bI hC];exact hr,?_⟩;rw [bI hne];exact Cw.mono (hρ p<|hO j p hp) hk (fun b hb=>kO j p b hC hp hb)
 .rcases wz j p hp with ⟨rfl,rfl⟩|⟨hne,hC,hp⟩
  .rw [dA rfl];exact hnd
  .rw [bI hne];exact hH.nodup j p hp
 .rcases wz j p hj with ⟨rfl,rfl⟩|⟨hne1,hC1,hp1⟩
  .rcases wz j' p' hj' with ⟨rfl,rfl⟩|⟨hne2,hC2,hp2⟩
   .exact hne rfl
   .rw [dA rfl] at hb;rw [bI hne2] at hb';exact far j' p' b hC2 hp2 hb' hb
  .rcases wz j' p' hj' with ⟨rfl,rfl⟩|⟨hne2,hC2,hp2⟩
   .rw [bI hne1] at hb;rw [dA rfl] at hb';exact far j p b hC1 hp1 hb hb'
   .rw [bI hne1] at hb;rw [bI hne2] at hb';exact hH.gW j j' p p' b hp1 hp2 hne hb hb'
 .rcases wz j p hp with ⟨rfl,rfl⟩|⟨hne,hC,hp⟩
  .rw [dA rfl] at hb;intro hs;rcases iH b hb with ⟨c,q,hc,hq,hbc⟩|⟨h1,_⟩
   .exact hH.sep c q b hq hbc hs
   .have:=hH.slt b hs;omega
  .rw [bI hne] at hb;exact hH.sep j p b hp hb
 .rcases wz j p hp with ⟨rfl,rfl⟩|⟨hne,hC,hp⟩
  .rw [dA rfl] at hb;rcases iH b hb with ⟨c,q,hc,hq,hbc⟩|⟨_,h2⟩
   .exact Az (hH.lt c q b hq hbc) hsize
   .exact h2
  .rw [bI hne] at hb;exact Az (hH.lt j p b hp hb) hsize
 .obtain ⟨j,p,hp,hb⟩:=hb;rcases wz j p hp with ⟨rfl,rfl⟩|⟨hne,hC,hp⟩
  .replace hb:b∈(if j=j then Fi else F j):=hb
   rw [dA rfl] at hb;rcases iH b hb with ⟨c,q,hc,hq,hbc⟩|⟨h1,_⟩
   .exact .inl ⟨c,q,hq,hbc⟩
   .exact .inr h1
  .replace hb:b∈(if j=i then Fi else F j):=hb
   rw [bI hne] at hb;exact .inl ⟨j,p,hp,hb⟩
 .simp only [nG] at hN;simp only [ρ',bI hN] at hj;split at hj
  .cases hj
  .exact hj
theorem atD (n m k:Nat) (Fs Gs:Nat->Nat->List Nat):flat (n+m) k (fun i j=>if i < n then Fs i j else Gs (i - n) j)=flat n k Fs++flat m k Gs:=by
 unfold flat
 rw [List.range_add,MH];congr 1
 .simp only [List.flatMap_def];congr 1;refine qx fun i hi=>?_;have:i < n:=by simpa using hi
  simp [this]
 .simp only [List.flatMap_def,nW];congr 1;refine qx fun i hi=>?_;have: ¬(n+i < n):=ah;simp [this]
structure aev (P:Program) (S:Nat->Prop) (w:World) (k:Nat) (tx:TypeId) (x:Value) (rows:List (List V)) (F:List Nat):Prop where
 ex:∃ (news:List Value) (cs:Nat->Nat->Value) (Fs:Nat->Nat->List Nat),Src P k tx x rows.length news w/\F=flat rows.length k Fs/\(∀ (i:Nat) (r:List V),rows[i]?=some r->r.length=k)/\
  ∀ (i j:Nat) (r:List V) (y:V),rows[i]?=some r->r[j]?=some y->news[i*k+j]?=some (cs i j)/\RD S w (cs i j) y (Fs i j)
theorem Vl {n k i j:Nat} (hi:i < n) (hj:j < k):i*k+j < n*k:=by
 have:(i+1)*k<=n*k:=vW k hi;rw [wh] at this;omega
theorem atE {S:Nat->Prop} {w:World} {tx:TypeId} {e':TypeId} (hk:P.underlying tx=some (.slice e')) {k:Nat} {x:Value} {nn b:Bool} {rows:List (List V)} (h:RD S w x (.sl nn b rows) [])
  (Vm:∀ r,r∈rows->r.length=k):aev P S w k tx x rows []:=by
 have hr:∀ (i:Nat) (r:List V),rows[i]?=some r->r.length=k:=fun i r hi=>Vm r (nT hi);cases h with
 | mF=>exact ⟨[],fun _ _=>undef,fun _ _=>[],Src.ofNil w hk 0,rfl,fun i r h=>by simp at h,fun i j r y h=>by simp at h⟩
 | shr a cap _ _ k' cs hlen hcap hk' hc hd=>
  have hkk:∀ (i:Nat) (r:List V),rows[i]?=some r->k'=k:=fun i r hi=>(hk' i r hi).symm.trans (hr i r hi);let news:List Value:=(List.range rows.length).flatMap fun i=>(List.range k).map fun j=>cs i j
  have hget:∀ (n:Nat) (i j:Nat),i < n->j < k->((List.range n).flatMap fun i=>(List.range k).map fun j=>cs i j)[i*k+j]?=some (cs i j):=by
   intro n;induction n with
   | zero=>intro i j hi;omega
   | succ n ih=>
    intro i j hi hj;rw [ZF,MH];have hl:((List.range n).flatMap fun i=>(List.range k).map fun j=>cs i j).length=n*k:=by
     clear ih hi;induction n with
     | zero=>simp
     | succ n ih=>rw [ZF,MH,jQ,ih];simp [wh]
    by_cases hin:i < n
    .rw [uR<|by rw [hl];exact Vl hin hj];exact ih i j hin hj
    .obtain rfl:i=n:=ah;rw [uQ ah,hl];simp [hj]
  have hlen':news.length=rows.length*k:=by
   show ((List.range rows.length).flatMap _).length=_;generalize rows.length=n;induction n with
   | zero=>simp
   | succ n ih=>rw [ZF,MH,jQ,ih];simp [wh]
  have hcell:∀ (i j:Nat),i < rows.length->j < k->w.cell? (a.add<|i*k+j)=some (cs i j)/\(cs i j).oneCell'=true:=fun i j hi hj=>by
   have h1:rows[i]?=some rows[i]:=fQ hi;have hj':j < rows[i].length:=by rw [hr i _ h1];exact hj
   have h2:rows[i][j]?=some rows[i][j]:=fQ hj';obtain ⟨_,h3⟩:=hc i j _ _ h1 h2;rw [hkk i _ h1] at h3;exact ⟨h3,(hd i j _ _ h1 h2).one⟩
  have hsplit:∀ p,p < rows.length*k->∃ i j,i < rows.length/\j < k/\p=i*k+j:=fun p hp=>by
   have hk0:0 < k:=by
    rcases UN k with h0|h0
    .rw [h0,ZO] at hp;omega
    .exact h0
   refine ⟨p / k,p % k,adP (by rwa [QI]),QK _ hk0,?_⟩;rw [QI];exact (ZL p k).symm
  refine ⟨news,cs,fun _ _=>[],Src.ofSlice w hk a rows.length cap news hlen' (fun p u hu=>?_) fun u hu=>?_,?_,hr,fun i j r y h1 h2=>⟨?_,hd i j r y h1 h2⟩⟩
  .have hp:p < rows.length*k:=by rw [<- hlen'];exact (dK.1 hu).1
   obtain ⟨i,j,hi,hj,rfl⟩:=hsplit p hp;have:=hget rows.length i j hi hj;rw [show news[i*k+j]?=some (cs i j) from this] at hu;cases hu;exact (hcell i j hi hj).1
  .obtain ⟨p,hp⟩:=Hg hu;have hlt:p < rows.length*k:=by rw [<- hlen'];exact (dK.1 hp).1
   obtain ⟨i,j,hi,hj,rfl⟩:=hsplit p hlt;have:=hget rows.length i j hi hj;rw [show news[i*k+j]?=some (cs i j) from this] at hp;cases hp;exact (hcell i j hi hj).2
  .have:∀ n k:Nat,flat n k (fun _ _=>[])=[]:=fun n k=>by
    apply ajB.2;intro b hb;obtain ⟨_,_,_,_,h⟩:=qy.1 hb;cases h
   exact (this _ _).symm
  .exact hget rows.length i j (dK.1 h1).1 (by have:=(dK.1 h2).1;rw [hr i r h1] at this;exact this)
def bK (b:UInt8):List V:=[.c<|.int .u8 b.toNat]
end
end Go.Av
namespace Go.Av
section
variable {P:Program} {G:Nat->Option (List V)}
theorem aki {ρ:Nat->Option Value} {S:Nat->Prop} {w:World} {tx e':TypeId} (ht:P.underlying tx=some (.slice e')) {r:Value} {nn:Bool} {e:Tg} {k:Nat} {rows:List (List V)} {F:List Nat} (h:jd ρ S w r (.vec nn e k rows) F) (hF:F.Nodup):
  ∃ F',aev P S w k tx r rows F'/\(∀ b,b∈F'->b∈F)/\F'.Nodup:=by
 cases h with
 | kZ=>exact ⟨[],⟨[],fun _ _=>undef,fun _ _=>[],Src.ofNil w ht 0,rfl,fun i r h=>by simp at h,fun i j r y h=>by simp at h⟩,fun _ h=>(by cases h),FB⟩
 | vec g cap arr _ _ _ _ cs Fs hh hcap hmax hsz hk hc hr=>
  refine ⟨flat rows.length k Fs,⟨arr.toList.take<|rows.length*k,cs,Fs,?_,rfl,hk,fun i j r y h1 h2=>⟨?_,hr i j r y h1 h2⟩⟩,fun b hb=>sG _ hb,(qw.1 hF).2⟩
  .have hn:rows.length*k<=arr.size:=by rw [hsz];exact vW _ hcap
   refine Src.ofSlice w ht ⟨g,0,none⟩ rows.length cap _ bT (fun p u hu=>?_) (fun u hu=>?_)
   .rw [Hr,qM,UR w g p arr _ (0,0) hh];rw [AB] at hu;split at hu
    .simpa using hu
    .cases hu
   .obtain ⟨p,hp⟩:=Hg hu;have hlt:p < rows.length*k:=by have:=(dK.1 hp).1;simp at this;omega
    rw [AB,dA hlt] at hp;have hk0:0 < k:=by
     rcases UN k with h0|h0
     .rw [h0,ZO] at hlt;omega
     .exact h0
    have hi:p / k < rows.length:=adP (by rwa [QI]);have hj:p % k < k:=QK _ hk0;have h1:rows[p / k]?=some rows[p / k]:=fQ hi;have hj':p % k < rows[p / k].length:=by rw [hk _ _ h1];exact hj
    have h2:rows[p / k][p % k]?=some rows[p / k][p % k]:=fQ hj';have h3:=hc _ _ _ _ h1 h2;rw [show p / k*k+p % k=p by rw [QI];exact ZL p k] at h3;have hp':arr[p]?=some u:=by simpa using hp
    rw [h3] at hp';cases hp';exact (hr _ _ _ _ h1 h2).one
  .have hi:i < rows.length:=(dK.1 h1).1;have hj:j < k:=by have:=(dK.1 h2).1;rw [hk i r h1] at this;exact this
   rw [AB,dA<|Vl hi hj];simpa using hc i j r y h1 h2
theorem Post.append {D:Tab} (hD:dQ P D) {ρ:Nat->Option Value} {S:Nat->Prop} {F:Nat->List Nat} {H:Hp} {w:World} (hH:dY ρ S F H w) {t tx ty el:TypeId} {it ie:Ty} (ht:D.at t=some it) (hit:it.d=.slice el) (hel:D.at el=some ie)
  {i:Nat} {nn:Bool} {tag:Tg} (tag':Tg) (uV:∀ e1 v',((∀ e0 v,tag.ok ie.size e0 v->e0=el)->e1=el)->((∀ e0 v,tag.ok ie.size e0 v->tight ie.size v)->tight ie.size v')->tag'.ok ie.size e1 v') (htn:tag'.ZT) {rows fC:List (List V)} (hi:look H i=some (.vec nn tag ie.size rows)) {x:Value} {F2:List Nat} (hx:aev P S w ie.size tx x fC F2) (hF2:F2.Nodup) (C:List Nat) (hC2:∀ b,b∈F2->∃ c o,c∈C/\c≠i/\look H c=some o/\b∈F c)
  (hlen:rows.length+fC.length<=maxLen) (hb:(rows.length+fC.length)*ie.bytes<=140737488355328) {q:Nat} (hq:gG q H=false) {mG:Bool} (hnn:mG=true->nn=true\/fC≠[]) {s:Value} (hs:RV ρ S w s (.own i)):
  ∃ r w',(Builtin.append_ #[t,tx] ty #[s,x]).run P w=.ok r w'/\Post ρ S F H w (.own q) ((q,.vec mG tag' ie.size<|rows++fC)::bU (i::C) H) [q] r w':=by
 obtain ⟨root,hroot,bY⟩:=hH.obj i _ hi;have hsr:=hs.Cv root hroot;subst hsr;obtain ⟨news,cs2,Ef,hsrc,rfl,hk2,hc2⟩:=hx.ex;obtain ⟨_,⟨d,u1,u2⟩,_⟩:=hD _ _ ht;rw [hit] at u2;have hd:d=.slice el:=by cases d<;>simp_all [TD.is]
 subst hd;obtain ⟨⟨inf,z,e1,e2,e3,e4,e5,_,e7⟩,_,_⟩:=hD _ _ hel;have iH:=hH.nodup i _ hi;have hlt:=fun b hb=>hH.lt i _ b hi hb;have akj:∀ b,b∈flat fC.length ie.size Ef->b < w.heap.size:=fun b hb=>by
  obtain ⟨c,o,_,_,ho,hbc⟩:=hC2 b hb;exact hH.lt c o b ho hbc
 have aew:∀ b,b∈flat fC.length ie.size Ef->b∉F i:=fun b hb hbi=>by
  obtain ⟨c,o,_,hne,ho,hbc⟩:=hC2 b hb;exact hH.gW c i o _ b ho hi hne hbc hbi
 have hzs:z.cells.size=inf.size:=by rw [<- Co,e5,e7,e2]
 have hold:∃ (old:Nat->Option Value) (e0:TypeId),((∀ e0 v,tag.ok ie.size e0 v->e0=el)->e0=el)/\((∀ e0 v,tag.ok ie.size e0 v->tight ie.size v)->tight ie.size s)/\((s=.slice none 0 0/\rows.length=0)\/∃ g cap arr,s=.slice (some ⟨g,0,none⟩) rows.length cap/\w.heap[g]?=some (.cells arr e0 (0,0))/\rows.length<=cap/\cap<=maxLen/\arr.size=cap*inf.size/\∀ p,p < rows.length*inf.size->arr[p]?=old p)/\
   ∃ (cs1:Nat->Nat->Value) (KC:Nat->Nat->List Nat),(∀ (i:Nat) (r:List V),rows[i]?=some r->r.length=ie.size)/\(∀ (i j:Nat) (r:List V) (x:V),rows[i]?=some r->r[j]?=some x->old (i*ie.size+j)=some (cs1 i j)/\RD S w (cs1 i j) x (KC i j))/\
    (∀ b,b∈flat rows.length ie.size KC->b∈F i/\s.ownBlock≠some b)/\(flat rows.length ie.size KC).Nodup/\(∀ g,s.ownBlock=some g->g∈F i):=by
  generalize F i=Fi at bY iH;rw [e2];cases bY with
  | kZ=>exact ⟨fun _=>none,el,fun _=>rfl,fun _ _=>.inr rfl,.inl ⟨rfl,rfl⟩,fun _ _=>undef,fun _ _=>[],fun i r h=>(by simp at h),fun i j r x h=>(by simp at h),fun b hb=>(by simp [flat] at hb),(by simp [flat]),fun g hg=>(by simp [Value.ownBlock] at hg)⟩
  | vec g cap arr _ _ _ _ cs Fs hh hcap hmax hsz hk hc hr ht=>
   refine ⟨fun p=>arr[p]?,_,fun h=>h _ _ ht,fun h=>h _ _ ht,.inr ⟨g,cap,arr,rfl,hh,hcap,hmax,hsz,fun _ _=>rfl⟩,cs,Fs,hk,fun i j r x h1 h2=>⟨hc i j r x h1 h2,hr i j r x h1 h2⟩,fun b hb=>⟨sG _ hb,fun h=>?_⟩,(qw.1 iH).2,fun g' hg'=>?_⟩
   .simp only [Value.ownBlock,iG] at h;subst h;exact (qw.1 iH).1 hb
   .simp only [Value.ownBlock,iG] at hg';subst hg';simp
 obtain ⟨old,e0,he0,hti,hv,cs1,KC,hk1,hc1,QV,atF,hown⟩:=hold;rw [<- e2] at hsrc;obtain ⟨v',w',hrun,hg,hres⟩:=atC w t tx ty el inf z u1 e1 e4 hzs s rows.length x fC.length news hsrc old e0 hv hlen (by rw [e3];exact hb);refine ⟨v',w',hrun,?_⟩;have hkeep:∀ b,b < w.heap.size->(∀ c o,c∈i::C->look H c=some o->b∈F c->False)->w'.heap[b]?=w.heap[b]?:=fun b hb hn=>
  hg.block b hb fun he=>hn i _ aF hi (hown b he.symm)
 rcases hres with ⟨rfl,rfl,h0,h1⟩|⟨g',cap',arr',e1,he1,hz0,rfl,hh',atG,atH,hsz',hold',akk,hblk,hlt'⟩
 .have hr1:rows=[]:=adH h0;have hr2:fC=[]:=adH h1;subst hr1 hr2;have atI:mG=false:=by
   cases mG with
   | false=>rfl
   | true=>
    rcases hnn rfl with h|h
    .subst h;generalize F i=Fi at bY;cases bY
    .exact absurd rfl h
  subst atI;refine Vk hH (i::C) hq (root:=.slice none 0 0) (Fi:=[]) hg.os hg.tape hg.output hg.size hkeep (fun ρ'=>.kZ tag' ie.size htn) FB (fun b hb=>by cases hb) (.own _ q fun r hr=>?_);simp at hr;exact hr
 .rw [e2] at hsz' hold' akk;let cs:Nat->Nat->Value:=fun a b=>if a < rows.length then cs1 a b else cs2 (a - rows.length) b
  let Fs:Nat->Nat->List Nat:=fun a b=>if a < rows.length then KC a b else Ef (a - rows.length) b
  have Vn:flat (rows.length+fC.length) ie.size Fs=flat rows.length ie.size KC++flat fC.length ie.size Ef:=atD _ _ _ _ _;have hks:Keeps S w S w':=fun b hb=>⟨hb,hkeep b (hH.slt b hb) fun c o hc ho hbc=>hH.sep c o b ho hbc hb⟩
  have hn1:∀ b,b∈flat rows.length ie.size KC->w'.heap[b]?=w.heap[b]?:=fun b hb=>hg.block b (hlt b (QV b hb).1) fun he=>(QV b hb).2 he.symm;have hn2:∀ b,b∈flat fC.length ie.size Ef->w'.heap[b]?=w.heap[b]?:=fun b hb=>hg.block b (akj b hb) fun he=>aew b hb (hown b he.symm);have hg1:g'∉flat rows.length ie.size KC:=fun h=>by
   rcases hblk with e|e
   .exact (QV g' h).2 e
   .have:=hlt g' (QV g' h).1;omega
  have hg2:g'∉flat fC.length ie.size Ef:=fun h=>by
   rcases hblk with e|e
   .exact aew g' h (hown g' e)
   .have:=akj g' h;omega
  have hlr:(rows++fC).length=rows.length+fC.length:=aF;refine Vk hH (i::C) hq (root:=.slice (some ⟨g',0,none⟩) (rows.length+fC.length) cap') (Fi:=g'::flat (rows.length+fC.length) ie.size Fs) hg.os hg.tape hg.output hg.size hkeep (fun ρ'=>?_) ?_ (fun b hb=>?_) (.own _ q fun r hr=>?_)
  .have aex:∀ (a:Nat) (r:List V),(rows++fC)[a]?=some r->(a < rows.length/\rows[a]?=some r)\/(rows.length<=a/\fC[a - rows.length]?=some r):=fun a r ha=>by
    by_cases hlt:a < rows.length
    .rw [uR hlt] at ha;exact .inl ⟨hlt,ha⟩
    .rw [uQ ah] at ha;exact .inr ⟨ah,ha⟩
   rw [<- hlr];refine .vec g' cap' arr' mG tag' ie.size (rows++fC) cs Fs hh' (by rw [hlr];exact atG) atH hsz' (fun a r ha=>?_) (fun a b r y ha hb'=>?_) (fun a b r y ha hb'=>?_) (uV _ _ (fun h=>he1<|he0 h) fun h h0=>by
    have h1:=hti h;rw [hz0<|by rw [hlr] at h0;exact h0] at h1;exact h1 rfl)
   .rcases aex a r ha with ⟨_,h⟩|⟨_,h⟩
    .exact hk1 a r h
    .exact hk2 _ r h
   .rcases aex a r ha with ⟨hlt,h⟩|⟨hge,h⟩
    .have hb2:b < ie.size:=by have:=(dK.1 hb').1;rw [hk1 a r h] at this;exact this
     rw [hold' _<|Vl hlt hb2,(hc1 a b r y h hb').1];simp only [cs,dA hlt]
    .have hb2:b < ie.size:=by have:=(dK.1 hb').1;rw [hk2 _ r h] at this;exact this
     have ha2:a - rows.length < fC.length:=(dK.1 h).1;have:=akk ((a - rows.length)*ie.size+b) (Vl ha2 hb2);rw [show rows.length*ie.size+((a - rows.length)*ie.size+b)=a*ie.size+b by rw [<- Kn,<- wh];congr 2;omega] at this;rw [this,(hc2 _ b r y h hb').1];simp only [cs,bI (by omega: ¬a < rows.length)]
   .rcases aex a r ha with ⟨hlt,h⟩|⟨hge,h⟩
    .have hb2:b < ie.size:=by have:=(dK.1 hb').1;rw [hk1 a r h] at this;exact this
     have:=(hc1 a b r y h hb').2;simp only [cs,Fs,dA hlt];exact this.mono hks fun b' aey=>hn1 b' (qy.2 ⟨a,b,hlt,hb2,aey⟩)
    .have hb2:b < ie.size:=by have:=(dK.1 hb').1;rw [hk2 _ r h] at this;exact this
     have ha2:a - rows.length < fC.length:=(dK.1 h).1;have:=(hc2 _ b r y h hb').2;simp only [cs,Fs,bI (by omega: ¬a < rows.length)];exact this.mono hks fun b' aey=>hn2 b' (qy.2 ⟨a - rows.length,b,ha2,hb2,aey⟩)
  .rw [Vn,qw];refine ⟨fun h=>?_,List.nodup_append.2 ⟨atF,hF2,fun a ha b hb e=>?_⟩⟩
   .rcases jo.1 h with h|h
    .exact hg1 h
    .exact hg2 h
   .subst e;exact aew a hb (QV a ha).1
  .rw [Vn] at hb;rcases fF.1 hb with rfl|hb
   .rcases hblk with e|e
    .exact .inl ⟨i,_,aF,hi,hown _ e⟩
    .exact .inr ⟨e,hlt'⟩
   .rcases jo.1 hb with hb|hb
    .exact .inl ⟨i,_,aF,hi,(QV b hb).1⟩
    .obtain ⟨c,o,hc,_,ho,hbc⟩:=hC2 b hb;exact .inl ⟨c,o,by simp [hc],ho,hbc⟩
  .simp at hr;exact hr
end
end Go.Av
namespace Go.Av
section
variable {P:Program} {G:Nat->Option (List V)}
theorem aez {o:Oper} {η:Operand->Value} {s x:Operand} {t tx:TypeId} (ho:o.op=.call {callee:=.builtin .append,args:=#[s,x],argTypes:=#[t,tx]}) {w w':World} {v:Value}
  (h:(Builtin.append_ #[t,tx] o.type #[η s,η x]).run P w=.ok v w'):(execOp η o).run P w=.ok (.value v) w':=by
 unfold execOp;simp only [ho,resolve,invoke,builtin,gU,kY,gN,List.map_toArray,jV,zD,h]
theorem akl {D:Tab} (hD:dQ P D) {o:Oper} {e:Operand->V} {H:Hp} {s x:Operand} {t el:TypeId} {it ie:Ty} (q:Nat) {i j:Nat} {nn kH:Bool} {rows fC:List (List V)} (mG:Bool) {tag akm:Tg} (tag':Tg) (uV:∀ e1 v',((∀ e0 v,tag.ok ie.size e0 v->e0=el)->e1=el)->((∀ e0 v,tag.ok ie.size e0 v->tight ie.size v)->tight ie.size v')->tag'.ok ie.size e1 v') (htn:tag'.ZT)
  (ho:o.op=.call {callee:=.builtin .append,args:=#[s,x],argTypes:=#[t,t]}) (ht:D.at t=some it) (hit:it.d=.slice el) (hel:D.at el=some ie)
  (hs:e s=.own i) (hx:e x=.own j) (hij:i≠j) (hi:look H i=some (.vec nn tag ie.size rows)) (hj:look H j=some (.vec kH akm ie.size fC))
  (hlen:rows.length+fC.length<=maxLen) (hb:(rows.length+fC.length)*ie.bytes<=140737488355328) (hq:gG q H=false) (hnn:mG=true->nn=true\/fC≠[]):
  gH P G o e H (.own q) ((q,.vec mG tag' ie.size<|rows++fC)::bU [i,j] H) [q]:=by
 intro ρ S F η w bQ hH hG;have h1:=bQ s (by simp [ho,Op.operands,Call.operands]);have h2:=bQ x (by simp [ho,Op.operands,Call.operands]);rw [hs] at h1;rw [hx] at h2;obtain ⟨r,hr,bY⟩:=hH.obj j _ hj;have:=h2.Cv r hr;obtain ⟨_,⟨d,u1,u2⟩,_⟩:=hD _ _ ht;rw [hit] at u2;have hd:d=.slice el:=by cases d<;>simp_all [TD.is]
 subst hd;obtain ⟨F',hsrc,hsub,hnd⟩:=aki (P:=P) u1 bY (hH.nodup j _ hj);rw [<- this] at hsrc;obtain ⟨v,w',hrun,hp⟩:=Post.append hD hH ht hit hel tag' uV htn hi hsrc hnd [j] (fun b hb'=>⟨j,_,aF,tO hij,hj,hsub b hb'⟩) hlen hb hq hnn h1 (tx:=t) (ty:=o.type);unfold oC;rw [aez ho hrun];exact hp
theorem atJ {D:Tab} (hD:dQ P D) {o:Oper} {e:Operand->V} {H:Hp} {s x:Operand} {t el:TypeId} {it ie:Ty} (q:Nat) {i j:Nat} {nn kH:Bool} {rows fC:List (List V)} (mG:Bool)
  (ho:o.op=.call {callee:=.builtin .append,args:=#[s,x],argTypes:=#[t,t]}) (ht:D.at t=some it) (hit:it.d=.slice el) (hel:D.at el=some ie)
  (hs:e s=.own i) (hx:e x=.own j) (hij:i≠j) (hi:look H i=some (.vec nn el ie.size rows)) (hj:look H j=some (.vec kH el ie.size fC))
  (hlen:rows.length+fC.length<=maxLen) (hb:(rows.length+fC.length)*ie.bytes<=140737488355328) (hq:gG q H=false) (hnn:mG=true->nn=true\/fC≠[]):
  gH P G o e H (.own q) ((q,.vec mG el ie.size<|rows++fC)::bU [i,j] H) [q]:=
 akl hD q mG (tag:=.ty el) (akm:=.ty el) (.ty el) (fun _ _ h h2=>⟨h fun _ _ h=>h.1,h2 fun _ _ h=>h.2⟩) trivial ho ht hit hel hs hx hij hi hj hlen hb hq hnn
theorem atK {D:Tab} (hD:dQ P D) {o:Oper} {e:Operand->V} {H:Hp} {s x:Operand} {t tx el FI:TypeId} {it itx ie:Ty} (q:Nat) {i:Nat} {nn kH b2:Bool} {rows fC:List (List V)} (mG:Bool)
  (ho:o.op=.call {callee:=.builtin .append,args:=#[s,x],argTypes:=#[t,tx]}) (ht:D.at t=some it) (hit:it.d=.slice el) (htx:D.at tx=some itx) (atL:itx.d=.slice FI) (hel:D.at el=some ie)
  (hs:e s=.own i) (hx:e x=.sl kH b2 fC) (hi:look H i=some (.vec nn el ie.size rows)) (Vm:∀ r,r∈fC->r.length=ie.size)
  (hlen:rows.length+fC.length<=maxLen) (hb:(rows.length+fC.length)*ie.bytes<=140737488355328) (hq:gG q H=false) (hnn:mG=true->nn=true\/fC≠[]):
  gH P G o e H (.own q) ((q,.vec mG el ie.size<|rows++fC)::bU [i] H) [q]:=by
 intro ρ S F η w bQ hH hG;have h1:=bQ s (by simp [ho,Op.operands,Call.operands]);have h2:=bQ x (by simp [ho,Op.operands,Call.operands]);rw [hs] at h1;rw [hx] at h2;obtain ⟨_,⟨d,u1,u2⟩,_⟩:=hD _ _ htx;rw [atL] at u2;have hd:d=.slice FI:=by cases d<;>simp_all [TD.is]
 subst hd;obtain ⟨v,w',hrun,hp⟩:=Post.append hD hH ht hit hel (tag:=.ty el) (.ty el) (fun e1 v h h2=>⟨h fun _ _ h=>h.1,h2 fun _ _ h=>h.2⟩) trivial hi (atE u1 h2.Vf Vm) FB [] (fun b hb'=>by cases hb') hlen hb hq hnn h1 (tx:=tx) (ty:=o.type);unfold oC;rw [aez ho hrun];exact hp
def putAt (cs ys:List V) (o:Nat):List V:=cs.take o++ys++cs.drop (o+ys.length)
theorem gH.store {D:Tab} (hD:dQ P D) {o:Oper} {e:Operand->V} {H:Hp} {t:TypeId} {a x:Operand} {it:Ty} {i off:Nat} {ety:TypeId} {cs ys:List V}
  (ho:o.op=.store t a x) (ht:D.at t=some it) (ha:e a=.loc i off) (hi:look H i=some (.cells ety cs)) (hx:uU H (e x)=some ys) (hsz:ys.length=it.size) (hfit:off+ys.length<=cs.length):
  gH P G o e H .junk (hput H i<|.cells ety<|putAt cs ys off) []:=by
 intro ρ S F η w bQ hH hG;have h1:=bQ a (by simp [ho,Op.operands]);have h2:=(bQ x<|by simp [ho,Op.operands]).cells hH hx;rw [ha] at h1;obtain ⟨r,hr,bY⟩:=hH.obj i _ hi;obtain ⟨g,e1,e2⟩:=h1.aem r hr;have iH:F i=[g]/\∃ arr:Array Value,w.heap[g]?=some (.cells arr ety (0,0))/\Cells ρ S w arr cs:=by
  generalize F i=Fi at bY;cases bY with
  | cells g' arr _ _ hh hsz hcs=>
   cases e1;refine ⟨rfl,arr,hh,hsz,fun j c hj=>?_,fun j y hy=>?_⟩
   .have hlt:j < cs.length:=by rw [<- hsz];exact (tN.1 hj).1
    obtain ⟨c',h1,h2,_⟩:=hcs j cs[j] (fQ hlt);rw [hj] at h1;cases h1;exact h2
   .obtain ⟨c,h1,_,h3⟩:=hcs j y hy;exact ⟨c,h1,h3⟩
 obtain ⟨iH,arr,hh,hcells⟩:=iH;have hlen:(η x).cells.toList.length=ys.length:=by simpa using h2.1
 have hst:=adU P g off ety (η x).cells.toList 0 arr w hh (by rw [hlen,hcells.1];omega) (fun v hv=>by
  obtain ⟨p,hp⟩:=Hg hv;exact h2.2.1 p v<|by simpa using hp)
 simp only [Ht] at hst;let out:Array Value:=(arr.toList.take off++(η x).cells.toList++arr.toList.drop (off+(η x).cells.toList.length)).toArray
 have hrun:(execOp η o).run P w=.ok .skip (w.setRow g out):=by
  unfold execOp;simp only [ho,Instr.storeAt,Instr.sureAddr,e2,storeVar,gU,kY,gN,(hD _ _ ht).sizeOf w];rw [bI (by have:=h2.1;omega)];simp only [hst,gN];rfl
 unfold oC;rw [hrun];have hkeep:∀ b,b≠g->(w.setRow g out).heap[b]?=w.heap[b]?:=fun b hb=>aec w g b _ hb;have hgS: ¬S g:=hH.sep i _ g hi (by rw [iH];simp);have hk:Keeps S w S (w.setRow g out):=fun b hb=>⟨hb,hkeep b fun e=>hgS<|e ▸ hb⟩
 have MX:∀ j p,look (hput H i<|.cells ety<|putAt cs ys off) j=some p->(j=i/\p=.cells ety (putAt cs ys off))\/(j≠i/\look H j=some p):=fun j p hj=>by
  rw [MQ] at hj;split at hj
  .cases hj;exact .inl ⟨‹_›,rfl⟩
  .exact .inr ⟨‹_›,hj⟩
 have hnew:Cells ρ S w out (putAt cs ys off):=by
  have:=h2.1;have:=hcells.1;refine ake (vs:=(η x).cells) hcells ⟨h2.1,h2.2.1,h2.2.2⟩ hfit ?_ fun p=>?_
  .simp only [out,ZB,jQ,FD,Hu,Co];omega
  .simp only [out,Kk];rw [Vh _ _ _ _ bT,hlen];simp only [ZC]
 refine ⟨ρ,S,F,.junk _,⟨fun j hj=>?_,fun j p hp=>?_,fun j p hp=>?_,fun j j' p p' b hj hj' hne hb hb'=>?_,fun j p b hp hb=>?_,fun j p b hp hb=>?_,fun b hb=>by rw [setRow_size];exact hH.slt b hb⟩,
  ⟨rfl,rfl,rfl,aF,fun b hb hu=>hkeep b fun e=>hu ⟨i,_,hi,by rw [iH];simp [e]⟩,fun _ h=>h,fun _ h=>.inl h,fun b hb=>?_⟩,fun _ _ h _=>h⟩
 .rw [MQ] at hj;split at hj
  .cases hj
  .exact hH.dom j hj
 .rcases MX j p hp with ⟨rfl,rfl⟩|⟨hne,hp⟩
  .refine ⟨r,hr,?_⟩;rw [iH,e1];exact .cells g out ety _ (setRow_heap w g arr _ ety _ hh) hnew.1 fun q y hy=>by
    obtain ⟨c,h1,h2⟩:=hnew.2.2 q y hy;exact ⟨c,h1,hnew.2.1 q c h1,h2.mono (fun _ _ h _=>h) hk⟩
  .obtain ⟨r',hr',Cw⟩:=hH.obj j p hp;exact ⟨r',hr',Cw.mono (fun _ _ h _=>h) hk fun b hb=>hkeep b fun e=>hH.gW j i p _ g hp hi hne (e ▸ hb)<|by rw [iH];simp⟩
 .rcases MX j p hp with ⟨rfl,rfl⟩|⟨hne,hp⟩
  .exact hH.nodup j _ hi
  .exact hH.nodup j p hp
 .rcases MX j p hj with ⟨rfl,rfl⟩|⟨h1,hp⟩<;>rcases MX j' p' hj' with ⟨rfl,rfl⟩|⟨h2,hp'⟩
  .exact hne rfl
  .exact hH.gW _ _ _ _ b hi hp' hne hb hb'
  .exact hH.gW _ _ _ _ b hp hi hne hb hb'
  .exact hH.gW _ _ _ _ b hp hp' hne hb hb'
 .rcases MX j p hp with ⟨rfl,rfl⟩|⟨hne,hp⟩
  .exact hH.sep j _ b hi hb
  .exact hH.sep j p b hp hb
 .rw [setRow_size];rcases MX j p hp with ⟨rfl,rfl⟩|⟨hne,hp⟩
  .exact hH.lt j _ b hi hb
  .exact hH.lt j p b hp hb
 .obtain ⟨j,p,hp,hb⟩:=hb;rcases MX j p hp with ⟨rfl,rfl⟩|⟨hne,hp⟩
  .exact .inl ⟨j,_,hi,hb⟩
  .exact .inl ⟨j,p,hp,hb⟩
end
end Go.Av
namespace Go.Av
section
variable {P:Program} {G:Nat->Option (List V)}
theorem Cx {D:Tab} (hD:dQ P D) {t el:TypeId} {it:Ty} (ht:D.at t=some it) (hit:it.d=.slice el):P.underlying t=some (.slice el):=by
 obtain ⟨_,⟨d,u1,u2⟩,_⟩:=hD _ _ ht;rw [hit] at u2;have hd:d=.slice el:=by cases d<;>simp_all [TD.is]
 subst hd;exact u1
theorem ako {D:Tab} (hD:dQ P D) {t el:TypeId} {n:Nat} {it:Ty} (ht:D.at t=some it) (hit:it.d=.arr n el):P.underlying t=some (.array n el):=by
 obtain ⟨_,⟨d,u1,u2⟩,_⟩:=hD _ _ ht;rw [hit] at u2;have hd:d=.array n el:=by cases d<;>simp_all [TD.is]
 subst hd;exact u1
theorem atM {D:Tab} (hD:dQ P D) {t:TypeId} {it:Ty} (ht:D.at t=some it) (hit:it.d=.str):P.underlying t=some .string:=by
 obtain ⟨_,⟨d,u1,u2⟩,_⟩:=hD _ _ ht;rw [hit] at u2;have hd:d=.string:=by cases d<;>simp_all [TD.is]
 subst hd;exact u1
theorem atN {D:Tab} (hD:dQ P D) {o:Oper} {e:Operand->V} {H:Hp} {t el:TypeId} {x ix:Operand} {it ie:Ty} {nn b:Bool} {rows:List (List V)} {k:IntKind} {n:Int} (m:Nat) {row:List V}
  (ho:o.op=.indexAddr t x ix) (ht:D.at t=some it) (hit:it.d=.slice el) (hel:D.at el=some ie) (hx:e x=.sl nn b rows) (hix:e ix=.c (.int k n)) (hn:n=m) (hrow:rows[m]?=some row) (hsz:row.length=ie.size):
  gH P G o e H (.el row) H []:=by
 refine Ed fun ρ S F η w bQ hH=>?_;have h1:=bQ x (by simp [ho,Op.operands]);have h2:=bQ ix (by simp [ho,Op.operands]);rw [hx] at h1;rw [hix] at h2;have hlt:m < rows.length:=(dK.1 hrow).1;have hd:=h1.Vf;unfold execOp;simp only [ho,h2.iX];generalize η x=u at*;cases hd with
 | mF=>simp at hlt
 | shr a cap _ _ k' cs hlen hcap hk hc hr=>
  have hkk:k'=ie.size:=by rw [<- hk m row hrow];exact hsz
  subst hkk;refine ⟨.pointer<|some<|a.add<|m*ie.size,?_,.el (a.add<|m*ie.size) row (fun j=>cs m j) (fun j y hy=>?_) fun j y hy=>hr m j row y hrow hy⟩
  .have hn':0<=n/\n < (rows.length:Int):=ah;simp only [Instr.indexAt,gU,asIntOf,kY,gN,nV<|Cx hD ht hit,ZI,dA hn',(hD _ _ hel).sizeOf w];subst hn;rfl
  .obtain ⟨hs,hcell⟩:=hc m j row y hrow hy;refine ⟨?_,by rw [aad];exact hcell⟩;have:(a.add<|m*ie.size).block=a.block:=by unfold Addr.add;split<;>rfl
   rw [this];exact hs
theorem atO {D:Tab} (hD:dQ P D) {o:Oper} {e:Operand->V} {H:Hp} {t el:TypeId} {x ix:Operand} {it ie:Ty} {i:Nat} {nn:Bool} {ety:Tg} {rows:List (List V)} {k:IntKind} {n:Int} (m:Nat)
  (ho:o.op=.indexAddr t x ix) (ht:D.at t=some it) (hit:it.d=.slice el) (hel:D.at el=some ie) (hx:e x=.own i) (hi:look H i=some (.vec nn ety ie.size rows)) (hix:e ix=.c (.int k n)) (hn:n=m) (hm:m < rows.length):
  gH P G o e H (.vp i ie.size m 0) H []:=by
 refine Ed fun ρ S F η w bQ hH=>?_;have h1:=bQ x (by simp [ho,Op.operands]);have h2:=bQ ix (by simp [ho,Op.operands]);rw [hx] at h1;rw [hix] at h2;obtain ⟨r,hr,bY⟩:=hH.obj i _ hi;have QW:=h1.Cv r hr;unfold execOp;simp only [ho,h2.iX,QW];generalize F i=Fi at bY;cases bY with
 | kZ=>simp at hm
 | vec g cap arr _ _ _ _ cs Fs hh hcap=>
  refine ⟨.pointer<|some ⟨g,m*ie.size,none⟩,?_,.vp _ i ie.size m 0 fun r' hr'=>⟨g,rows.length,cap,?_,rfl⟩⟩
  .have hn':0<=n/\n < (rows.length:Int):=ah;simp only [Instr.indexAt,gU,asIntOf,kY,gN,nV<|Cx hD ht hit,ZI,dA hn',(hD _ _ hel).sizeOf w,Hr,qM];subst hn;rfl
  .rw [hr] at hr';cases hr';rfl
theorem atP {D:Tab} (hD:dQ P D) {o:Oper} {e:Operand->V} {H:Hp} {t el:TypeId} {x ix:Operand} {it ie:Ty} {len:Nat} {k:IntKind} {n:Int} (m:Nat) {v:V}
  (ho:o.op=.indexAddr t x ix) (ht:D.at t=some it) (hit:it.d=.arr len el) (hel:D.at el=some ie) (hx:Ky H (m*ie.size) (e x)=some v) (hix:e ix=.c (.int k n)) (hn:n=m) (hm:m < len):
  gH P G o e H v H []:=by
 refine Ed fun ρ S F η w bQ hH=>?_;have h1:=bQ x (by simp [ho,Op.operands]);have h2:=bQ ix (by simp [ho,Op.operands]);rw [hix] at h2;obtain ⟨a,ha,hv⟩:=akc hx hH h1;unfold execOp;simp only [ho,h2.iX,ha];refine ⟨_,?_,hv⟩;have hn':0<=n/\n < (len:Int):=ah;simp only [Instr.indexAt,gU,asIntOf,kY,gN,nV<|ako hD ht hit,Instr.sureAddr,ZI,dA hn',(hD _ _ hel).sizeOf w];subst hn;rfl
theorem atQ {D:Tab} (hD:dQ P D) {o:Oper} {e:Operand->V} {H:Hp} {t:TypeId} {x ix:Operand} {it:Ty} {s:List UInt8} {k:IntKind} {n:Int} (m:Nat) {c:UInt8}
  (ho:o.op=.index t x ix) (ht:D.at t=some it) (hit:it.d=.str) (hx:e x=V.s s) (hix:e ix=.c (.int k n)) (hn:n=m) (hc:s[m]?=some c):gH P G o e H (.c<|.int .u8 c.toNat) H []:=by
 refine Ed fun ρ S F η w bQ hH=>?_;have h1:=bQ x (by simp [ho,Op.operands]);have h2:=bQ ix (by simp [ho,Op.operands]);rw [hx] at h1;rw [hix] at h2;unfold execOp;simp only [ho,h2.iX,h1.iX];refine ⟨_,?_,.c _⟩;subst hn;have hlt:m < s.length:=(dK.1 hc).1;have hb:(⟨⟨s⟩⟩:ByteArray)[((m:Nat):Int).toNat]?=some c:=by
  have h:(⟨⟨s⟩⟩:ByteArray).size=s.length:=rfl;rw [Ho,getElem?_pos (⟨⟨s⟩⟩:ByteArray) m<|by rw [h];exact hlt];have:=(dK.1 hc).2;rw [<- this];rfl
 simp only [Instr.index,gU,asIntOf,kY,gN,nV<|atM hD ht hit,dA<|MF m,hb]
def aaf (e:Operand->V) (len lo hi:Nat) (l h:Option Operand):Prop:=
 lo<=hi/\hi<=len/\(match l with|some x=>∃ k,e x=.c (.int k (lo:Int))|none=>lo=0)/\(match h with|some x=>∃ k,e x=.c (.int k (hi:Int))|none=>hi=len)
theorem Vo {ρ:Nat->Option Value} {S:Nat->Prop} {w:World} {isSlice:Bool} {η:Operand->Value} {e:Operand->V} {len cap lo hi:Nat} {l h:Option Operand} (hl:∀ x,l=some x->RV ρ S w (η x) (e x)) (hh:∀ x,h=some x->RV ρ S w (η x) (e x))
  (hc:aaf e len lo hi l h) (hcap:len<=cap):(Instr.sliceBounds isSlice len cap (l.map η) (h.map η) none).run P w=.ok (lo,hi,cap) w:=by
 obtain ⟨h1,h2,h3,h4⟩:=hc;have b1:∀ (k:IntKind) (y:Nat) (c:BoundsCode) (n:Nat),n<=y->(Instr.sliceBound (.int k (n:Int)) y c).run P w=.ok n w:=fun k y c n hn=>by
  have:(0:Int)<=(n:Int)/\(n:Int)<=(y:Int):=ah;simp only [Instr.sliceBound,gU,asIntOf,kY,gN,dA this,Ho]
 unfold Instr.sliceBounds;cases l with
 | none=>
  simp only at h3;subst h3;cases h with
  | none=>
   simp only at h4;subst h4;simp
  | some y=>
   obtain ⟨k,hk⟩:=h4;have hy:=hh y rfl;rw [hk] at hy;simp [hy.iX,b1 k cap _ hi ah]
 | some x=>
  obtain ⟨kx,hkx⟩:=h3;have hx:=hl x rfl;rw [hkx] at hx;cases h with
  | none=>
   simp only at h4;subst h4;simp [hx.iX,b1 kx hi _ lo h1]
  | some y=>
   obtain ⟨k,hk⟩:=h4;have hy:=hh y rfl;rw [hk] at hy;simp [hy.iX,hx.iX,b1 k cap _ hi ah,b1 kx hi _ lo h1]
theorem atS {D:Tab} (hD:dQ P D) {o:Oper} {e:Operand->V} {H:Hp} {t el:TypeId} {x:Operand} {l h:Option Operand} {it ie:Ty} {nn b:Bool} {rows:List (List V)} (lo hi:Nat)
  (ho:o.op=.slice t x l h none) (ht:D.at t=some it) (hit:it.d=.slice el) (hel:D.at el=some ie) (hx:e x=.sl nn b rows) (Vm:∀ r,r∈rows->r.length=ie.size) (hc:aaf e rows.length lo hi l h):
  gH P G o e H (.sl nn b<|(rows.drop lo).take<|hi - lo) H []:=by
 refine Ed fun ρ S F η w bQ hH=>?_;have h1:=bQ x (by simp [ho,Op.operands]);rw [hx] at h1;have hd:=h1.Vf;unfold execOp;simp only [ho,Instr.sliceAt,gU,nV<|Cx hD ht hit,gN,QH];have h3:=hc.1;have h4:=hc.2.1;generalize hu:η x=u at*;cases hd with
 | mF=>
  have hlo:lo=0:=by simp at h4;omega
  have hhi:hi=0:=by simp at h4;omega
  subst hlo hhi;have hb:=Vo (P:=P) (ρ:=ρ) (S:=S) (w:=w) (isSlice:=true) (η:=η) (e:=e) (l:=l) (h:=h) (cap:=0) (fun y hy=>bQ y<|by simp [ho,Op.operands,hy]) (fun y hy=>bQ y<|by simp [ho,Op.operands,hy]) hc aF;refine ⟨.slice none 0 0,?_,.sl _ _ _ _<|.mF b⟩;simp only [zA] at hb;simp [Instr.slice,nV<|Cx hD ht hit,hb,(hD _ _ hel).sizeOf w]
 | shr a cap _ _ k cs hlen hcap hk hcc hr=>
  have hb:=Vo (P:=P) (ρ:=ρ) (S:=S) (w:=w) (isSlice:=true) (η:=η) (e:=e) (l:=l) (h:=h) (cap:=cap) (fun y hy=>bQ y<|by simp [ho,Op.operands,hy]) (fun y hy=>bQ y<|by simp [ho,Op.operands,hy]) hc hcap;refine ⟨.slice (some<|if cap=lo then a else a.add (lo*ie.size)) (hi - lo)<|cap - lo,?_,?_⟩
  .simp only [Instr.slice,gU,nV<|Cx hD ht hit,gN,hb,(hD _ _ hel).sizeOf w,kY];split<;>rfl
  .have hl2:((rows.drop lo).take<|hi - lo).length=hi - lo:=bT;have hget:∀ (i:Nat) (r:List V),((rows.drop lo).take<|hi - lo)[i]?=some r->rows[lo+i]?=some r:=fun i r hi'=>by
    rw [AB] at hi';split at hi'
    .rw [Eb] at hi';exact hi'
    .cases hi'
   refine .sl _ _ _ _ ?_;have key:=RD.shr (S:=S) (w:=w) (if cap=lo then a else a.add (lo*ie.size)) (cap - lo) nn ((rows.drop lo).take<|hi - lo) k (fun i j=>cs (lo+i) j) ah ah (fun i r h=>hk _ r<|hget i r h) (fun i j r y h1 h2=>?_) (fun i j r y h1 h2=>hr _ j r y (hget i r h1) h2)
   .rw [hl2] at key;exact key
   .have hlt:lo < rows.length:=by
     have:=(dK.1<|hget i r h1).1;omega
    rw [bI ah];obtain ⟨hs,hcell⟩:=hcc (lo+i) j r y (hget i r h1) h2;have hkk:k=ie.size:=by rw [<- hk _ r (hget i r h1)];exact Vm r (nT<|hget i r h1)
    refine ⟨?_,?_⟩
    .have:(a.add<|lo*ie.size).block=a.block:=by unfold Addr.add;split<;>rfl
     rw [this];exact hs
    .rw [aad,<- hkk,show lo*k+(i*k+j)=(lo+i)*k+j by rw [wh,Kn]];exact hcell
theorem atT {D:Tab} (hD:dQ P D) {o:Oper} {e:Operand->V} {H:Hp} {t el:TypeId} {x:Operand} {it ie:Ty} {n:Nat} {cells:List V}
  (ho:o.op=.slice t x none none none) (ht:D.at t=some it) (hit:it.d=.arr n el) (hel:D.at el=some ie) (hs1:ie.size=1) (hx:e x=.el cells) (hn:cells.length=n) (hmax:n<=maxLen):
  gH P G o e H (.sl true false<|cells.map fun c=>[c]) H []:=by
 refine Ed fun ρ S F η w bQ hH=>?_;have h1:=bQ x (by simp [ho,Op.operands]);rw [hx] at h1;obtain ⟨a,cs,ha,hc,hr⟩:=h1.akb;unfold execOp;simp only [ho,ha];refine ⟨.slice (some a) n n,?_,.sl _ _ _ _ ?_⟩
 .have hb:=Vo (P:=P) (ρ:=ρ) (S:=S) (w:=w) (isSlice:=false) (η:=η) (e:=e) (l:=none) (h:=none) (len:=n) (cap:=n) (lo:=0) (hi:=n) (fun y hy=>by cases hy) (fun y hy=>by cases hy) ⟨Ct _,cZ _,rfl,rfl⟩ (cZ _);simp only [QH] at hb;simp [Instr.sliceAt,nV<|ako hD ht hit,Instr.sureAddr,hb,(hD _ _ hel).sizeOf w,hs1,Addr.add]
 .have hl:(cells.map fun c=>[c]).length=n:=by simpa using hn
  rw [show Value.slice (some a) n n=Value.slice (some a) (cells.map fun c=>[c]).length n by rw [hl]];refine .shr a n true _ 1 (fun i _=>cs i) (by rw [hl];exact hmax) (by rw [hl];exact cZ _) (fun i r hi=>?_) (fun i j r y hi hj=>?_) (fun i j r y hi hj=>?_);all_goals
   rw [gD,eD] at hi;obtain ⟨c,hci,rfl⟩:=hi
  .rfl
  .cases j with
   | zero=>
    simp at hj;subst hj;simpa using hc i c hci
   | succ j=>simp at hj
  .cases j with
   | zero=>simp at hj;subst hj;exact hr i c hci
   | succ j=>simp at hj
end
end Go.Av
namespace Go.Av
section
variable {P:Program} {G:Nat->Option (List V)}
def Eh (H:Hp):V->Option (V×List Nat)
 | .c (.slice none 0 0)=>some (.sl false true [],[])
 | .c u=>if u.oneCell' then some (.c u,[]) else none
 | .sl nn b rows=>some (.sl nn b rows,[])
 | .own j=>match look H j with
  | some (.vec nn e _ rows)=>if e.hard then some (.sl nn true rows,[j]) else none
  | _=>none
 | _=>none
def wB (H:Hp):List V->Option (List V×List Nat)
 | []=>some ([],[])
 | x::l=>(Eh H x).bind fun p=>(wB H l).map fun r=>(p.1::r.1,p.2++r.2)
theorem akp {ρ:Nat->Option Value} {S:Nat->Prop} {F:Nat->List Nat} {H:Hp} {w:World} (hH:dY ρ S F H w) {x y:V} {C:List Nat} (h:Eh H x=some (y,C)) {v:Value} (hv:RV ρ S w v x):
  ∃ Fx,RD S w v y Fx/\Fx=C.flatMap F/\Fx.Nodup/\∀ c,c∈C->∃ o,look H c=some o:=by
 cases x with
 | c u=>
  unfold Eh at h;split at h
  .rename_i hu;cases hu;cases h;rw [hv.iX];exact ⟨[],.mF true,rfl,FB,fun c hc=>by cases hc⟩
  .rename_i u' _ hu;cases hu;split at h
   .cases h;rw [hv.iX];exact ⟨[],.c _ ‹_›,rfl,FB,fun c hc=>by cases hc⟩
   .cases h
  all_goals first|(cases h;done)|(rename_i hu;cases hu;done)
 | sl nn b rows=>
  cases h;exact ⟨[],hv.Vf,rfl,FB,fun c hc=>by cases hc⟩
 | own j=>
  simp only [Eh] at h;split at h
  .rename_i nn e k rows hl;split at h
   .rename_i hh;cases h;obtain ⟨r,hr,bY⟩:=hH.obj j _ hl;rw [hv.Cv r hr];exact ⟨F j,bY.ajP hh,aF,hH.nodup j _ hl,fun c hc=>by simp at hc;subst hc;exact ⟨_,hl⟩⟩
   .cases h
  .cases h
 | _=>cases h
theorem aeB {ρ:Nat->Option Value} {S:Nat->Prop} {F:Nat->List Nat} {H:Hp} {w:World} (hH:dY ρ S F H w):∀ (l:List V) {ys:List V} {C:List Nat},wB H l=some (ys,C)->
  ys.length=l.length/\(∀ c,c∈C->∃ o,look H c=some o)/\∃ Cs:Nat->List Nat,C=(List.range l.length).flatMap Cs/\
   ∀ (p:Nat) (y:V),ys[p]?=some y->∃ x,l[p]?=some x/\Eh H x=some (y,Cs p)
 | [],ys,C,h=>by simp only [wB,iG,pR] at h;obtain ⟨rfl,rfl⟩:=h;exact ⟨rfl,fun c hc=>(by cases hc),fun _=>[],rfl,fun p y hp=>(by simp at hp)⟩
 | x::l,ys,C,h=>by
  simp only [wB,dB,eD] at h;obtain ⟨⟨y,C1⟩,h1,⟨ys',C2⟩,h2,h3⟩:=h;cases h3;obtain ⟨e1,e2,Cs,e3,e4⟩:=aeB hH l h2;refine ⟨by simp [e1],fun c hc=>?_,fun p=>match p with|0=>C1|p+1=>Cs p,?_,fun p z hp=>?_⟩
  .rcases jo.1 hc with hc|hc
   .cases x with
    | own j=>
     simp only [Eh] at h1;split at h1
     .split at h1
      .cases h1;simp at hc;subst hc;exact ⟨_,‹_›⟩
      .cases h1
     .cases h1
    | c u=>
     unfold Eh at h1;split at h1
     .cases h1;cases hc
     .split at h1<;>cases h1;cases hc
     all_goals first|(cases h1;done)|(rename_i hu;cases hu;done)
    | sl nn b rows=>cases h1;cases hc
    | _=>cases h1
   .exact e2 c hc
  .simp only [fT,List.range_succ_eq_map,List.flatMap_cons,List.flatMap_map];rw [e3]
  .cases p with
   | zero=>simp at hp;subst hp;exact ⟨x,aF,h1⟩
   | succ p=>simp only [MG] at hp ⊢;exact e4 p z hp
def chunk (n k:Nat) (l:List V):List (List V):=(List.range n).map fun i=>(l.drop<|i*k).take k
theorem akq {n k:Nat} {l:List V} (hl:l.length=n*k) {i:Nat} {r:List V} (h:(chunk n k l)[i]?=some r):i < n/\r.length=k/\∀ (j:Nat) (y:V),r[j]?=some y->j < k/\l[i*k+j]?=some y:=by
 unfold chunk at h;rw [gD,eD] at h;obtain ⟨i',hi',rfl⟩:=h;obtain ⟨h1,h2⟩:=dK.1 hi';simp at h1 h2;subst h2;have hle:(i+1)*k<=n*k:=vW k h1;rw [wh] at hle;refine ⟨h1,bT,fun j y hy=>?_⟩;rw [AB] at hy;split at hy
 .rw [Eb] at hy;exact ⟨‹_›,hy⟩
 .cases hy
theorem atU (n k:Nat) (Cs:Nat->List Nat) (F:Nat->List Nat):flat n k (fun i j=>(Cs<|i*k+j).flatMap F)=((List.range<|n*k).flatMap Cs).flatMap F:=by
 induction n with
 | zero=>simp [flat]
 | succ n ih=>
  have h1:flat (n+1) k (fun i j=>(Cs<|i*k+j).flatMap F)=flat n k (fun i j=>(Cs<|i*k+j).flatMap F)++(List.range k).flatMap fun j=>(Cs<|n*k+j).flatMap F:=by
   unfold flat;rw [ZF,MH];simp
  rw [h1,ih,wh,ZQ,List.range_add,MH,MH];congr 1;rw [List.flatMap_map,List.flatMap_assoc]
theorem akr {C:List Nat} {F:Nat->List Nat} (hC:C.Nodup) (h1:∀ c,c∈C->(F c).Nodup) (h2:∀ c c' b,c∈C->c'∈C->c≠c'->b∈F c->b∈F c'->False):(C.flatMap F).Nodup:=by
 induction C with
 | nil=>simp
 | cons c C ih=>
  rw [qw] at hC;rw [List.flatMap_cons,List.nodup_append];refine ⟨h1 c aF,ih hC.2 (fun c' h=>h1 c'<|by simp [h]) (fun a b d ha hb=>h2 a b d (by simp [ha])<|by simp [hb]),fun a ha b hb e=>?_⟩;subst e;obtain ⟨c',hc',hb'⟩:=vY.1 hb;exact h2 c c' a aF (by simp [hc']) (fun e=>hC.1<|e ▸ hc') ha hb'
theorem atV {ρ:Nat->Option Value} {S:Nat->Prop} {F:Nat->List Nat} {H:Hp} {w:World} (hH:dY ρ S F H w) {q:Nat} (hq:gG q H=false) {ety:TypeId} {n k:Nat} {cells ys:List V} {C:List Nat} {arr:Array Value}
  (hc:Cells ρ S w arr cells) (hl:cells.length=n*k) (ha:wB H cells=some (ys,C)) (hC:C.Nodup) (hn:n<=maxLen):
  Post ρ S F H w (.own q) ((q,.vec true ety k<|chunk n k ys)::bU C H) [q] (.slice (some ⟨w.heap.size,0,none⟩) n n) (w.alloc<|.cells arr ety):=by
 obtain ⟨hyl,hlive,Cs,hCs,hget⟩:=aeB hH cells ha;have hys:ys.length=n*k:=hyl.trans hl;rw [hl] at hCs;have atW:(C.flatMap F).Nodup:=akr hC (fun c hc=>by obtain ⟨o,ho⟩:=hlive c hc;exact hH.nodup c o ho) (fun c c' b hc hc' hne hb hb'=>by
  obtain ⟨o,ho⟩:=hlive c hc;obtain ⟨o',ho'⟩:=hlive c' hc';exact hH.gW c c' o o' b ho ho' hne hb hb')
 have hold:∀ b,b < w.heap.size->(w.alloc<|.cells arr ety).heap[b]?=w.heap[b]?:=fun b hb=>aes w _ b hb;have hk:Keeps S w S (w.alloc<|.cells arr ety):=fun b hb=>⟨hb,hold b<|hH.slt b hb⟩
 have aks:∀ b,b∈C.flatMap F->b < w.heap.size:=fun b hb=>by
  obtain ⟨c,hc,hbc⟩:=vY.1 hb;obtain ⟨o,ho⟩:=hlive c hc;exact hH.lt c o b ho hbc
 have hcl:(chunk n k ys).length=n:=by simp [chunk]
 have Vn:flat n k (fun i j=>(Cs<|i*k+j).flatMap F)=C.flatMap F:=by rw [atU,hCs]
 refine Vk hH C hq (w':=w.alloc (.cells arr ety)) (root:=.slice (some ⟨w.heap.size,0,none⟩) n n) (Fi:=w.heap.size::flat n k fun i j=>(Cs<|i*k+j).flatMap F) rfl rfl rfl aF (fun b hb _=>hold b hb) (fun ρ'=>?_) ?_ (fun b hb=>?_) (.own _ q fun r hr=>?_)
 .have h0:Value.slice (some ⟨w.heap.size,0,none⟩) n n=Value.slice (some ⟨w.heap.size,0,none⟩) (chunk n k ys).length n:=by rw [hcl]
  rw [h0,show flat n k (fun i j=>(Cs<|i*k+j).flatMap F)=flat (chunk n k ys).length k (fun i j=>(Cs<|i*k+j).flatMap F) by rw [hcl]];have cell:∀ (i j:Nat) (r:List V) (y:V),(chunk n k ys)[i]?=some r->r[j]?=some y->∃ c,arr[i*k+j]?=some c/\RD S (w.alloc<|.cells arr ety) c y ((Cs<|i*k+j).flatMap F):=fun i j r y h1 h2=>by
   obtain ⟨_,_,h3⟩:=akq hys h1;obtain ⟨_,h4⟩:=h3 j y h2;obtain ⟨x,hx,hax⟩:=hget _ y h4;obtain ⟨c,hc1,hc2⟩:=hc.2.2 _ x hx;obtain ⟨Fx,hd,rfl,_,hl'⟩:=akp hH hax hc2;refine ⟨c,hc1,hd.mono hk fun b hb=>hold b<|aks b ?_⟩;obtain ⟨c',hc',hb'⟩:=vY.1 hb;refine vY.2 ⟨c',?_,hb'⟩;rw [hCs];have hlt:i*k+j < n*k:=by rw [<- hys];exact (dK.1 h4).1
   exact vY.2 ⟨_,ZM.2 hlt,hc'⟩
  refine .vec w.heap.size n arr true ety k (chunk n k ys) (fun i j=>arr.getD (i*k+j) undef) (fun i j=>(Cs<|i*k+j).flatMap F) (adR w _) (by rw [hcl];exact cZ _) hn (by rw [hc.1,hl]) (fun i r h=>(akq hys h).2.1) (fun i j r y h1 h2=>?_) (fun i j r y h1 h2=>?_) ⟨rfl,fun h0=>.inr<|by rw [hcl] at h0;exact h0⟩
  .obtain ⟨c,hc1,_⟩:=cell i j r y h1 h2;simp [nS,hc1]
  .obtain ⟨c,hc1,hd⟩:=cell i j r y h1 h2;have:arr.getD (i*k+j) undef=c:=by simp [nS,hc1]
   rw [this];exact hd
 .rw [Vn,qw];exact ⟨fun h=>by have:=aks _ h;omega,atW⟩
 .rw [Vn] at hb;rcases fF.1 hb with rfl|hb
  .exact .inr ⟨cZ _,aF⟩
  .obtain ⟨c,hc,hbc⟩:=vY.1 hb;obtain ⟨o,ho⟩:=hlive c hc;exact .inl ⟨c,o,hc,ho,hbc⟩
 .simp at hr;exact hr
theorem gH.buildSlice {D:Tab} (hD:dQ P D) {o:Oper} {e:Operand->V} {H:Hp} {t el:TypeId} {n:Nat} {parts:Array (Nat×Operand)} {it ie:Ty} (q:Nat) {cells ys:List V} {C:List Nat}
  (ho:o.op=.buildSlice t n parts) (ht:D.at t=some it) (hit:it.d=.slice el) (hel:D.at el=some ie) (hs0:ie.size≠0) (hsmall:n*ie.size<=16777216)
  (hf:wo H (fun i=>some (i*ie.size,ie.size)) ((List.replicate n<|ie.zero.map .c).flatten) (parts.toList.map fun p=>(p.1,e p.2))=some cells) (hl:cells.length=n*ie.size) (ha:wB H cells=some (ys,C)) (hC:C.Nodup) (hq:gG q H=false):
  gH P G o e H (.own q) ((q,.vec true el ie.size<|chunk n ie.size ys)::bU C H) [q]:=by
 intro ρ S F η w bQ hH hG;obtain ⟨⟨inf,z0,e1,e2,e3,e4,e5,e6,e7⟩,_,_⟩:=hD _ _ hel;have hz:(zeroValue el).run P w=.ok z0 w:=by simp [Go.zeroValue,typeInfo,e1,e4]
 have hzs:z0.cells.size=ie.size:=by rw [<- Co,e5,e7]
 have atX:∀ (n p:Nat),p < n*ie.size->((List.replicate n<|ie.zero.map V.c).flatten)[p]?=(ie.zero.map V.c)[p % ie.size]?:=by
  intro n;induction n with
  | zero=>intro p hp;simp at hp
  | succ n ih=>
   intro p hp;rw [List.replicate_succ,List.flatten_cons];have hlen:(ie.zero.map V.c).length=ie.size:=by simp [e7]
   by_cases hlt:p < ie.size
   .rw [uR ah,Nat.mod_eq_of_lt hlt]
   .rw [uQ ah,hlen,ih (p - ie.size) (by rw [wh] at hp;omega),<- Nat.mod_eq_sub_mod ah]
 have hz0:Cells ρ S w ((Array.range<|n*ie.size).map (z0.cells[· % z0.cells.size]!)) ((List.replicate n<|ie.zero.map .c).flatten):=by
  refine ⟨by simp [e7],fun j c hj=>?_,fun j x hj=>?_⟩
  .rw [QF,eD] at hj;obtain ⟨p,hp,rfl⟩:=hj;refine kW.1 e6 _ ?_;rw [<- e5,hzs];have:p % ie.size < z0.cells.size:=by rw [hzs];exact QK _ ah
   rw [ajG z0.cells _ this];simp
  .have hlt:j < n*ie.size:=by have:=(dK.1 hj).1;simpa [e7] using this
   rw [atX n j hlt,gD,eD] at hj;obtain ⟨u,hu,rfl⟩:=hj;refine ⟨u,?_,.c u⟩;rw [<- e5] at hu;have hlt2:j % ie.size < z0.cells.size:=by rw [hzs];exact QK _ ah
   rw [QF,Array.getElem?_range,dA hlt];simp only [MI,hzs];rw [ajG z0.cells _ hlt2];have:=(dK.1 hu).2;simpa using this
 obtain ⟨arr,Vp,hcells⟩:=akf hH η e parts.toList (fun p hp=>bQ p.2<|by simp [ho,Op.operands];exact ⟨p.1,by simpa using hp⟩) hz0 hf;have hmap:(parts.map fun (i,x)=>(i,η x)).toList=parts.toList.map fun p=>(p.1,η p.2):=aF;have hn:n<=maxLen:=by
  have:n*1<=n*ie.size:=Nat.mul_le_mul_left n ah;simp only [maxLen];omega
 have hrun:(execOp η o).run P w=.ok (.value<|.slice (some ⟨w.heap.size,0,none⟩) n n) (w.alloc<|.cells arr el):=by
  unfold execOp;have iL: ¬(n*ie.size > 2 ^ 24):=ah;simp only [ho,Instr.buildSlice,gU,nV<|Cx hD ht hit,gN,(hD _ _ hel).sizeOf w,bI iL,kY];by_cases h0:n*ie.size=0
  .have hn0:n=0:=by
    rcases Nat.mul_eq_zero.1 h0 with h|h
    .exact h
    .exact absurd h hs0
   subst hn0;have hz1:(Array.range<|0*ie.size).map (z0.cells[· % z0.cells.size]!)=#[]:=aF;rw [hz1] at Vp;rw [<- hmap] at Vp;have hz2:(Array.range 0).map ((#[]:Array Value)[· % (#[]:Array Value).size]!)=#[]:=aF;simp only [Nat.zero_mul,kF,gU,kY,gN];rw [hz2,Vp];rfl
  .rw [<- hmap] at Vp;simp only [bI h0,gU,hz,gN,kY,Vp];rfl
 unfold oC;rw [hrun];exact atV hH hq hcells hl ha hC hn
end
end Go.Av
namespace Go.Av
structure Eff where
 v:V:=.junk
 R:List Nat:=[]
 C:List Nat:=[]
 new:Hp:=[]
 N:List Nat:=[]
 deriving Inhabited
abbrev Eff.und:Eff:={v:=V.und}
def Eff.touch (E:Eff) (x:Nat):Bool:=E.C.contains x||(look E.new x).isSome
section
variable {P:Program} {G:Nat->Option (List V)}
def uW (P:Program) (G:Nat->Option (List V)) (o:Oper) (ei:Operand->V) (E:Eff) (Hi:Hp):Prop:=
 ∀ e H,(∀ x,x∈o.op.operands->e x=ei x)->(∀ x,x∈E.R\/E.touch x=true->look H x=look Hi x)->(E.N.all fun i=>!gG i H)=true->gH P G o e H E.v (E.new++bU E.C H) E.N
inductive Chain (P:Program) (G:Nat->Option (List V)) (ops:Array Oper):Nat->List V->Hp->List (Bool×Eff)->List V->Hp->Prop
 | nil (i:Nat) (T:List V) (H:Hp) (h:ops.size<=i):Chain P G ops i T H [] T H
 | op {i:Nat} {T:List V} {H:Hp} {o:Oper} {E:Eff} {Es:List (Bool×Eff)} {T':List V} {H':Hp} (ho:ops[i]?=some o) (hw:wu ops T o.guard=some true)
   (hop:uW P G o (ev G T) E H) (rest:Chain P G ops (i+1) (fB T o.dst E.v) (E.new++bU E.C H) Es T' H'):Chain P G ops i T H ((true,E)::Es) T' H'
 | skip {i:Nat} {T:List V} {H:Hp} {o:Oper} {Es:List (Bool×Eff)} {T':List V} {H':Hp} (ho:ops[i]?=some o) (hw:wu ops T o.guard=some false)
   (rest:Chain P G ops (i+1) (fB T o.dst V.und) H Es T' H'):Chain P G ops i T H ((false,Eff.und)::Es) T' H'
theorem FJ (A B:Hp) (x:Nat):look (A++B) x=match look A x with|some o=>some o|none=>look B x:=by
 induction A with
 | nil=>rfl
 | cons p A ih=>
  obtain ⟨j,o⟩:=p;simp only [wm,look];split
  .rfl
  .exact ih
theorem FL (E:Eff) (H:Hp) (x:Nat):look (E.new++bU E.C H) x=if E.touch x=true then look E.new x else look H x:=by
 rw [FJ,lI];unfold Eff.touch;cases h:look E.new x with
 | some o=>simp
 | none=>by_cases hc:x∈E.C<;>simp [hc]
theorem akt (x:Nat) (A B:Hp):gG x (A++B)=(gG x A||gG x B):=by
 induction A with
 | nil=>rfl
 | cons p A ih=>obtain ⟨j,o⟩:=p;simp [gG,ih,Bool.or_assoc]
theorem aeC {x:Nat} {C:List Nat} {H:Hp} (h:gG x (bU C H)=true):gG x H=true:=by
 induction H with
 | nil=>exact h
 | cons p H ih=>
  obtain ⟨j,o⟩:=p;unfold bU at h ih;rw [List.filter_cons] at h;simp only [gG,lH];split at h
  .simp only [gG,lH] at h;exact h.imp id ih
  .exact .inr (ih h)
theorem atY {x d:Nat} {v:V} {T:List V} (h:V.nX x (T.set d v)=true):V.nX x T=true\/v.has x=true:=by
 induction T generalizing d with
 | nil=>exact .inl h
 | cons y T ih=>
  cases d with
  | zero=>
   simp only [List.set_cons_zero,V.nX,lH] at h ⊢;rcases h with h|h
   .exact .inr h
   .exact .inl (.inr h)
  | succ d=>
   simp only [List.set_cons_succ,V.nX,lH] at h ⊢;rcases h with h|h
   .exact .inl (.inl h)
   .exact (ih h).imp .inr id
def aag (acc:List Nat) (o:Oper):Nat:=o.after.toList.foldl (fun m e=>if Region.binds .any e then (m||| (1 <<< e.on))||| acc.getD e.on 0 else m) 0
def MZ:List Oper->List Nat->List Nat
 | [],acc=>acc
 | o::l,acc=>MZ l (acc++[aag acc o])
def Down (ops:Array Oper) (L:Nat->Prop):Prop:=∀ i o e,L i->ops[i]?=some o->e∈o.after->Region.binds .any e=true->L e.on
theorem atZ {acc:List Nat} {o:Oper} {j:Nat} (h:(aag acc o).testBit j=true):∃ e,e∈o.after/\Region.binds .any e=true/\(j=e.on\/(acc.getD e.on 0).testBit j=true):=by
 unfold aag at h;have key:∀ (l:List Edge) (m:Nat),(l.foldl (fun m e=>if Region.binds .any e then (m||| (1 <<< e.on))||| acc.getD e.on 0 else m) m).testBit j=true->
   m.testBit j=true\/∃ e,e∈l/\Region.binds .any e=true/\(j=e.on\/(acc.getD e.on 0).testBit j=true):=by
  intro l;induction l with
  | nil=>intro m h;exact .inl h
  | cons e l ih=>
   intro m h;rw [adN] at h;rcases ih _ h with h|⟨e',h1,h2⟩
   .split at h
    .rename_i hb;rw [Nat.testBit_or,Nat.testBit_or,Nat.one_shiftLeft,Nat.testBit_two_pow] at h;simp only [lH,lG] at h;rcases h with (h|h)|h
     .exact .inl h
     .exact .inr ⟨e,aF,hb,.inl h.symm⟩
     .exact .inr ⟨e,aF,hb,.inr h⟩
    .exact .inl h
   .exact .inr ⟨e',by simp [h1],h2⟩
 rcases key o.after.toList 0 h with h|⟨e,h1,h2⟩
 .simp at h
 .exact ⟨e,by simpa using h1,h2⟩
theorem aku {ops:Array Oper} {L:Nat->Prop} (hL:Down ops L):∀ (l:List Oper) (acc:List Nat),ops.toList=ops.toList.take acc.length++l->acc.length<=ops.size->
  (∀ i j o,i < acc.length->ops[i]?=some o->(∀ e,e∈o.after->Region.binds .any e=true->L e.on)->(acc.getD i 0).testBit j=true->L j)->
  ∀ i j o,ops[i]?=some o->(∀ e,e∈o.after->Region.binds .any e=true->L e.on)->((MZ l acc).getD i 0).testBit j=true->L j
 | [],acc,hl,hle,h,i,j,o,ho,hd,hb=>by
  have:i < acc.length:=by
   rcases xA i acc.length with h'|h'
   .exact h'
   .simp only [MZ,Hl,AA h'] at hb;simp at hb
  exact h i j o this ho hd hb
 | o'::l,acc,hl,hle,h,i,j,o,ho,hd,hb=>by
  have hsz:acc.length < ops.size:=by
   have:=congrArg List.length hl;simp only [Co,jQ,FD,fT] at this;omega
  have ho':ops[acc.length]?=some o':=by
   have h1:ops.toList[acc.length]?=some o':=by
    rw [hl,uQ bT];simp;rw [show acc.length - min acc.length ops.size=0 by omega];rfl
   simpa using h1
  refine aku hL l (acc++[aag acc o']) ?_ bT ?_ i j o ho hd hb
  .rw [jQ,QD];have h2:ops.toList.take (acc.length+1)=ops.toList.take acc.length++[o']:=by
    rw [ajy];have:ops.toList[acc.length]?=some o':=by simpa using ho'
    rw [this];rfl
   rw [h2,kC];exact hl
  .intro i j o hi ho hd hb;rw [jQ,QD] at hi;rw [Hl] at hb;by_cases he:i=acc.length
   .subst he;rw [uQ<|cZ _] at hb;simp only [adM,Fz,ZJ] at hb;rw [ho'] at ho;cases ho;obtain ⟨e,h1,h2,h3⟩:=atZ hb;rcases h3 with rfl|h3
    .exact hd e h1 h2
    .have hlt:e.on < acc.length:=by
      rcases xA e.on acc.length with h'|h'
      .exact h'
      .simp only [Hl,AA h'] at h3;simp at h3
     obtain ⟨oe,hoe⟩:∃ oe,ops[e.on]?=some oe:=⟨_,mP ah⟩
     exact h e.on j oe hlt hoe (fun e' he' hb'=>hL _ oe e' (hd e h1 h2) hoe he' hb') h3
   .rw [uR ah] at hb;exact h i j o ah ho hd (by rw [Hl];exact hb)
def akv (ops:Array Oper) (x y:Oper) (E F:Eff):Bool:=
 (match x.dst with|some d=>!(y.looksAt ops).contains d|none=>true)&&(match y.dst with|some d=>!(x.looksAt ops).contains d|none=>true)&&
 F.R.all (fun i=>!E.touch i)&&E.R.all (fun i=>!F.touch i)&&E.C.all (fun i=>!F.touch i)&&F.C.all (fun i=>!E.touch i)&&E.new.all (fun p=>!F.touch p.1)&&F.new.all (fun p=>!E.touch p.1)&&
 E.N.all (fun i=>!F.v.has i&&!gG i F.new)
def aeD (ops:Array Oper) (clo:List Nat) (Es:List (Bool×Eff)) (i j:Nat):Bool:=
 match ops[i]?,ops[j]?,Es[i]?,Es[j]? with
 | some x,some y,some (_,E),some (_,F)=>
  (match x.dst,y.dst with|some d,some d'=>d !=d'|_,_=>true)&&F.N.all (fun k=>!E.v.has k&&!gG k E.new)&&((clo.getD j 0).testBit i||akv ops x y E F)
 | _,_,_,_=>false
def aah (ops:Array Oper) (T0:List V) (H0:Hp) (Es:List (Bool×Eff)):Bool:=
 let clo:=MZ ops.toList []
 (List.range ops.size).all fun j=>
  (match ops[j]? with|some o=>o.after.all fun e=>!Region.binds .any e||Nat.blt e.on j|none=>false)&&
  (match Es[j]? with|some (_,E)=>E.N.all fun i=>Nat.ble 100 i&&!V.nX i T0&&!gG i H0|none=>false)&&
  (List.range j).all fun i=>aeD ops clo Es i j
end
end Go.Av
