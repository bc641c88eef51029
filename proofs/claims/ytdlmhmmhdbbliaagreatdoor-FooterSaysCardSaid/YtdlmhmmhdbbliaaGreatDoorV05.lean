/- Parts of the proof. -/
import Derived.Test.YtdlmhmmhdbbliaaGreatDoorV04
import Derived.ProofKit
import Derived.OpenShut
import Derived.JoinedCond
import Derived.Deep.Slices
set_option maxHeartbeats 4000000
set_option linter.unusedVariables false
set_option linter.unusedSimpArgs false
namespace Go.Wk
open Go Go.RowKit
theorem ZaF {α:Type}{enc:α->List Value}{sz:Nat}(hsz:∀ x,(enc x).length=sz):∀ (l:List α) (k:Nat) (x:α) (j:Nat) (v:Value),l[k]?=some x->(enc x)[j]?=some v->(l.flatMap enc)[k*sz+j]?=some v
 | [],k,x,j,v,h,_=>by simp at h
 | y::l,0,x,j,v,h,hv=>by
  have e:y=x:=by simpa using h
  subst e
  have hj:j<(enc y).length:=(List.getElem?_eq_some_iff.1 hv).1
  simp only[List.flatMap_cons,Nat.zero_mul,Nat.zero_add]
  rw[List.getElem?_append_left hj]
  exact hv
 | y::l,k+1,x,j,v,h,hv=>by
  have h':l[k]?=some x:=by simpa using h
  have ih:=ZaF hsz l k x j v h' hv
  simp only[List.flatMap_cons]
  rw[List.getElem?_append_right (by rw[hsz,Nat.add_mul];omega),hsz,show(k+1)*sz+j - sz=k*sz+j from by rw[Nat.add_mul];omega]
  exact ih
theorem Zbf {α:Type}{enc:α->List Value}{sz:Nat}(hsz:∀ x,(enc x).length=sz):∀ l:List α,(l.flatMap enc).length=l.length*sz
 | []=>by simp
 | x::l=>by simp[List.flatMap_cons,hsz,Zbf hsz l,Nat.add_mul];omega
theorem Zzj {α:Type}{enc:α->List Value}{sz:Nat}(hsz:∀ x,(enc x).length=sz)(hpos:0<sz)(l:List α)(i:Nat)(u:Value)(h:(l.flatMap enc)[i]?=some u):∃ x,l[i / sz]?=some x/\(enc x)[i % sz]?=some u:=by
 have hi:i<l.length*sz:=by rw[<- Zbf hsz];exact(List.getElem?_eq_some_iff.1 h).1
 have hk:i / sz<l.length:=(Nat.div_lt_iff_lt_mul hpos).2 hi
 have hm:i % sz<sz:=Nat.mod_lt _ hpos
 refine⟨l[i / sz],List.getElem?_eq_getElem hk,?_⟩
 have hv:(enc l[i / sz])[i % sz]?=some ((enc l[i / sz])[i % sz]'(by rw[hsz];exact hm)):=List.getElem?_eq_getElem _
 have:=ZaF hsz l (i / sz) _ (i % sz) _ (List.getElem?_eq_getElem hk) hv
 rw[show i / sz*sz+i % sz=i from by rw[Nat.mul_comm];exact Nat.div_add_mod i sz]at this
 rw[hv,<- this,h]
theorem Zbn {α:Type}{enc:α->List Value}{sz e c:Nat}{A:Option Addr}{l:List α}{w:World}(hsz:∀ x,(enc x).length=sz)(h:(It.row (.slice A l.length c) e sz l.length (l.flatMap enc)).sat w):RdSl w A c enc sz l:=by
 obtain⟨A',c',e1,h1,h2,_,_⟩:=Zgh h
 injection e1 with e2 _ e3
 subst e2 e3
 refine⟨h1,h2,fun k x hx=>⟨?_,fun j v hv=>?_⟩⟩
 ·obtain⟨_,_,e1,_,_,h3,_⟩:=Zgh h
  injection e1 with e2 _ _
  subst e2
  exact h3 (by have:=(List.getElem?_eq_some_iff.1 hx).1;omega)
 ·rw[Za6]
  exact(Za0 h (ZaF hsz l k x j v hx hv)).2
theorem ZbP {w:World}{b:Nat}{cs:List Value}{t:TypeId}(h:(It.blk b cs t).sat w):Raw w (some ⟨b,0,none⟩) cs:=fun j u hu=>⟨by simp,by
 simp only[adr,Option.getD_some,Zcd,Nat.zero_add]
 rw[ZcU h,hu]⟩
theorem Zxq {w:World}{e size n c:Nat}{A:Option Addr}{xs:List Value}(h:(It.row (.slice A n c) e size n xs).sat w):Raw w A xs:=fun j u hu=>Za0 h hu
theorem RdL.raw {α:Type}{enc:α->List Value}{sz:Nat}{A:Option Addr}{l:List α}{w:World}(hsz:∀ x,(enc x).length=sz)(hpos:0<sz)(h:RdL w A enc sz l):Raw w A (l.flatMap enc):=fun i u hu=>by
 obtain⟨x,h1,h2⟩:=Zzj hsz hpos l i u hu
 obtain⟨h3,h4⟩:=h _ x h1
 refine⟨h3,?_⟩
 have:=h4 _ u h2
 rw[Za6,show i / sz*sz+i % sz=i from by rw[Nat.mul_comm];exact Nat.div_add_mod i sz]at this
 exact this
theorem Zay.of {base:Nat}{O R:List It}{A:It}{w:World}(h:Zay base O w)(hp:Pick A O R):A.sat w:=h.sat _ (hp.perm.mem_iff.2 List.mem_cons_self)
theorem Zfp {α:Type}{enc:α->List Value}(h:∀ x,(enc x).all Value.oneCell'=true):∀ l:List α,(l.flatMap enc).all Value.oneCell'=true
 | []=>rfl
 | x::l=>by rw[List.flatMap_cons,List.all_append,h x,Zfp h l];rfl
theorem Zgs {α:Type}{enc:α->List Value}(l:List α)(x:α):l.flatMap enc++enc x=(l++[x]).flatMap enc:=by simp
theorem ZpQ {w:World}{e size n c:Nat}{A:Option Addr}{xs:List Value}(h:(It.row (.slice A n c) e size n xs).sat w)(hn:0<n):A≠none:=by
 obtain⟨A2,c2,e1,_,_,h5,_⟩:=Zgh h
 injection e1 with e2 _ _
 subst e2
 exact h5 hn
section
variable {P:Program}{n:Nat}{wr:World}{fr:Fr}{O:List It}{ty:TypeId}
theorem ZlG {t sz e size p m c:Nat}{x:Operand}{A:Option Addr}{xs:List Value}{v:Value}{R:List It}[Ty P t sz false](hx:ev fr x=some (.pointer (some ((adr A).add p))))
  (hp:Pick (.row (.slice A m c) e size m xs) O R) (hv:xs[p]?=some v):Pu P n wr fr O (.load t x) ty v :=
 Zep hx fun w _ hO=>(Za0 (hO.of hp) hv).2
end
structure AG (α:Type) where
 k:Nat
 A:Option Addr
 c:Nat
 m:Nat
 xs:List Value
 acc:List α
theorem Zab.len (x:Zab):x.enc.length=11:=rfl
theorem DEra.len (x:DEra):x.enc.length=13:=rfl
theorem Zcj.len (x:Zcj):x.enc.length=2:=rfl
theorem Za2.len (x:ByteArray):(Za2 x).length=1:=rfl
section
variable {P:Program}{n:Nat}{wr:World}{fr:Fr}{O:List It}{ty:TypeId}{pos:String}{af:Array Edge}{dst:Option Tmp}{g:Option (Nat × Bool)}{Kp:Value->List It->Prop}
theorem Zo3 {t e sz bytes:Nat}{s x:Operand}{A B:Option Addr}{c k c2:Nat}{news:List Value}{O':Option Addr->Nat->List It}[hE:ElemZ P t e sz bytes]
  (hs:ev fr s=some (.slice A 0 c)) (hx:ev fr x=some (.slice B k c2))
  (hu:∀ A' c',Upd O (.row (.slice A 0 c) e sz 0 []) (.row (.slice A' k c') e sz k news) (O' A' c'))
  (hraw:∀ w,Bel wr.heap.size wr w->Zay wr.heap.size O w->Raw w B news) (hl:news.length=k*sz) (h1:news.all Value.oneCell'=true) (h63:k<=maxLen) (hb:k*bytes<=140737488355328)
  (kk:∀ A' c',k<=c'->c'<=maxLen->(0<k->A'≠none)->Kp (.slice A' k c') (O' A' c')):Stp P n wr fr O ⟨dst,.call ⟨.builtin .append,#[s,x],#[t,t]⟩,ty,pos,af,g⟩ Kp :=
 ZaE (O':=O') hs hx (fun A' c'=>by rw[Nat.zero_add,List.nil_append];exact hu A' c') hraw hl h1 (by omega) (by simpa using hb) (fun A' c' h2 h3 h4=>by
  have:=kk A' c' (by omega) h3 (fun h=>h4 (by omega))
  simpa using this)
end
theorem RdSl.none {α:Type}{w:World}{A:Option Addr}{c:Nat}{enc:α->List Value}{sz:Nat}{xs:List α}(h:RdSl w A c enc sz xs)(hA:A.isNone=true):xs=[]:=by
 cases xs with
 | nil=>rfl
 | cons x l =>
  have:=(h.rd 0 x rfl).1
  simp at hA
  exact absurd hA this
theorem oneR (x:Zab):x.enc.all Value.oneCell'=true:=rfl
theorem oneS (x:ByteArray):(Za2 x).all Value.oneCell'=true:=rfl
theorem Pick.ofMem {A:It}:∀ {O:List It},A∈O->∃ R,Pick A O R
 | [],h=>by simp at h
 | x::O,h=>by
  rcases List.mem_cons.1 h with rfl|h
  ·exact⟨O,.here⟩
  ·obtain⟨R,hR⟩:=Pick.ofMem h
   exact⟨x::R,.there hR⟩
theorem SubO.ofPerm:∀ {O' O R:List It},O.Perm (O'++R)->SubO O' O
 | [],_,_,_ => .nil
 | A::O',O,R,h=>by
  obtain⟨R',hp⟩:=Pick.ofMem (A:=A) (h.mem_iff.2 (by simp))
  refine .cons hp (SubO.ofPerm (R:=R) ?_)
  exact List.Perm.cons_inv (hp.perm.symm.trans h)
theorem SubO.app {O' O R:List It}(h:SubO O' O):SubO O' (O++R):=by
 obtain⟨R',hR⟩:=h.perm
 exact SubO.ofPerm (R:=R'++R) (by rw[<- List.append_assoc];exact hR.append_right R)
theorem Zay.fact {base:Nat}{O1 O:List It}{w:World}{p:World->Prop}(h:Zay base (O1++O) w)(hp:∀ w',(∀ i∈O1,i.sat w')->p w'):Zay base (.fact (foot O1) p::O) w:=by
 obtain⟨h1,h2,h3⟩:=List.pairwise_append.1 h.sep
 refine⟨fun i hi=>?_,fun i hi b hb=>?_,List.pairwise_cons.2 ⟨fun j hj b hb hjb=>?_,h2⟩⟩
 ·rcases List.mem_cons.1 hi with rfl|hi
  ·exact fun w' ha=>hp w' fun i hi=>It.sat_congr (h.sat i (List.mem_append_left _ hi)) fun b hb=>ha b ⟨i,hi,hb⟩
  ·exact h.sat i (List.mem_append_right _ hi)
 ·rcases List.mem_cons.1 hi with rfl|hi
  ·obtain⟨i,hi,hb⟩:=hb
   exact h.inb i (List.mem_append_left _ hi) b hb
  ·exact h.inb i (List.mem_append_right _ hi) b hb
 ·obtain⟨i,hi,hb⟩:=hb
  exact h3 i hi j hj b hb hjb
theorem Zef {S:Nat->Prop}{p:World->Prop}{w:World}(h:(It.fact S p).sat w):p w:=h w fun _ _=>rfl
section
variable {P:Program}{n:Nat}{wr:World}{ops:Array Oper}{K:Fr->List It->Prop}{fr:Fr}{O:List It}
theorem ZgL {c:Code}{Q:Exit->Fr->List It->Prop}(O1 R:List It)(p:World->Prop)(hs:SubO (O1++R) O)(hp:∀ w',(∀ i∈O1,i.sat w')->p w')(h:W P n wr c Q fr (.fact (foot O1) p::R)):W P n wr c Q fr O :=
 fun a w st=>h a w ⟨st.sim,st.old,(st.own.sub hs).fact hp⟩
end
theorem SubO.drop {x:It}{O' O:List It}(h:SubO O' O):SubO O' (x::O):=by
 obtain⟨R,hR⟩:=h.perm
 exact SubO.ofPerm (R:=x::R) ((List.Perm.cons x hR).trans List.perm_middle.symm)
theorem Ends.app {F:List It}:∀ {R:List It},Ends (R.append F) F R
 | [] => .nil
 | _::_ => .cons Ends.app
theorem SubO.right:∀ (A O:List It),SubO O (A++O)
 | [],O => .refl O
 | _::A,O=>(SubO.right A O).drop
section
variable {P:Program}{n:Nat}{wr:World}{Q:Exit->Fr->List It->Prop}{fr:Fr}{O:List It}
theorem Zbx {c:Code}(I:Fr->List It->Prop)(h1:W P n wr c (fun e fr O=>e = .normal/\I fr O) fr O)(h2:∀ fr' O',I fr' O'->Q .normal fr' O'):W P n wr c Q fr O :=
 ZxK h1 fun e fr' O' h=>by
  obtain⟨rfl,h⟩:=h
  exact h2 fr' O' h
end
section
variable {P:Program}{n:Nat}{wr:World}{fr:Fr}{O:List It}{ty:TypeId}{pos:String}{af:Array Edge}{dst:Option Tmp}{g:Option (Nat × Bool)}{Kp:Value->List It->Prop}
theorem Pu_capL {t e sz bytes:Nat}{x:Operand}{A:Option Addr}{len cap:Nat}[hE:ElemT P t e sz bytes](hx:ev fr x=some (.slice A len cap)):Pu P n wr fr O (.call ⟨.builtin .cap,#[x],#[t]⟩) ty (.int .i64 cap) :=
 fun a w hs _ _ _ _=>by
  have h:=hE.h
  unfold Zhh at h
  split at h
  ·rename_i e' hu
   simp[execOp,resolve,invoke,builtin,Builtin.cap_,hs.sim.ev hx,run_underlying hu,goInt]
  ·cases h
theorem Pu_sliceH {t e sz bytes:Nat}{x y:Operand}{A:Option Addr}{len cap:Nat}{h:Int}[hE:ElemZ P t e sz bytes](hx:ev fr x=some (.slice A len cap))(hy:ev fr y=some (.int .i64 h))(h0:0<=h)(h1:h<=cap) :
  Pu P n wr fr O (.slice t x none (some y) none) ty (.slice A h.toNat cap):=fun a w hs _ _ _ _=>by
 obtain⟨i,z,ht,hi,hz,hsz,hby,hzs,hpos⟩:=ElemZ.parts hE.h
 simp[execOp,hs.sim.ev hx,hs.sim.ev hy,Instr.sliceAt,Instr.slice,run_underlying ht,Instr.sliceBounds,run_sliceBound,h0,h1,sizeOf,typeInfo,hi]
 intro _
 cases A with
 | none=>rfl
 | some ad=>simp[Addr.add]
end
section
variable {P:Program}{n:Nat}{wr:World}{fr:Fr}{O:List It}{ty:TypeId}
theorem Zb5 {t kt et b:Nat}{x ix:Operand}{m:List (ByteArray × Value)}{k:ByteArray}{z v:Value}{c:Bool}{R:List It}[hM:MapT P t kt et][StringT P kt][ZeroV P et z](hx:ev fr x=some (.map (some b)))(hi:ev fr ix=some (.string k))
  (hp:Pick (.mp b m) O R) (hv:(mget m k).getD z=v) (hc:(mget m k).isSome=c):Pu P n wr fr O (.lookup t x ix true) ty (.tuple [v,.bool c].toArray):=hv▸hc▸Pu_lookupOk (kt:=kt) (et:=et) hx hi hp
end
theorem Zok {α:Type}(w:World)(enc:α->List Value)(sz:Nat):RdSl w none 0 enc sz []:=⟨Nat.le_refl _,Nat.zero_le _,fun _ _ h=>by simp at h⟩
theorem Zk9 {α:Type}{enc:α->List Value}{sz c b:Nat}{t:TypeId}{l:List α}{w:World}(hsz:∀ x,(enc x).length=sz)(h1:l.length<=c)(h2:c<=maxLen)(h:(It.blk b (l.flatMap enc) t).sat w):RdSl w (some ⟨b,0,none⟩) c enc sz l :=
 ⟨h1,h2,fun k x hx=>⟨by simp,fun j v hv=>by
  rw[Za6]
  exact(ZbP h _ v (ZaF hsz l k x j v hx hv)).2⟩⟩
open Go Go.RowKit Go.ChangeShapes Go.WideShapes Go.ChangeAt
section
variable {H:Type}{enc:TypeId × Value->H}{P:Program}
theorem Zgb (hl:laidOutB P=true){W W':World}(hb:Below W.heap.size W W'){sp:Nat->Bool}:∀ {ts:List TypeId} {vs:List Value} {ds:List (DataW H)} {ps:List MemPlace},
  (∀ t∈ts,P.readableRec t=true/\t<P.types.size)->DataW.TrodAll enc P W 0 (fun _=>true) true ts vs ds ps->(∀ p∈ps,p.block<W.heap.size)->(∀ p∈ps,sp p.block=true)->DataW.TrodAll enc P W' 0 sp true ts vs ds ps
 | [],_,_,_,_,h,_,_=>by
  obtain⟨rfl,rfl,rfl⟩:=trodAll_nil h
  rfl
 | t::ts,_,_,_,hr,h,hlt,hsp=>by
  obtain⟨v,vs,d,ds,p,q,rfl,rfl,rfl,h1,h2⟩:=trodAll_cons h
  obtain⟨r1,r2⟩:=hr t List.mem_cons_self
  refine⟨p,q,WideElems.Trod_stays hl r1 r2 h1 (fun x hx=>hb.same (hlt x (List.mem_append_left _ hx))) (fun x hx=>hsp x (List.mem_append_left _ hx)),?_,rfl⟩
  exact Zgb hl hb (fun t ht=>hr t (List.mem_cons_of_mem _ ht)) h2 (fun x hx=>hlt x (List.mem_append_right _ hx)) (fun x hx=>hsp x (List.mem_append_right _ hx))
theorem Zic {w:World}{base:Nat}{sp:Nat->Bool}{held:Bool}:∀ {ts:List TypeId} {vs:List Value} {ds:List (DataW H)} {ps:List MemPlace},DataW.TrodAll enc P w base sp held ts vs ds ps->vs.length=ts.length/\ds.length=ts.length
 | [],_,_,_,h=>by
  obtain⟨rfl,rfl,rfl⟩:=trodAll_nil h
  exact⟨rfl,rfl⟩
 | t::ts,_,_,_,h=>by
  obtain⟨v,vs,d,ds,p,q,rfl,rfl,rfl,h1,h2⟩:=trodAll_cons h
  have:=Zic h2
  exact⟨by simp[this.1],by simp[this.2]⟩
theorem ZwF {fn:Func}{s:ChangeSpec}{W W':World}{args:Array Value}{ds gs:List (DataW H)}{before:List MemPlace}{t:TypeId}(hvars:s.vars=[])(hres:fn.resultTypes = #[t])(ht:P.underlying t=some .bool)(hl:laidOutB P=true)
  (hr:∀ t∈fn.params.toList,P.readableRec t=true/\t<P.types.size) (hspec:∀ ds:List (DataW H),ds.length=fn.params.toList.length->s.fn H ds={ results:=[.lit (.bool true)],args:=ds })
  (hW:DataW.Whole enc P fn.params.toList s.vars false W args.toList ds gs before) (hb:Below W.heap.size W W'):s.post enc P fn false true false false W args (.bool true) W':=by
 have hW':=hW
 obtain⟨p,q,hA,hV,rfl,hz,hn⟩:=hW
 rw[hvars]at hV
 obtain⟨rfl,rfl⟩:=trodVars_none hV
 have hlt:∀ x∈p,x.block<W.heap.size:=fun x hx=>hW'.lt x (List.mem_append_left _ hx)
 have hs:=hspec ds (Zic hA).2
 refine⟨ds,[],_,[],p,[],hW',?_,?_,?_,hb.frame _,fun h=>by cases h⟩
 ·rw[List.append_nil,hs,hres]
  exact⟨[],[],shut_bool ht true,rfl,rfl⟩
 ·rw[List.append_nil,hs]
  exact Zgb hl hb hr hA hlt (fun x hx=>by simpa using hlt x hx)
 ·rw[List.append_nil,hs,hvars]
  rfl
theorem Zqe {w:World}{base:Nat}{sp:Nat->Bool}{held:Bool}{t:TypeId}{fuel:Nat}{cs:List Value}{x:DataW H × List MemPlace}{fs:Array Field}(ht:P.underlying t=some (.struct fs))(h:DataW.trod enc P w base sp held fuel t cs=some x) :
  cs.length=P.cellsOf t/\∀ (i ty off sz:Nat),(fs[i]?).map (fun f=>(f.type,f.offset))=some (ty,off)->P.cellsOf ty=sz->∃ n y,DataW.trod enc P w base sp held n ty ((cs.drop off).take sz)=some y:=by
 obtain⟨xs,n,_,_,hl,hlen,hf⟩:=DataW.trod_struct ht h
 refine⟨hl,fun i ty off sz hi hsz=>⟨n,?_⟩⟩
 obtain⟨f,hi2,e⟩:=Option.map_eq_some_iff.1 hi
 simp only[Prod.mk.injEq]at e
 obtain⟨rfl,rfl⟩:=e
 subst hsz
 have:=hf i f hi2
 have hlt:i<xs.length:=by rw[hlen];exact(Array.getElem?_eq_some_iff.1 hi2).1
 rw[List.getElem?_eq_getElem hlt]at this
 exact⟨_,this⟩
theorem Zk2 {α:Type}{w:World}{sp:Nat->Bool}{held:Bool}{t e:TypeId}{fuel:Nat}{v:Value}{x:DataW H × List MemPlace}(ht:P.underlying t=some (.slice e))(R:α->List Value->Prop)
  (he:∀ n cs y,DataW.trod enc P w 0 sp held n e cs=some y->∃ a,R a cs) (h:DataW.trod enc P w 0 sp held fuel t [v]=some x) :
  ∃ (A:Option Addr) (l:List α) (c:Nat),v = .slice A l.length c/\l.length<=c/\c<=maxLen/\∀ k a,l[k]?=some a->A≠none/\∃ cs,R a cs/\Zal w ((adr A).add (k*P.cellsOf e)) cs:=by
 rcases Deep.open_slice ht h with⟨h0,_⟩|⟨a,len,cap,m,n,D,Pl,hcs,hb,hl,hm,hmm,hx,hi⟩
 ·injection h0 with h0 _
  exact⟨none,[],0,h0,Nat.le_refl _,Nat.zero_le _,fun k a h=>by simp at h⟩
 ·injection hcs with hcs _
  have hle:len<=m:=by rw[hmm];split <;> omega
  have key:∀ i,i<len->∃ a':α,∃ cs,R a' cs/\Zal w (a.add (i*P.cellsOf e)) cs:=fun i hi'=>by
   obtain⟨cs',h1,h2⟩:=hi i (by omega)
   obtain⟨a',ha'⟩:=he _ _ _ h2
   obtain⟨_,hcl,hat⟩:=World.cells?_some h1
   refine⟨a',cs',ha',fun j v hj=>?_⟩
   rw[hat j (by have:=(List.getElem?_eq_some_iff.1 hj).1;omega),hj]
  clear hi hx
  have all:∀ n,n<=len->∃ l:List α,l.length=n/\∀ k a',l[k]?=some a'->∃ cs,R a' cs/\Zal w (a.add (k*P.cellsOf e)) cs:=by
   intro n
   induction n with
   | zero=>exact fun _=>⟨[],rfl,fun k a' h=>by simp at h⟩
   | succ n ih =>
    intro hn
    obtain⟨l,h1,h2⟩:=ih (by omega)
    obtain⟨a',h3⟩:=key n (by omega)
    refine⟨l++[a'],by simp[h1],fun k b hk=>?_⟩
    by_cases hkn:k<n
    ·rw[List.getElem?_append_left (by omega)]at hk
     exact h2 k b hk
    ·have hk2:=(List.getElem?_eq_some_iff.1 hk).1
     simp at hk2
     have:k=n:=by omega
     subst this
     rw[List.getElem?_append_right (by omega),h1]at hk
     simp at hk
     subst hk
     exact h3
  obtain⟨l,h1,h2⟩:=all len (Nat.le_refl _)
  exact⟨some a,l,cap,by rw[hcs,h1],by omega,hm,fun k b hk=>⟨by simp,h2 k b hk⟩⟩
theorem Zk1 {α:Type}{w:World}{sp:Nat->Bool}{held:Bool}{t e:TypeId}{fuel:Nat}{v:Value}{x:DataW H × List MemPlace}(ht:P.underlying t=some (.slice e))(en:α->List Value)(ok:α->Prop){sz:Nat}(hsz:P.cellsOf e=sz)
  (he:∀ n cs y,DataW.trod enc P w 0 sp held n e cs=some y->∃ a,cs=en a/\ok a) (h:DataW.trod enc P w 0 sp held fuel t [v]=some x) :
  ∃ (A:Option Addr) (l:List α) (c:Nat),v = .slice A l.length c/\RdSl w A c en sz l/\∀ a∈l,ok a:=by
 obtain⟨A,l,c,h1,h2,h3,h4⟩:=Zk2 ht (fun(a:α) cs=>cs=en a/\ok a) he h
 refine⟨A,l,c,h1,⟨h2,h3,fun k a hk=>?_⟩,fun a ha=>?_⟩
 ·obtain⟨h5,cs,⟨rfl,_⟩,h6⟩:=h4 k a hk
  rw[hsz]at h6
  exact⟨h5,h6⟩
 ·obtain⟨k,hk⟩:=List.getElem?_of_mem ha
  obtain⟨_,_,⟨_,h5⟩,_⟩:=h4 k a hk
  exact h5
end
theorem Zbs {α:Type}{l:List α}{k:Nat}(h:l.length=k+1):∃ a r,l=a::r/\r.length=k:=by
 cases l with
 | nil=>simp at h
 | cons a r=>exact⟨a,r,rfl,by simpa using h⟩
def inR (k:IntKind)(n:Int):Prop:=k.min<=n/\n<=k.max
theorem ZeT {k:IntKind}{n:Int}(h:(Lit.int k n).wf=true):inR k n:=by
 simpa[Lit.wf,inR] using h
theorem Zkn {n:Int}:inR .u8 n↔0<=n/\n<=255:=Iff.rfl
theorem ZxC {n:Int}:inR .i8 n↔-128<=n/\n<=127:=Iff.rfl
section
variable {P:Program}{n:Nat}{wr:World}{fr:Fr}{O:List It}{ty:TypeId}
theorem Pu_conv64 {t t':TypeId}{x:Operand}{kk:IntKind}{i:Int}{sz:Nat}{ag:Bool}[Ty P t sz ag][IntT P t' .i64](hx:ev fr x=some (.int kk i))(h : -9223372036854775808<=i/\i<=9223372036854775807):Pu P n wr fr O (.convert t t' x) ty (.int .i64 i):=by
 have:=Pu_convI (P:=P) (n:=n) (wr:=wr) (O:=O) (ty:=ty) (t:=t) (t':=t') hx
 rwa[ZbB h]at this
theorem Pu_remE {t t':TypeId}{x y:Operand}{kk:IntKind}{i j:Int}(hx:ev fr x=some (.int kk i))(hy:ev fr y=some (.int kk j))(h0:0<=i)(hj:0<j):Pu P n wr fr O (.binOp .rem t x y t') ty (.int kk (i % j)):=by
 have:=Pu_rem (P:=P) (n:=n) (wr:=wr) (O:=O) (ty:=ty) (t:=t) (t':=t') hx hy (by omega)
 rwa[Int.tmod_eq_emod_of_nonneg h0]at this
theorem ZsO {i j M:Int}(h0:0<=i)(h1:i<=M)(hj:0<j):0<=i / j/\i / j<=M:=by
 have h2:0<=i / j:=Int.ediv_nonneg h0 (by omega)
 have h3:i / j<=i:=Int.ediv_le_self _ h0
 omega
theorem Pu_quo8 {t t':TypeId}{x y:Operand}{i j:Int}(hx:ev fr x=some (.int .u8 i))(hy:ev fr y=some (.int .u8 j))(h0:0<=i)(h1:i<=255)(hj:0<j):Pu P n wr fr O (.binOp .quo t x y t') ty (.int .u8 (i / j)):=by
 have:=Pu_quo (P:=P) (n:=n) (wr:=wr) (O:=O) (ty:=ty) (t:=t) (t':=t') hx hy (by omega)
 have hq:=ZsO h0 h1 hj
 rwa[Int.tdiv_eq_ediv_of_nonneg h0,show IntKind.u8.wrap (i / j)=i / j from by simp[IntKind.wrap,IntKind.signed,IntKind.bits];omega]at this
theorem Pu_quo16 {t t':TypeId}{x y:Operand}{i j:Int}(hx:ev fr x=some (.int .u16 i))(hy:ev fr y=some (.int .u16 j))(h0:0<=i)(h1:i<=65535)(hj:0<j):Pu P n wr fr O (.binOp .quo t x y t') ty (.int .u16 (i / j)):=by
 have:=Pu_quo (P:=P) (n:=n) (wr:=wr) (O:=O) (ty:=ty) (t:=t) (t':=t') hx hy (by omega)
 have hq:=ZsO h0 h1 hj
 rwa[Int.tdiv_eq_ediv_of_nonneg h0,show IntKind.u16.wrap (i / j)=i / j from by simp[IntKind.wrap,IntKind.signed,IntKind.bits];omega]at this
theorem Pu_quo64 {t t':TypeId}{x y:Operand}{i j:Int}(hx:ev fr x=some (.int .i64 i))(hy:ev fr y=some (.int .i64 j))(h0:0<=i)(h1:i<=9223372036854775807)(hj:0<j):Pu P n wr fr O (.binOp .quo t x y t') ty (.int .i64 (i / j)):=by
 have:=Pu_quo (P:=P) (n:=n) (wr:=wr) (O:=O) (ty:=ty) (t:=t) (t':=t') hx hy (by omega)
 have hq:=ZsO h0 h1 hj
 rwa[Int.tdiv_eq_ediv_of_nonneg h0,ZbB (by omega)]at this
theorem sliceZ_len (len sz:Nat)(z:List Value):(Zcz len sz z).length=len*sz:=by simp[Zcz]
def Zii:List Value->List ByteArray
 | []=>[]
 | .string s::l=>s::Zii l
 | _::l=>Zii l
theorem Pu_loadLit {t sz b j bt:Nat}{x:Operand}{cs:List Value}{R:List It}[Ty P t sz false](hx:ev fr x=some (.pointer (some ((adr (some ⟨b,0,none⟩)).add (j*1)))))(hp:Pick (.blk b cs bt) O R)(hcs:(Zii cs).map Value.string=cs)(hj:j<cs.length) :
  Pu P n wr fr O (.load t x) ty (.string ((Zii cs).getD j ByteArray.empty)) :=
 Zep hx fun w _ hO=>by
  have hl:j<(Zii cs).length:=by rw[<- hcs]at hj;simpa using hj
  have hc:cs[j]?=some (.string ((Zii cs).getD j ByteArray.empty)):=by
   generalize Zii cs=L at hcs hl
   subst hcs
   simp[hl]
  rw[show(adr (some (⟨b,0,none⟩:Addr))).add (j*1)=⟨b,0+j,none⟩ from by rw[Nat.mul_one];exact Zcd b 0 j,ZcU (hO.of hp),Nat.zero_add,hc]
end
inductive Nf:List Value->List Value->Prop
 | nil:Nf [] []
 | cons {x:Value} {l l':List Value}:Nf l l'->Nf (x::l) (x::l')
theorem Nf.eq {l l':List Value}(h:Nf l l'):l=l':=by
 induction h with
 | nil=>rfl
 | cons _ ih=>rw[ih]
inductive SetAt:List Value->Nat->Value->List Value->Prop
 | here {x v:Value} {l:List Value}:SetAt (x::l) 0 v (v::l)
 | there {x v:Value} {j:Nat} {l l':List Value}:SetAt l j v l'->SetAt (x::l) (j+1) v (x::l')
theorem SetAt.eq {l l':List Value}{j:Nat}{v:Value}(h:SetAt l j v l'):l.set j v=l':=by
 induction h with
 | here=>rfl
 | there _ ih=>rw[List.set_cons_succ,ih]
inductive Lay:List Value->Nat->List Value->List Value->Prop
 | nil {cs:List Value} {j:Nat}:Lay cs j [] cs
 | cons {cs cs1 cs2 vs:List Value} {j:Nat} {v:Value}:SetAt cs j v cs1->Lay cs1 (j+1) vs cs2->Lay cs j (v::vs) cs2
theorem Lay.eq {cs cs' vs:List Value}{j:Nat}(h:Lay cs j vs cs'):lay cs j vs=cs':=by
 induction h with
 | nil=>rfl
 | cons h _ ih=>rw[lay,h.eq,ih]
section
variable {P:Program}{n:Nat}{wr:World}{ops:Array Oper}{fr:Fr}{O:List It}{ty:TypeId}{pos:String}{af:Array Edge}{dst:Option Tmp}{g:Option (Nat × Bool)}{Kp:Value->List It->Prop}
theorem Pu_fieldAddr0 {s f off sz b:Nat}{ag:Bool}{x:Operand}[FieldAt P s f off sz ag](hx:ev fr x=some (.pointer (some ⟨b,0,none⟩))):Pu P n wr fr O (.fieldAddr s x f) ty (.pointer (some ⟨b,off,none⟩)):=by
 have h:=Pu_fieldAddr (P:=P) (n:=n) (wr:=wr) (O:=O) (ty:=ty) (s:=s) (f:=f) hx
 rwa[Zcd,Nat.zero_add]at h
theorem Pu_loadNf {t sz b j:Nat}{x:Operand}{cs vs:List Value}{bt:TypeId}{R:List It}[Ty P t sz true](hx:ev fr x=some (.pointer (some ⟨b,j,none⟩)))(hp:Pick (.blk b cs bt) O R)(hv:Nf ((cs.drop j).take sz) vs)(hl:vs.length=sz):Pu P n wr fr O (.load t x) ty (.agg vs.toArray):=Zjw hx hp hv.eq hl
theorem Pu_fieldNf {s f off sz:Nat}{x:Operand}{cs vs:List Value}[FieldAt P s f off sz true](hx:ev fr x=some (.agg cs.toArray))(hv:Nf ((cs.drop off).take sz) vs):Pu P n wr fr O (.field s x f) ty (.agg vs.toArray):=Zu7 hx hv.eq
theorem Pu_buildNf {t:TypeId}{ps:List (Nat × Operand)}{vs:List (Nat × Value)}{z cs cs':List Value}{ls:List (Nat × Nat)}[ZeroT P t z][LayT P t ls](hx:evpO fr ps=some vs)(hb:bld ls z vs=some cs)(hn:Nf cs cs'):Pu P n wr fr O (.build t ps.toArray) ty (.agg cs'.toArray):=by
 have h:=Zxj (P:=P) (n:=n) (wr:=wr) (O:=O) (ty:=ty) (t:=t) hx hb
 rwa[hn.eq]at h
theorem Stp_storeNf {t sz b j:Nat}{ag:Bool}{x y:Operand}{cs:List Value}{bt:TypeId}{v:Value}{vs cs':List Value}{O':List It}[Ty P t sz ag](hx:ev fr x=some (.pointer (some ⟨b,j,none⟩)))(hy:ev fr y=some v)
  (hu:Upd O (.blk b cs bt) (.blk b cs' bt) O') (hvs:Nf v.cells.toList vs) (hl:vs.length=sz) (h1:vs.all Value.oneCell'=true) (hj:Nat.ble (j+sz) cs.length=true) (hc:Lay cs j vs cs')
  (k:Kp undef O'):Stp P n wr fr O ⟨dst,.store t x y,ty,pos,af,g⟩ Kp:=Zhq hx hy hu hvs.eq hl h1 hj hc.eq k
theorem Stp_boxNf {t:TypeId}{x:Operand}{v:Value}{cs:List Value}(hx:ev fr x=some v)(hn:Nf v.cells.toList cs)(k:∀ b,Kp (.pointer (some ⟨b,0,none⟩)) (.blk b cs t::O)):Stp P n wr fr O ⟨dst,.box t x,ty,pos,af,g⟩ Kp:=ZzM hx (by rw[hn.eq];exact k)
theorem Stp_buildSliceNf {t e sz bytes len:Nat}{z:List Value}{ps:List (Nat × Operand)}{vs:List (Nat × Value)}{cs cs':List Value}[ElemZ P t e sz bytes][ZeroT P e z](hx:evpO fr ps=some vs)(hlen:Nat.ble (len*sz) 16777216=true)
  (hb:bld (places len sz) (Zcz len sz z) vs=some cs) (hn:Nf cs cs') (kk:∀ b,Kp (.slice (some ⟨b,0,none⟩) len len) (.blk b cs' e::O)):Stp P n wr fr O ⟨dst,.buildSlice t len ps.toArray,ty,pos,af,g⟩ Kp:=ZfO hx hlen hb (by rw[hn.eq];exact kk)
theorem Ay_buildSliceNf {t e sz bytes len:Nat}{z:List Value}{ps:List (Nat × Operand)}{vs:List (Nat × Value)}{cs cs':List Value}{d i dd:Nat}[ElemZ P t e sz bytes][ZeroT P e z](hx:evpO fr ps=some vs)(hlen:Nat.ble (len*sz) 16777216=true)
  (hb:bld (places len sz) (Zcz len sz z) vs=some cs) (hn:Nf cs cs'):Ay P n wr ops fr ⟨some d,.buildSlice t len ps.toArray,ty,pos,af,none⟩ ⟨i,dd,fun b => .slice (some ⟨b,0,none⟩) len len,cs',e,fun b => .blk b cs' e⟩:=by
 have h:=ZgS (P:=P) (n:=n) (wr:=wr) (ops:=ops) (fr:=fr) (ty:=ty) (pos:=pos) (af:=af) (t:=t) (d:=d) (i:=i) (dd:=dd) hx hlen hb
 rwa[hn.eq]at h
def Zry (sz:Nat):Nat->List (Nat × Value)->Bool
 | _,[]=>true
 | i,(k,v)::r=>Nat.beq k i&&Nat.beq v.cells.toList.length sz&&Zry sz (i+1) r
def catC:List (Nat × Value)->List Value
 | []=>[]
 | (_,v)::r=>v.cells.toList++catC r
theorem Ztw:∀ (vs pre old post:List Value),old.length=vs.length->lay (pre++(old++post)) pre.length vs=pre++(vs++post)
 | [],pre,old,post,h=>by
  have:old=[]:=List.eq_nil_of_length_eq_zero (by simpa using h)
  simp[lay,this]
 | v::r,pre,[],post,h=>by simp at h
 | v::r,pre,o::old,post,h=>by
  have ih:=Ztw r (pre++[v]) old post (by simpa using h)
  have hs:(pre++(o::old++post)).set pre.length v=(pre++[v])++(old++post):=by simp
  rw[lay,hs]
  simpa using ih
theorem Zum (sz len:Nat):∀ (vs:List (Nat × Value)) (i:Nat) (pre rest:List Value),Zry sz i vs=true->i+vs.length=len->pre.length=i*sz->rest.length=vs.length*sz->bld (places len sz) (pre++rest) vs=some (pre++catC vs)
 | [],i,pre,rest,_,_,_,hr=>by
  have:rest=[]:=List.eq_nil_of_length_eq_zero (by simpa using hr)
  simp[bld,catC,this]
 | (k,v)::r,i,pre,rest,ho,hl,hp,hr=>by
  simp only[Zry,Bool.and_eq_true]at ho
  obtain⟨⟨h1,h2⟩,h3⟩:=ho
  have h1:=Nat.eq_of_beq_eq_true h1
  have h2:=Nat.eq_of_beq_eq_true h2
  subst h1
  simp only[List.length_cons]at hl hr
  have hm:(r.length+1)*sz=r.length*sz+sz:=Nat.succ_mul _ _
  have hk:(places len sz)[k]?=some (k*sz,sz):=by
   unfold places
   rw[List.getElem?_map,List.getElem?_range (by omega)]
   rfl
  have ih:=Zum sz len r (k+1) (pre++v.cells.toList) (rest.drop sz) h3 (by omega) (by rw[List.length_append,hp,h2,Nat.succ_mul]) (by rw[List.length_drop,hr];omega)
  have hrest:rest=rest.take sz++rest.drop sz:=(List.take_append_drop sz rest).symm
  have hlay:lay (pre++rest) (k*sz) v.cells.toList=(pre++v.cells.toList)++rest.drop sz:=by
   rw[<- hp]
   conv=>lhs;rw[hrest]
   rw[Ztw _ _ _ _ (by rw[List.length_take,h2,hr];omega)]
   simp
  simp only[bld,hk]
  have hb:(Nat.beq v.cells.toList.length sz&&Nat.ble (k*sz+sz) (pre++rest).length)=true:=by
   rw[Bool.and_eq_true]
   exact⟨by rw[h2];exact Nat.beq_refl sz,Nat.ble_eq_true_of_le (by rw[List.length_append,hp,hr];omega)⟩
  rw[hb,hlay]
  simp only[cond_true,ih,catC]
  rw[List.append_assoc]
theorem Zun {sz len:Nat}{z:List Value}{vs:List (Nat × Value)}(h1:Zry sz 0 vs=true)(h2:Nat.beq vs.length len=true):bld (places len sz) (Zcz len sz z) vs=some (catC vs):=by
 have h2:=Nat.eq_of_beq_eq_true h2
 have:=Zum sz len vs 0 [] (Zcz len sz z) h1 (by omega) (by simp) (by simp[Zcz,h2])
 simpa using this
theorem Stp_buildSliceC {t e sz bytes len:Nat}{z:List Value}{ps:List (Nat × Operand)}{vs:List (Nat × Value)}{cs':List Value}[ElemZ P t e sz bytes][ZeroT P e z](hx:evpO fr ps=some vs)(hlen:Nat.ble (len*sz) 16777216=true)
  (h1:Zry sz 0 vs=true) (h2:Nat.beq vs.length len=true) (hn:Nf (catC vs) cs') (kk:∀ b,Kp (.slice (some ⟨b,0,none⟩) len len) (.blk b cs' e::O)):Stp P n wr fr O ⟨dst,.buildSlice t len ps.toArray,ty,pos,af,g⟩ Kp:=ZfO hx hlen (Zun h1 h2) (by rw[hn.eq];exact kk)
theorem Ay_buildSliceC {t e sz bytes len:Nat}{z:List Value}{ps:List (Nat × Operand)}{vs:List (Nat × Value)}{cs':List Value}{d i dd:Nat}[ElemZ P t e sz bytes][ZeroT P e z](hx:evpO fr ps=some vs)(hlen:Nat.ble (len*sz) 16777216=true)
  (h1:Zry sz 0 vs=true) (h2:Nat.beq vs.length len=true) (hn:Nf (catC vs) cs'):Ay P n wr ops fr ⟨some d,.buildSlice t len ps.toArray,ty,pos,af,none⟩ ⟨i,dd,fun b => .slice (some ⟨b,0,none⟩) len len,cs',e,fun b => .blk b cs' e⟩:=by
 have h:=ZgS (P:=P) (n:=n) (wr:=wr) (ops:=ops) (fr:=fr) (ty:=ty) (pos:=pos) (af:=af) (t:=t) (d:=d) (i:=i) (dd:=dd) hx hlen (Zun h1 h2)
 rwa[hn.eq]at h
end
end Go.Wk
