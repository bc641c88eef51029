/- Parts of the proof. -/
import Derived.Shelf.SlSortCmp.NoneTotal
import Derived.Test.YtpipekfmecikmaaGreatDoorV15
import Derived.Test.YtpipekfmecikmaaGreatDoorV06
import Derived.Test.YtpipekfmecikmaaGreatDoorV10
import Derived.Test.YtpipekfmecikmaaGreatDoorV09
import Derived.Test.YtpipekfmecikmaaGreatDoorV11
import Derived.Test.YtpipekfmecikmaaGreatDoorV08
import Derived.Test.YtpipekfmecikmaaGreatDoorV07
import Derived.Test.YtpipekfmecikmaaGreatDoorV05
set_option maxHeartbeats 4000000
set_option linter.unusedVariables false
set_option linter.unusedSimpArgs false
namespace Go.Proofs.YtpipekfmecikmaaGreatDoor
open Go Go.RowKit Go.Wk
theorem Zad.len (x:Zad):(Zad.enc x).length=3:=rfl
def Zku (A:Option Addr)(c:Nat)(l:List Zad):It := .row (.slice A l.length c) 91 3 l.length (l.flatMap Zad.enc)
def Zcp (l:List Zad):List Zad:=l.mergeSort fun x y => !ltE y x
theorem Zfb (l:List Zad):(Zcp l).length=l.length:=List.length_mergeSort _
instance : Inhabited Zad:=⟨dEv0⟩
theorem Zo3 (l:List Zad):Go.Sort.flatK Zad.enc 3 l.toArray=(l.flatMap Zad.enc).toArray:=by
 have hfl:=ZbA Zad.len l
 refine Go.Sort.ext_get! (by rw[Go.Sort.size_flatK];simp[hfl]) fun t ht=>?_
 have ht':t<l.toArray.size*3:=by rwa[Go.Sort.size_flatK]at ht
 rw[Go.Sort.get_flatK _ _ _ _ ht']
 have hlt:t / 3<l.length:=by simp at ht';omega
 have h3:t % 3<3:=Nat.mod_lt _ (by decide)
 have hget:=Zao Zad.len l (t / 3) l[t / 3] (t % 3) ((Zad.enc l[t / 3])[t % 3]'h3) (List.getElem?_eq_getElem hlt) (List.getElem?_eq_getElem h3)
 rw[show t / 3*3+t % 3=t by omega]at hget
 rw[getElem!_pos l.toArray (t / 3) (by simpa using hlt)]
 rw[show(l.flatMap Zad.enc).toArray[t]! = (l.flatMap Zad.enc)[t]?.getD default from by simp only[getElem!_def,List.getElem?_toArray];cases (l.flatMap Zad.enc)[t]? <;> rfl]
 rw[hget]
 rw[getElem!_pos (Zad.enc _) (t % 3) (by rw[Zad.len];exact h3)]
 simp
 rfl
theorem ZuO (b:Nat)(l:List Zad)(w:World):CmpLays Tryz.prog 84 #[] Zad.enc 3 ordE b 0 l.toArray.size w :=
 fun m os dk _ x y=>by
  have:=Zqy x y (sortWorldK Zad.enc 3 w b 0 m dk os)
  simpa using this
theorem Zrw (A:Option Addr)(c:Nat)(l:List Zad)(wr:World)(hn:l.length<=1000000000) :
  Zak Tryz.prog 274 [.slice A l.length c,.func (.func 84) #[] #[]] wr [Zku A c l] (fun v O=>v = .tuple #[]/\O=[Zku A c (Zcp l)]):=by
 intro w hB hH
 have hsat:=hH.sat _ (List.mem_singleton.2 rfl)
 obtain⟨hxl,⟨hv,_⟩|⟨b,cap,cur,hval,hb0,hg,hmc,hcm,hsz,hcur⟩⟩:=id hsat
 ·injection hv with h1 h2 h3
  obtain rfl:=List.eq_nil_of_length_eq_zero h2
  subst h1 h3
  refine Calls.mono (AnyF.slices_SortFunc_none Zrv none 0 (.func (.func 84) #[] #[]) w) ?_
  rintro e w' ⟨rfl,rfl⟩
  exact⟨_,_,rfl,hB,hH,rfl,by rw[show Zcp []=[] from by simp[Zcp]]⟩
 injection hval with hA h2 h3
 subst hA h3
 have hbw:b<w.heap.size:=(Array.getElem?_eq_some_iff.1 hg).1
 have hin:=hH.inb _ (List.mem_singleton.2 rfl) b (by simp[It.S,Zku,Value.ownBlock])
 have hfl:=ZbA Zad.len l
 have hcl:l.length*3<=cur.size:=by
  have:=congrArg List.length hcur
  rw[List.length_take,hfl,Array.length_toList]at this
  omega
 have hget:∀ j,j<l.length*3->cur[j]?=(l.flatMap Zad.enc)[j]?:=fun j hj=>by
  rw[<- hcur,List.getElem?_take,if_pos (by omega)]
  simp
 have hHold:Go.Sort.HoldsK Zad.enc 3 w b 0 l.toArray:=fun j hj=>by
  rw[Zo3]at hj ⊢
  have hj':j<l.length*3:=by simpa[hfl] using hj
  have hjl:j<(l.flatMap Zad.enc).length:=by rw[hfl];exact hj'
  refine⟨?_,by simp[World.frozen?,hg]⟩
  rw[Nat.zero_add,show w.cell? ⟨b,j,none⟩=cur[j]? from by simp[World.cell?,hg],hget j hj',List.getElem?_eq_getElem hjl,getElem!_pos _ j (by simpa using hjl)]
  simp
 have h:=AnyQ.slices_SortFunc_total Zrv 3 Tryz.isAgg91 Tryz.sizeOf91 Zad.enc Zad.len (fun x v hv=>by simp[Zad.enc]at hv;rcases hv with rfl|rfl|rfl <;> rfl) ordE swoE 84 #[] b 0 c l.toArray w
  (enters_of Tryz.func84 (by kernel_rfl) rfl) (ZuO b l w) hHold hbw (by simp;omega) totE
 refine Calls.mono h ?_
 rintro e w' ⟨rfl,n,os,rfl⟩
 rw[show(l.toArray.toList.mergeSort fun x y => !(ltOf ordE) y x)=Zcp l from rfl]
 have hlen:=Zfb l
 generalize Zcp l=s at hlen ⊢
 have hfs:=ZbA Zad.len s
 have hsh:(sortWorldK Zad.enc 3 w b 0 n s.toArray os).heap=(w.heap.modify b (Go.Sort.onCells (Go.Sort.putCells id 0 (s.flatMap Zad.enc).toArray)))++os:=by
  unfold sortWorldK Go.Sort.putRowK
  rw[Zo3]
  rfl
 have hold:∀ i,i<w.heap.size->i≠b->(sortWorldK Zad.enc 3 w b 0 n s.toArray os).heap[i]?=w.heap[i]?:=fun i hi hne=>by
  rw[hsh,Array.getElem?_append_left (by simpa using hi),Array.getElem?_modify,if_neg (fun e=>hne e.symm)]
 have hnew:(sortWorldK Zad.enc 3 w b 0 n s.toArray os).heap[b]?=some (.cells (Go.Sort.putCells id 0 (s.flatMap Zad.enc).toArray cur) 91 (0,0)):=by
  rw[hsh,Array.getElem?_append_left (by simpa using hbw),Array.getElem?_modify,if_pos rfl,hg]
  rfl
 have hsize:w.heap.size<=(sortWorldK Zad.enc 3 w b 0 n s.toArray os).heap.size:=by rw[hsh];simp
 have hbel:Bel wr.heap.size wr (sortWorldK Zad.enc 3 w b 0 n s.toArray os) :=
  hB.trans ⟨⟨rfl,rfl,rfl,hsize,fun i hi=>hold i (by have:=hB.size;omega) (by omega)⟩⟩
 refine⟨_,[Zku (some ⟨b,0,none⟩) c s],rfl,hbel,?_,rfl,rfl⟩
 refine hH.upd (A:=Zku (some ⟨b,0,none⟩) c l) .here hB.size hsize (fun i hi hS=>hold i hi (fun e=>hS (by rw[e];simp[It.S,Zku,Value.ownBlock]))) ?_ (fun i hi => .inl hi)
 refine⟨by rw[hfs],.inr ⟨b,c,_,rfl,Nat.zero_le _,hnew,by omega,hcm,?_,?_⟩⟩
 ·simp only[Go.Sort.putCells,Array.size_mapIdx]
  exact hsz
 ·apply List.ext_getElem?
  intro j
  rw[List.getElem?_take]
  by_cases hj:j<s.length*3
  ·rw[if_pos hj]
   have hjc:j<cur.size:=by omega
   have hjs:j<(s.flatMap Zad.enc).length:=by omega
   simp only[Array.getElem?_toList,Go.Sort.putCells,Array.getElem?_mapIdx,Array.getElem?_eq_getElem hjc,Option.map_some,Nat.zero_le,true_and,Nat.zero_add,List.size_toArray,if_pos hjs,Nat.sub_zero]
   rw[List.getElem?_eq_getElem hjs,getElem!_pos _ j (by simpa using hjs)]
   simp
  ·rw[if_neg hj,List.getElem?_eq_none (by omega)]
attribute [local irreducible] W RL Does Zat Zaj retQ Calls Pu Stp RD Qy Ay Zak
structure IG where
 k:Nat
 A:Option Addr
 c:Nat
 m:Nat
 xs:List Value
 acc:List Zad
def ZAm (l:List Zad)(v:Value)(O:List It):Prop:=∃ A c,v = .tuple #[.slice A l.length c,.int .i64 0]/\O=[Zku A c l]
theorem Zy9 {f t:Int}{M:Nat}(hf : -2000000000<=f/\f<=2000000000)(ht:t+1=f+M)(h0:0<M)(hM:M<=1000):decide ((1000:Int)<IntKind.u64.wrap (IntKind.u64.wrap t - IntKind.u64.wrap f))=false:=by
 refine decide_eq_false ?_
 simp[IntKind.wrap,IntKind.signed,IntKind.bits]
 omega
theorem Zvo (A:Option Addr)(c:Nat)(l:List DRule)(f t:Int)(M:Nat)(w:World)(hG:Glob w)(hA:RdSl w A c DRule.enc 11 l)(hn:l.length<=1000000)(hR:∀ r∈l,-4611686018427387904<=r.save/\r.save<=4611686018427387904)
  (hf : -2000000000<=f/\f<=2000000000) (ht:t+1=f+M) (hM0:0<M) (hM:M<=1000) :
  Does Tryz.prog 230 [.slice A l.length c,.int .i64 f,.int .i64 t] w (ZAm (Zcp (allC l (Zah l) f M))):=by
 have e1:decide (t<f)=false:=decide_eq_false (by omega)
 have e2:=Zy9 hf ht hM0 hM
 have hon:=fun(i:Nat) r (hi:l[i]?=some r) y w' (hw:Bel w.heap.size w w')=>Zif A c l i y r w' (hG.up hw) (hA.up hw) hi hn hR
 generalize Zah l=least at *
 obtain⟨res,hres⟩:∃ res,allC l least f M=res:=⟨_,rfl⟩
 rw[hres]
 refine Zaa Tryz.func230 rfl rfl rfl rfl ?_
 repeat (first|(apply RL_pu;rfl;(first|(apply Pu_sub';rfl;rfl;(constructor <;> omega))|(apply Zog;rfl;rfl)|(apply Zaw;rfl;rfl;exact e2)|(apply Zaz;rfl;rfl;exact e1)|(apply Pu_convI;rfl)))|(refine js ?_;(refine bx ?_;intro bk))|refine walk1 ?_)
 refine ZdN 91 3 ?_
 obtain⟨N,hN⟩:∃ N:Int,N=(M:Int):=⟨_,rfl⟩
 rw[show t - f+1=N by omega]
 refine Zai [(0,.slice A l.length c),(1,.int .i64 f),(27,.int .i64 N)] [] (fun g:IG=>[(8,.slice g.A g.m g.c),(28,.int .i64 g.k)]) (fun g=>[.row (.slice g.A g.m g.c) 91 3 g.m g.xs])
  (fun g=>g.k<=M/\g.m=g.acc.length/\g.xs=g.acc.flatMap Zad.enc/\g.m<=g.k*1000000/\g.acc=allC l least f g.k) (fun g=>M - g.k) ⟨0,none,0,0,[],[]⟩ SFA SOA ⟨Nat.zero_le _,rfl,rfl,Nat.le_refl _,rfl⟩ ?_
 rintro⟨k,A1,c1,m,xs,acc⟩ ⟨hk,hm,hx,hmk,hi⟩
 dsimp only at hk hm hx hmk hi ⊢
 repeat (first|(refine js ?_;(refine bx ?_;intro bk))|refine walk ?_)
 refine Zaf rfl (fun hc=>?_) (fun hc=>?_)
 ·have hk2:k<M:=by have:=of_decide_eq_true hc;omega
  obtain⟨nxt,hnxt⟩:∃ nxt,allC l least f (k+1)=nxt:=⟨_,rfl⟩
  have hst:acc++Zcx least (f+k) l 0=nxt:=by rw[<- hnxt,allC,hi]
  repeat (first|(refine js ?_;(refine bx ?_;intro bk))|refine walk ?_)
  refine Zai [(0,.slice A l.length c),(1,.int .i64 f),(27,.int .i64 N),(28,.int .i64 k),(9,.int .i64 k),(31,.slice A l.length c),(32,.int .i64 l.length)] [] (fun g:IG=>[(8,.slice g.A g.m g.c),(33,.int .i64 g.k)]) (fun g=>[.row (.slice g.A g.m g.c) 91 3 g.m g.xs])
   (fun g=>g.k<=l.length/\g.m=g.acc.length/\g.xs=g.acc.flatMap Zad.enc/\g.m<=k*1000000+g.k/\g.acc++Zcx least (f+k) (l.drop g.k) g.k=nxt) (fun g=>l.length - g.k) ⟨0,A1,c1,m,xs,acc⟩ SFA SOA ⟨Nat.zero_le _,hm,hx,Nat.le_trans hmk (Nat.le_add_right _ _),by dsimp only;rw[List.drop_zero];exact hst⟩ ?_
  clear hm hx hmk hi hst hc
  rintro⟨i,A1,c1,m,xs,acc⟩ ⟨hil,hm,hx,hmk,hi⟩
  dsimp only at hil hm hx hmk hi ⊢
  repeat (first|(refine js ?_;(refine bx ?_;intro bk))|refine walk ?_)
  refine Zaf rfl (fun hc=>?_) (fun hc=>?_)
  ·simp only[decide_eq_true_eq,Int.ofNat_lt]at hc
   have ho:=hon i _ (List.getElem?_eq_getElem hc) (f+(k:Int))
   rw[Zag hc,Zcx]at hi
   generalize onR least l[i] i (f+(k:Int))=o at *
   cases o with
   | none =>
    simp only[evV,Zad.enc,dEv0,Option.isSome,Option.toList,List.nil_append]at ho hi
    repeat (first|(refine js ?_;(first|(refine Zab ho ?_)|(refine bx ?_;intro bk)))|refine walk ?_)
    exact⟨⟨i+1,A1,c1,m,xs,acc⟩,OA,⟨OA,hm,hx,OA,hi⟩,SFA,SOA⟩
   | some e =>
    obtain⟨ey,er,en⟩:=e
    simp only[evV,Zad.enc,Option.isSome,Option.toList]at ho hi
    repeat (first|(refine js ?_;(first|(refine Zab ho ?_)|(apply ZaT;rfl;rfl;(intro A' c';(focus repeat' constructor));(intro w' _ hO;exact Zcu (hO.of (by repeat' constructor)));rfl;rfl;(simp only[maxLen];omega);omega;intro A' c' hc1 hc2 hc3)|(refine bx ?_;intro bk)))|refine walk ?_)
    exact⟨⟨i+1,A',c',m+1,xs++[.int .i64 ey,.int .i64 er,.int .i64 en],acc++[⟨ey,er,en⟩]⟩,OA,⟨OA,by simp[hm],by rw[hx];simp[Zad.enc],OA,by rw[<- hi];simp⟩,SFA,SOA⟩
  ·simp only[decide_eq_false_iff_not,Int.ofNat_lt]at hc
   rw[List.drop_eq_nil_of_le (by omega),Zcx,List.append_nil]at hi
   repeat (first|(refine js ?_;(refine bx ?_;intro bk))|refine walk ?_)
   exact⟨⟨k+1,A1,c1,m,xs,acc⟩,OA,⟨OA,hm,hx,OA,hi.trans hnxt.symm⟩,SFA,SOA⟩
 ·obtain rfl:k=M:=by have:=of_decide_eq_false hc;omega
  rw[hres]at hi
  subst hi hm hx
  repeat (first|(refine js ?_;(first|(apply Zgk;rfl;exact Zrw A1 c1 acc w (by omega);exact .refl _;rintro v O' ⟨rfl,rfl⟩)|(refine bx ?_;intro bk)))|refine walk ?_)
  exact ret_2 _ _ [Zku A1 c1 (Zcp acc)] (.tmp rfl) (.tmp rfl) SOA ⟨A1,c1,by rw[Zfb],rfl⟩
theorem Zyl (A:Option Addr)(c:Nat)(l:List DRule)(w:World)(hG:Glob w)(hA:RdSl w A c DRule.enc 11 l)(hn:l.length<=1000000)(hR:∀ r∈l,-4611686018427387904<=r.save/\r.save<=4611686018427387904) :
  Does Tryz.prog 230 [.slice A l.length c,.int .i64 1850,.int .i64 2550] w (ZAm (Zcp (allC l (Zah l) 1850 701))) :=
 Zvo A c l 1850 2550 701 w hG hA hn hR (by omega) (by omega) (by omega) (by omega)
def apV:Option Zad->Value
 | none => .tuple #[.agg (Zad.enc dEv0).toArray,.int .i64 0]
 | some e => .tuple #[.agg (Zad.enc e).toArray,.int .i64 13]
theorem ZnT {l:List Zad}{k:Nat}(h:k+1<l.length):Zct (l.drop k)=if (l[k+1]'h).nominal - (l[k]'(by omega)).nominal<259200 then some (l[k+1]'h) else Zct (l.drop (k+1)):=by
 rw[Zag (show k<l.length by omega),Zag h,Zct]
theorem ZqZ {l:List Zad}{k:Nat}(h:l.length<=k+1):Zct (l.drop k)=none:=by
 by_cases hk:k<l.length
 ·rw[Zag hk,List.drop_eq_nil_of_le h];rfl
 ·rw[List.drop_eq_nil_of_le (by omega)];rfl
theorem Zie {l:List Zad}{k:Nat}(h:k<l.length)(j:Nat)(v:Value)(hj:(Zad.enc l[k])[j]?=some v):(l.flatMap Zad.enc)[k*3+j]?=some v:=Zao Zad.len l k _ j v (List.getElem?_eq_getElem h) hj
def ZkV (e:Zad):Prop := -200000000000000000<=e.nominal/\e.nominal<=200000000000000000
theorem Zj4 (least y:Int)(hl:least<=0):∀ (l:List DRule) (i:Nat),(Zcx least y l i).length<=l.length/\∀ e∈Zcx least y l i,ZkV e
 | [],_=>⟨Nat.le_refl _,fun _ h=>by cases h⟩
 | r::l,i=>by
  obtain⟨h1,h2⟩:=Zj4 least y hl l (i+1)
  have h3:=Zr1 least hl r i y
  simp only[Zcx,List.length_append,List.length_cons,List.mem_append]
  generalize onR least r i y=o at *
  cases o with
  | none=>exact⟨by simp only[Option.toList,List.length_nil];omega,fun e he=>by rcases he with h|h;cases h;exact h2 e h⟩
  | some x=>exact⟨by simp only[Option.toList,List.length_cons,List.length_nil];omega,fun e he=>by
    rcases he with h|h
    ·simp only[Option.toList,List.mem_singleton]at h;subst h;exact h3 _ rfl
    ·exact h2 e h⟩
theorem Zn5 (l:List DRule)(least from_:Int)(hl:least<=0):∀ k,(allC l least from_ k).length<=k*l.length/\∀ e∈allC l least from_ k,ZkV e
 | 0=>⟨Nat.zero_le _,fun _ h=>by cases h⟩
 | k+1=>by
  obtain⟨h1,h2⟩:=Zn5 l least from_ hl k
  obtain⟨h3,h4⟩:=Zj4 least (from_+k) hl l 0
  simp only[allC,List.length_append,List.mem_append,Nat.succ_mul]
  exact⟨by omega,fun e he=>he.elim (h2 e) (h4 e)⟩
theorem ZvE (l:List DRule)(least from_:Int)(hl:least<=0)(hn:l.length<=1000000):(allC l least from_ 701).length<=701000000:=by
 have:=(Zn5 l least from_ hl 701).1
 omega
theorem ZxV {G:Prop}(h:G:=by(apply Zfj;rfl;rfl;exact hmx)):G:=h
theorem ZmL {G:Prop}(h:G:=by(first|(apply Zap;rfl;rfl;omega;omega;(intro w' _ hO;exact(ZaD (hO.of (A := .row (.slice A1 s.length c1) 91 3 s.length (s.flatMap Zad.enc)) (by repeat' constructor)) hg1).1))|(apply Zbt;rfl;(focus repeat' constructor);exact hg1)|(apply Zbt;rfl;(focus repeat' constructor);exact hg2)|(apply ZaS;rfl;(focus repeat' constructor);exact hgn;rfl)|(apply Zaz;rfl;rfl;exact hb))):G:=h
theorem ZwK {G:Prop}(h:G:=by first|(apply Qy_y;rfl;exact ZmL)|exact QyA):G:=h
theorem Zq2 (A:Option Addr)(c:Nat)(l:List DRule)(w:World)(hG:Glob w)(hA:RdSl w A c DRule.enc 11 l)(hn:l.length<=1000000)(hR:∀ r∈l,-4611686018427387904<=r.save/\r.save<=4611686018427387904) :
  Does Tryz.prog 177 [.slice A l.length c] w (fun v O=>v=apV (Zes l)/\O=[]):=by
 have hin:=fun w' (hw:Bel w.heap.size w w')=>Zyl A c l w' (hG.up hw) (hA.up hw) hn hR
 have hle:=(ZhT l hR).2
 have hal:=ZvE l (Zah l) 1850 hle hn
 have hok:=(Zn5 l (Zah l) 1850 hle 701).2
 rw[<- Zmi]
 rw[show((allC l (Zah l) 1850 701).mergeSort fun x y => !ltE y x)=Zcp (allC l (Zah l) 1850 701) from rfl]
 have hsl:=Zfb (allC l (Zah l) 1850 701)
 have hso:∀ e∈Zcp (allC l (Zah l) 1850 701),ZkV e:=fun e he=>hok e (List.mem_mergeSort.1 he)
 generalize Zcp (allC l (Zah l) 1850 701)=s at *
 have hsl2:s.length<=701000000:=by omega
 clear hal hok hsl
 obtain⟨res,hres⟩:∃ res,Zct s=res:=⟨_,rfl⟩
 rw[hres]
 have hmx:(if (s.length:Int) - 1<0 then 0 else (s.length:Int) - 1)=((s.length - 1:Nat):Int):=by split <;> omega
 refine Zaa Tryz.func177 rfl rfl rfl rfl ?_
 repeat (first|(apply RL_pu;rfl;exact ZxV)|(apply RD_Q;rfl;rfl;decide +kernel;rfl;rfl;exact QyEvI1)|refine walk1 ?_|(refine jg ?_;(try intro F);(first|(apply Zae (h:=fun w' hw _=>hin w' hw);rfl;rintro v O' ⟨A1,c1,rfl,rfl⟩)|(refine bx ?_;intro bk)|(refine stA ?_));first|refine⟨_,EndsA,QFEvI1,?_⟩|refine fin ?_)|(refine jn ?_;(try intro F);(first|(refine bx ?_;intro bk)|(refine stA ?_)|(apply Zac;first|exact ZxV|exact PuA));first|refine⟨_,EndsA,QFEvI1,?_⟩|refine fin ?_)|(apply RD_W;rfl;intro bk))
 have hn1:s.length - 1<=701000000:=by omega
 obtain⟨b2,hb2⟩:∃ b2,bk=b2:=⟨_,rfl⟩
 rw[hb2]
 clear hb2 bk
 refine Zai [(2,.pointer (some ⟨b2,0,none⟩)),(4,.slice A1 s.length c1),(19,.int .i64 (s.length - 1:Nat))] [.row (.slice A1 s.length c1) 91 3 s.length (s.flatMap Zad.enc),.blk b2 [.int .i64 0,.int .i64 0,.int .i64 0] 91] (fun k:Nat=>[(20,.int .i64 k)]) (fun _=>[]) (fun k=>k<=s.length - 1/\Zct (s.drop k)=res) (fun k=>s.length - 1 - k) 0 SFA SOA ⟨Nat.zero_le _,hres⟩ ?_
 rintro k ⟨hk,hi⟩
 repeat (first|refine walk ?_|(refine jn ?_;(try intro F);(first|(refine bx ?_;intro bk)|(refine stA ?_)|(apply Zac;exact PuA));refine fin ?_)|(apply RD_W;rfl;intro bk))
 refine Zaf rfl (fun hc=>?_) (fun hc=>?_)
 ·simp only[decide_eq_true_eq,Int.ofNat_lt]at hc
  have hk1:k+1<s.length:=by omega
  rw[ZnT hk1]at hi
  have hg1:=Zie hk1 2 _ rfl
  have hg2:=Zie (show k<s.length by omega) 2 _ rfl
  have hgn:∀ j v,(Zad.enc s[k+1])[j]?=some v->(s.flatMap Zad.enc)[(k+1)*3+j]?=some v:=fun j v hj=>Zie hk1 j v hj
  have o1:=hso _ (List.getElem_mem hk1)
  have o2:=hso _ (List.getElem_mem (show k<s.length by omega))
  generalize s[k+1]=e1 at *
  generalize s[k]=e2 at *
  obtain⟨y1,r1,n1⟩:=e1
  obtain⟨y2,r2,n2⟩:=e2
  simp only[Zad.enc,ZkV]at hg1 hg2 hgn o1 o2 hi
  have hlen:(s.length:Int)<=701000000:=by omega
  have hkk:(k:Int)+1<s.length:=by omega
  by_cases h3:n1 - n2<259200
  ·rw[if_pos h3]at hi
   subst hi
   have hb:decide (n1 - n2<259200)=true:=decide_eq_true h3
   repeat (first|(apply RL_pu;rfl;exact ZmL)|(apply RD_Q;rfl;rfl;decide +kernel;rfl;rfl;exact ZwK)|refine walk1 ?_|(refine jn ?_;(try intro F);(first|(refine bx ?_;intro bk)|(refine stA ?_)|(apply Zac;first|exact ZmL|exact PuA));first|refine⟨_,EndsA,QFEvI2,?_⟩|refine fin ?_)|(apply RD_W;rfl;intro bk))
   exact rtC
  ·rw[if_neg h3]at hi
   have hb:decide (n1 - n2<259200)=false:=decide_eq_false h3
   repeat (first|(apply RL_pu;rfl;exact ZmL)|(apply RD_Q;rfl;rfl;decide +kernel;rfl;rfl;exact ZwK)|refine walk1 ?_|(refine jn ?_;(try intro F);(first|(refine bx ?_;intro bk)|(refine stA ?_)|(apply Zac;first|exact ZmL|exact PuA));first|refine⟨_,EndsA,QFEvI2,?_⟩|refine fin ?_)|(apply RD_W;rfl;intro bk))
   exact⟨k+1,OA,⟨OA,hi⟩,SFA,SOA⟩
 ·simp only[decide_eq_false_iff_not,Int.ofNat_lt]at hc
  rw[ZqZ (show s.length<=k+1 by omega)]at hi
  subst hi
  repeat (first|refine walk ?_|(refine jn ?_;(try intro F);(first|(refine bx ?_;intro bk)|(refine stA ?_)|(apply Zac;exact PuA));refine fin ?_)|(apply RD_W;rfl;intro bk))
  exact rtC
def Zny (z:DZone):Bool:=decide (60<z.eras.length)
theorem ZlU {α:Type}(p:α->Bool):∀ (l:List α) (k:Nat),ZbL p l k=match l.findIdx? p with|some i=>((k+i:Nat):Int)|none => -1
 | [],_=>rfl
 | x::l,k=>by
  rw[ZbL,List.findIdx?_cons]
  by_cases h:p x=true
  ·rw[if_pos h,if_pos h];rfl
  ·rw[if_neg h,if_neg h,ZlU p l (k+1)]
   cases l.findIdx? p with
   | none=>rfl
   | some i=>simp only[Option.map_some];congr 1;omega
theorem Zm1 (n:ByteArray)(A:Option Addr)(m c:Nat)(w:World):Does Tryz.prog 173 [.agg #[.string n,.slice A m c]] w (fun v O=>v = .bool (decide (60<m))/\O=[]):=by
 have hb:decide ((60:Int)<(m:Int))=decide (60<m):=by rw[decide_eq_decide];omega
 refine Zaa Tryz.func173 rfl rfl rfl rfl ?_
 repeat (first|(apply RL_pu;rfl;(apply Zaw;rfl;rfl;exact hb))|(refine js ?_;(refine bx ?_;intro bk))|refine walk1 ?_)
 exact rtA
theorem ZnF (Ar Az Al As:Option Addr)(cr cz cl cs:Nat)(a:DSource)(w:World)(hA:Zar w Ar Az Al As cr cz cl cs a)(hn:a.zones.length<=1000000) :
  Does Tryz.prog 172 [.slice Az a.zones.length cz,.func (.func 173) #[] #[]] w (fun v O=>v = .int .i64 (ZbL Zny a.zones 0)/\O=[]):=by
 obtain⟨res,hres⟩:∃ res,ZbL Zny a.zones 0=res:=⟨_,rfl⟩
 rw[hres]
 refine Zaa Tryz.func172 rfl rfl rfl rfl ?_
 repeat (first|refine walk ?_)
 refine Zai [(0,.slice Az a.zones.length cz),(1,.func (.func 173) #[] #[]),(7,.int .i64 a.zones.length)] [] (fun k:Nat=>[(8,.int .i64 k)]) (fun _=>[]) (fun k=>k<=a.zones.length/\ZbL Zny (a.zones.drop k) k=res) (fun k=>a.zones.length - k) 0 SFA .nil ⟨Nat.zero_le _,hres⟩ ?_
 rintro k ⟨hk,hi⟩
 repeat (first|refine walk ?_)
 refine Zaf rfl (fun hc=>?_) (fun hc=>?_)
 ·simp only[decide_eq_true_eq,Int.ofNat_lt]at hc
  obtain⟨hna,cs1,⟨Ae,ce,_,rfl⟩,hca⟩:=hA.z k _ (List.getElem?_eq_getElem hc)
  rw[Zag hc,ZbL]at hi
  generalize a.zones[k]=z at *
  have h1:∀ w',Does Tryz.prog 173 ([]++[.agg #[.string z.name,.slice Ae z.eras.length ce]]++[]) w' (fun v O=>v = .bool (decide (60<z.eras.length))/\O=[]):=fun w'=>Zm1 z.name Ae z.eras.length ce w'
  rw[show decide (60<z.eras.length)=Zny z from rfl]at h1
  generalize Zny z=mb at *
  cases mb with
  | true =>
   rw[if_pos rfl]at hi
   subst hi
   repeat (first|(apply RL_pu;rfl;exact PuI)|(refine js ?_;(refine ZfI (fun w' hw _=>h1 w') ?_))|refine walk1 ?_)
   exact rtA
  | false =>
   rw[if_neg (by decide)]at hi
   repeat (first|(apply RL_pu;rfl;exact PuI)|(refine js ?_;(refine ZfI (fun w' hw _=>h1 w') ?_))|refine walk1 ?_)
   exact⟨k+1,OA,⟨OA,hi⟩,SFA,.nil⟩
 ·simp only[decide_eq_false_iff_not,Int.ofNat_lt]at hc
  rw[List.drop_eq_nil_of_le (by omega),ZbL]at hi
  subst hi
  repeat (first|refine walk ?_)
  exact rtA
theorem ZuC {G:Prop}(h:G:=by(apply Zaw;rfl;rfl;exact b1)):G:=h
theorem Zoy {G:Prop}(h:G:=by(first|exact ZuC|(apply Zaw;rfl;rfl;exact b2))):G:=h
theorem ZuB {G:Prop}(h:G:=by(first|exact Zoy|(apply Zaw;rfl;rfl;exact b3))):G:=h
theorem ZuA {G:Prop}(h:G:=by(first|exact ZuB|(apply Zaw;rfl;rfl;exact b4))):G:=h
theorem Zp8 (Ar Az Al As:Option Addr)(cr cz cl cs:Nat)(a:DSource)(w:World)(hA:Zar w Ar Az Al As cr cz cl cs a)(hn:a.zones.length<=1000000) :
  Does Tryz.prog 113 [srcV Ar Az Al As cr cz cl cs a] w (fun v O=>v=ptV (ZdS a)/\O=[]):=by
 have hix:=fun w' (hw:Bel w.heap.size w w')=>ZnF Ar Az Al As cr cz cl cs a w' (hA.up hw) hn
 rw[ZlU]at hix
 unfold ZdS
 rw[show(fun z:DZone=>decide (60<z.eras.length))=Zny from rfl]
 generalize a.zones.findIdx? Zny=fi at *
 refine Zaa Tryz.func113 rfl rfl rfl rfl ?_
 by_cases h1:2000<a.rules.length
 ·have b1:decide ((2000:Int)<a.rules.length)=true:=decide_eq_true (by omega)
  rw[if_pos h1]
  repeat (first|(apply RL_pu;rfl;exact ZuC)|(refine js ?_;(refine bx ?_;intro bk))|refine walk1 ?_)
  exact rtC
 have b1:decide ((2000:Int)<a.rules.length)=false:=decide_eq_false (by omega)
 rw[if_neg h1]
 by_cases h2:500<a.zones.length
 ·have b2:decide ((500:Int)<a.zones.length)=true:=decide_eq_true (by omega)
  rw[if_pos h2]
  repeat (first|(apply RL_pu;rfl;exact Zoy)|(refine js ?_;(refine bx ?_;intro bk))|refine walk1 ?_)
  exact rtC
 have b2:decide ((500:Int)<a.zones.length)=false:=decide_eq_false (by omega)
 rw[if_neg h2]
 cases fi with
 | some i =>
  dsimp only at hix ⊢
  rw[Nat.zero_add]at hix
  have b3:decide ((0:Int)<=(i:Int))=true:=decide_eq_true (by omega)
  repeat (first|(apply RL_pu;rfl;(first|exact Zoy|(apply Zb6;rfl;rfl;exact b3)))|(refine js ?_;(first|(refine Zab hix ?_)|(refine bx ?_;intro bk)))|refine walk1 ?_)
  exact rtC
 | none =>
  dsimp only at hix ⊢
  by_cases h3:1000<a.links.length
  ·have b3:decide ((1000:Int)<a.links.length)=true:=decide_eq_true (by omega)
   rw[if_pos h3]
   repeat (first|(apply RL_pu;rfl;exact ZuB)|(refine js ?_;(first|(refine Zab hix ?_)|(refine bx ?_;intro bk)))|refine walk1 ?_)
   exact rtC
  have b3:decide ((1000:Int)<a.links.length)=false:=decide_eq_false (by omega)
  rw[if_neg h3]
  by_cases h4:2000<a.shifts.length
  ·have b4:decide ((2000:Int)<a.shifts.length)=true:=decide_eq_true (by omega)
   rw[if_pos h4]
   repeat (first|(apply RL_pu;rfl;exact ZuA)|(refine js ?_;(first|(refine Zab hix ?_)|(refine bx ?_;intro bk)))|refine walk1 ?_)
   exact rtC
  have b4:decide ((2000:Int)<a.shifts.length)=false:=decide_eq_false (by omega)
  rw[if_neg h4]
  repeat (first|(apply RL_pu;rfl;exact ZuA)|(refine js ?_;(first|(refine Zab hix ?_)|(refine bx ?_;intro bk)))|refine walk1 ?_)
  exact rtC
theorem ZnA (Ar Az Al As:Option Addr)(cr cz cl cs:Nat)(a:DSource)(w:World)(hA:Zar w Ar Az Al As cr cz cl cs a)(hS:ZcK a) :
  Does Tryz.prog 116 [srcV Ar Az Al As cr cz cl cs a] w (fun v O=>v=ptV (ZcV a)/\O=[]):=by
 have h:=fun w' (hw:Bel w.heap.size w w')=>ZqC Ar Az Al As cr cz cl cs a w' (hA.up hw) hS
 refine Zaa Tryz.func116 rfl rfl rfl rfl ?_
 generalize ZcV a=o at *
 cases o with
 | none =>
  simp only[ptV,plV,Zaq.enc]at h ⊢
  repeat (first|(refine js ?_;(first|(refine Zab h ?_)|(refine bx ?_;intro bk)))|refine walk ?_)
  exact rtC
 | some pe =>
  obtain⟨⟨p1,p2,p3⟩,e⟩:=pe
  simp only[ptV,plV,Zaq.enc]at h ⊢
  repeat (first|(refine js ?_;(first|(refine Zab h ?_)|(refine bx ?_;intro bk)))|refine walk ?_)
  exact rtC
structure RlG where
 k:Nat
 i:Nat
theorem Zhw (x:ByteArray)(r:DRule)(l:List DRule)(i k:Nat):ZbN x (r::l) i k=if r.name=x then (match i with|0=>⟨1,k,0⟩|i+1=>ZbN x l i (k+1)) else ZbN x l i (k+1):=by cases i <;> rfl
theorem Zi1 (x:ByteArray)(i k:Nat):ZbN x [] i k=⟨0,0,0⟩:=by cases i <;> rfl
theorem Zox {G:Prop}(h:G:=by(first|exact PuI|(apply Zcc;rfl;rfl;exact hb))):G:=h
theorem ZrC (Ar Az Al As:Option Addr)(cr cz cl cs:Nat)(a:DSource)(x:ByteArray)(i:Nat)(w:World)(hA:Zar w Ar Az Al As cr cz cl cs a)(hn:a.rules.length<=1000000)(hi:i<=1000000) :
  Does Tryz.prog 178 [srcV Ar Az Al As cr cz cl cs a,.string x,.int .i64 i] w (fun v O=>v=plV (ZbN x a.rules i 0)/\O=[]):=by
 obtain⟨res,hres⟩:∃ res,ZbN x a.rules i 0=res:=⟨_,rfl⟩
 rw[hres]
 refine Zaa Tryz.func178 rfl rfl rfl rfl ?_
 repeat (first|(refine js ?_;(refine bx ?_;intro bk))|refine walk ?_)
 obtain⟨b6,hb6⟩:∃ b6,bk=b6:=⟨_,rfl⟩
 rw[hb6]
 clear hb6 bk
 refine Zai [(1,.string x),(6,.pointer (some ⟨b6,0,none⟩)),(11,.slice Ar a.rules.length cr),(12,.int .i64 a.rules.length)] [.blk b6 [.int .i64 0,.int .i64 0,.int .i64 0] 138] (fun g:RlG=>[(2,.int .i64 g.i),(13,.int .i64 g.k)]) (fun _=>[]) (fun g=>g.k<=a.rules.length/\g.i<=1000000/\ZbN x (a.rules.drop g.k) g.i g.k=res) (fun g=>a.rules.length - g.k) ⟨0,i⟩ SFA SOA ⟨Nat.zero_le _,hi,hres⟩ ?_
 clear hi hres
 rintro⟨k,i⟩ ⟨hk,hi6,hi⟩
 dsimp only at hk hi6 hi ⊢
 repeat (first|(refine js ?_;(refine bx ?_;intro bk))|refine walk ?_)
 refine Zaf rfl (fun hc=>?_) (fun hc=>?_)
 ·simp only[decide_eq_true_eq,Int.ofNat_lt]at hc
  obtain⟨hna,hca⟩:=hA.r.rd k _ (List.getElem?_eq_getElem hc)
  rw[Zag hc,Zhw]at hi
  generalize a.rules[k]=r at *
  by_cases hx:r.name=x
  ·have hb:(!decide (r.name=x))=false:=by rw[decide_eq_true hx];rfl
   rw[if_pos hx]at hi
   cases i with
   | zero =>
    dsimp only at hi
    subst hi
    repeat (first|(apply RL_pu;rfl;exact Zox)|(refine js ?_;(refine bx ?_;intro bk))|refine walk1 ?_)
    exact ret_1 _ [] (.cellB rfl (by repeat' constructor) rfl rfl) .nil ⟨rfl,rfl⟩
   | succ i =>
    dsimp only at hi
    have hb2:decide (((i+1:Nat):Int)=0)=false:=decide_eq_false (by omega)
    repeat (first|(apply RL_pu;rfl;(first|exact Zox|(apply Zan;rfl;rfl;exact hb2)))|(refine js ?_;(refine bx ?_;intro bk))|refine walk1 ?_)
    rw[show((i+1:Nat):Int) - 1=(i:Int) by omega]
    exact⟨⟨k+1,i⟩,OA,⟨OA,OA,hi⟩,SFA,SOA⟩
  ·have hb:(!decide (r.name=x))=true:=by rw[decide_eq_false hx];rfl
   rw[if_neg hx]at hi
   repeat (first|(apply RL_pu;rfl;exact Zox)|(refine js ?_;(refine bx ?_;intro bk))|refine walk1 ?_)
   exact⟨⟨k+1,i⟩,OA,⟨OA,OA,hi⟩,SFA,SOA⟩
 ·simp only[decide_eq_false_iff_not,Int.ofNat_lt]at hc
  rw[List.drop_eq_nil_of_le (by omega),Zi1]at hi
  subst hi
  repeat (first|(refine js ?_;(refine bx ?_;intro bk))|refine walk ?_)
  exact ret_1 _ [] (.cellB rfl (by repeat' constructor) rfl rfl) .nil ⟨rfl,rfl⟩
theorem ZeJ:∀ (l:List DRule) (acc:List ByteArray) (x:ByteArray),x∈Zbv l acc->x∈acc\/∃ r∈l,r.name=x
 | [],acc,x,h => .inl h
 | r::l,acc,x,h=>by
  rw[Zbv]at h
  split at h
  ·rcases ZeJ l acc x h with h|⟨q,hq,e⟩
   ·exact .inl h
   ·exact .inr ⟨q,List.mem_cons_of_mem _ hq,e⟩
  ·rcases ZeJ l _ x h with h|⟨q,hq,e⟩
   ·rcases List.mem_append.1 h with h|h
    ·exact .inl h
    ·simp only[List.mem_singleton]at h;exact .inr ⟨r,List.mem_cons_self,h.symm⟩
   ·exact .inr ⟨q,List.mem_cons_of_mem _ hq,e⟩
theorem ZeK:∀ (l:List DRule) (acc:List ByteArray),(Zbv l acc).length<=acc.length+l.length
 | [],acc=>Nat.le_refl _
 | r::l,acc=>by
  rw[Zbv]
  split
  ·have:=ZeK l acc;simp only[List.length_cons];omega
  ·have:=ZeK l (acc++[r.name]);simp only[List.length_append,List.length_cons,List.length_nil]at this ⊢;omega
theorem ZjG:∀ (l:List Zad) (e:Zad),Zct l=some e->e∈l
 | [],_,h=>by cases h
 | [_],_,h=>by cases h
 | a::b::l,e,h=>by
  rw[Zct]at h
  split at h
  ·simp only[Option.some.injEq]at h;subst h;exact List.mem_cons_of_mem _ List.mem_cons_self
  ·exact List.mem_cons_of_mem _ (ZjG (b::l) e h)
theorem ZiU (least y:Int):∀ (l:List DRule) (i:Nat),∀ e∈Zcx least y l i,∃ j:Nat,e.rule=j/\j<i+l.length
 | [],_=>fun e h=>by cases h
 | r::l,i=>fun e he=>by
  rw[Zcx]at he
  rcases List.mem_append.1 he with h|h
  ·have:onR least r i y=some e:=by
    cases ho:onR least r i y with
    | none=>rw[ho]at h;cases h
    | some x=>rw[ho]at h;simp only[Option.toList,List.mem_singleton]at h;rw[h]
   unfold onR at this
   split at this
   ·cases this
   ·split at this
    ·cases this
    ·simp only[Option.some.injEq]at this
     subst this
     exact⟨i,rfl,by simp⟩
  ·obtain⟨j,h1,h2⟩:=ZiU least y l (i+1) e h
   exact⟨j,h1,by simp only[List.length_cons];omega⟩
theorem Zmk (l:List DRule)(least from_:Int):∀ k,∀ e∈allC l least from_ k,∃ j:Nat,e.rule=j/\j<l.length
 | 0=>fun e h=>by cases h
 | k+1=>fun e he=>by
  rw[allC]at he
  rcases List.mem_append.1 he with h|h
  ·exact Zmk l least from_ k e h
  ·have:=ZiU _ _ _ _ e h
   simpa using this
theorem Zit (l:List DRule)(e:Zad)(h:Zes l=some e):∃ j:Nat,e.rule=j/\j<l.length:=by
 rw[<- Zmi]at h
 exact Zmk _ _ _ _ e (List.mem_mergeSort.1 (ZjG _ _ h))
def Zgl (s:DSource):Prop:=∀ r∈s.rules,(-4611686018427387904<=r.save/\r.save<=4611686018427387904)/\r.from_<=4611686018427387904
theorem Znv {l:List DRule}{x:ByteArray}{r:DRule}(h:r∈ofB l x):r∈l:=(List.mem_filter.1 h).1
def SavI (s:DSource):Prop:=∀ r∈s.rules,-9223372036854775808<=r.save/\r.save<=9223372036854775807
theorem ZdG (least:Int):∀ (l:List DRule) (k:Nat),ZaW least l k=none->∀ r∈l,Zbm r least=0
 | [],_,_,_,h=>by cases h
 | x::l,k,h,r,hr=>by
  rw[ZaW]at h
  by_cases h0:Zbm x least=0
  ·rw[if_pos h0]at h
   rcases List.mem_cons.1 hr with rfl|hr
   ·exact h0
   ·exact ZdG least l (k+1) h r hr
  ·rw[if_neg h0]at h
   cases h
theorem ZrD {r:DRule}{least:Int}(h:Zbm r least=0):(-4611686018427387904<=r.save/\r.save<=4611686018427387904)/\r.from_<=4611686018427387904:=by
 unfold Zbm at h
 split at h
 ·cases h
 ·rename_i h1
  split at h
  ·cases h
  ·split at h
   ·cases h
   ·split at h
    ·cases h
    ·split at h
     ·cases h
     ·rename_i h2
      have e2:(decide (-10800<=r.save)&&decide (r.save<=10800))=true:=by
       cases hh:(decide (-10800<=r.save)&&decide (r.save<=10800)) with
       | true=>rfl
       | false=>exact absurd hh h2
      have e1:Zbj r.from_=true:=by
       cases hh:Zbj r.from_ with
       | true=>rfl
       | false=>rw[hh]at h1;exact absurd rfl h1
      unfold Zbj at e1
      simp only[Bool.and_eq_true,decide_eq_true_eq]at e1 e2
      omega
theorem Zlf {l:List DRule}(h:(Zcq l).2=0):∀ r∈l,(-4611686018427387904<=r.save/\r.save<=4611686018427387904)/\r.from_<=4611686018427387904:=by
 intro r hr
 unfold Zcq at h
 cases hf:ZaW (Zah l) l 0 with
 | none=>exact ZrD (ZdG _ l 0 hf r hr)
 | some x =>
  rw[hf]at h
  exfalso
  have:∀ (l:List DRule) (k:Nat) (x:Nat × Int) (m:Int),ZaW m l k=some x->x.2≠0:=fun l=>by
   induction l with
   | nil=>intro k x m h;cases h
   | cons y l ih =>
    intro k x m h
    rw[ZaW]at h
    split at h
    ·exact ih _ _ _ h
    ·rename_i h0
     simp only[Option.some.injEq]at h
     rw[<- h]
     exact h0
  exact this _ _ _ _ hf h
theorem ZcU:∀ (l:List DRule) (acc:List ByteArray),(∀ x∈acc,x∈Zbv l acc)/\∀ r∈l,r.name∈Zbv l acc
 | [],acc=>⟨fun _ h=>h,fun _ h=>by cases h⟩
 | y::l,acc=>by
  rw[Zbv]
  by_cases hm:memB y.name acc=true
  ·rw[if_pos hm]
   have ih:=ZcU l acc
   refine⟨ih.1,fun r hr=>?_⟩
   rcases List.mem_cons.1 hr with rfl|hr
   ·refine ih.1 _ ?_
    have:∀ (l:List ByteArray) (x:ByteArray),memB x l=true->x∈l:=fun l=>by
     induction l with
     | nil=>intro x h;cases h
     | cons z l ih2 =>
      intro x h
      rw[memB,Bool.or_eq_true,decide_eq_true_eq]at h
      rcases h with rfl|h
      ·exact List.mem_cons_self
      ·exact List.mem_cons_of_mem _ (ih2 x h)
    exact this _ _ hm
   ·exact ih.2 r hr
  ·rw[if_neg hm]
   have ih:=ZcU l (acc++[y.name])
   refine⟨fun x hx=>ih.1 x (List.mem_append_left _ hx),fun r hr=>?_⟩
   rcases List.mem_cons.1 hr with rfl|hr
   ·exact ih.1 _ (List.mem_append_right _ (List.mem_singleton.2 rfl))
   ·exact ih.2 r hr
theorem Zhv (rs:List DRule):∀ l:List ByteArray,Zcr rs l=none->∀ x∈l,(Zcq (ofB rs x)).2=0
 | [],_,_,h=>by cases h
 | y::l,h,x,hx=>by
  rw[Zcr]at h
  cases hf:ZbM rs y with
  | some z=>rw[hf]at h;cases h
  | none =>
   rw[hf]at h
   rcases List.mem_cons.1 hx with rfl|hx
   ·unfold ZbM at hf
    split at hf
    ·cases hf
    ·split at hf
     ·cases hf
     ·rename_i h2
      exact Decidable.of_not_not h2
   ·exact Zhv rs l h x hx
theorem Zk8 {s:DSource}(h:ZeT s=none):Zgl s:=fun r hr =>
 Zlf (Zhv s.rules _ h r.name ((ZcU s.rules []).2 r hr)) r (List.mem_filter.2 ⟨hr,decide_eq_true rfl⟩)
theorem ZhL (l:List DRule)(x:ByteArray):(ofB l x).length<=l.length:=List.length_filter_le _ _
theorem Zh7 (least:Int):∀ (l:List DRule) (i:Nat) (j:Nat) (e:Int),ZaW least l i=some (j,e)->j<i+l.length
 | [],_,_,_,h=>by cases h
 | r::l,i,j,e,h=>by
  rw[ZaW]at h
  split at h
  ·have:=Zh7 least l (i+1) j e h;simp only[List.length_cons];omega
  ·simp only[Option.some.injEq,Prod.mk.injEq]at h;simp only[List.length_cons];omega
theorem ZoN (l:List DRule):(Zcq l).1<=l.length:=by
 unfold Zcq
 split
 ·rename_i x h
  obtain⟨j,e⟩:=x
  have:=Zh7 _ l 0 j e h
  simp only at this ⊢
  omega
 ·repeat' split
  all_goals exact Nat.zero_le _
theorem ZkU {G:Prop}(h:G:=by(first|(apply Zap;rfl;rfl;omega;omega;(intro w' _ hO;exact(ZaD (hO.of (A := .row (.slice An N.length cn) 9 1 N.length (N.flatMap ZaU)) (by repeat' constructor)) hg1).1))|(apply ZbW;rfl;(focus repeat' constructor);exact hg1))):G:=h
theorem ZqB (Ar Az Al As:Option Addr)(cr cz cl cs:Nat)(a:DSource)(w:World)(hG:Glob w)(hA:Zar w Ar Az Al As cr cz cl cs a)(hS:ZcK a)(hV:SavI a) :
  Does Tryz.prog 114 [srcV Ar Az Al As cr cz cl cs a] w (fun v O=>v=ptV (ZeT a)/\O=[]):=by
 have hn:=hS.nr
 have hnm:=fun w' (hw:Bel w.heap.size w w')=>Zqz Ar Az Al As cr cz cl cs a w' (hA.up hw) hn
 have hNm:=ZeJ a.rules []
 have hNl:=ZeK a.rules []
 unfold ZeT
 generalize Zbv a.rules []=N at *
 simp only[List.length_nil,Nat.zero_add]at hNl
 obtain⟨res,hres⟩:∃ res,Zcr a.rules N=res:=⟨_,rfl⟩
 rw[hres]
 refine Zaa Tryz.func114 rfl rfl rfl rfl ?_
 repeat (first|(refine js ?_;(first|(apply Zae (h:=fun w' hw _=>hnm w' hw);rfl;rintro v O' ⟨An,cn,rfl,rfl⟩)|(refine bx ?_;intro bk)))|refine walk ?_)
 rename_i b1
 obtain⟨b2,hb2⟩:∃ b2,bk=b2:=⟨_,rfl⟩
 rw[hb2]
 clear hb2 bk
 refine Zai [(1,.pointer (some ⟨b1,0,none⟩)),(2,.pointer (some ⟨b2,0,none⟩)),(12,.slice An N.length cn),(13,.int .i64 N.length)] [.row (.slice An N.length cn) 9 1 N.length (N.flatMap ZaU),.blk b2 [.int .i64 0,.int .i64 0,.int .i64 0] 138,.blk b1 [.slice Ar a.rules.length cr,.slice Az a.zones.length cz,.slice Al a.links.length cl,.slice As a.shifts.length cs] 174]
  (fun k:Nat=>[(14,.int .i64 k)]) (fun _=>[]) (fun k=>k<=N.length/\Zcr a.rules (N.drop k)=res) (fun k=>N.length - k) 0 SFA SOA ⟨Nat.zero_le _,hres⟩ ?_
 clear hnm hres
 rintro k ⟨hk,hi⟩
 repeat (first|(refine js ?_;(refine bx ?_;intro bk))|refine walk ?_)
 refine Zaf rfl (fun hc=>?_) (fun hc=>?_)
 ·simp only[decide_eq_true_eq,Int.ofNat_lt]at hc
  have hg1:(N.flatMap ZaU)[k*1]?=some (.string N[k]):=by
   have:=Zao (enc:=ZaU) (fun _=>rfl) N k _ 0 (.string N[k]) (List.getElem?_eq_getElem hc) rfl
   simpa using this
  have hxm:=hNm _ (List.getElem_mem hc)
  rw[Zag hc,Zcr]at hi
  generalize N[k]=x at *
  have hxs:x.size<=1000000000:=by
   rcases hxm with h|⟨r,hr,rfl⟩
   ·cases h
   ·exact(hS.rs r hr).1
  have hof:=fun w' (hw:Bel w.heap.size w w')=>ZgY Ar Az Al As cr cz cl cs a x w' (hA.up hw) hn
  have hset:=fun w'=>ZuQ x (by omega) w'
  have hRs:∀ r∈ofB a.rules x,r∈a.rules:=fun r h=>Znv h
  have hRl:=ZhL a.rules x
  have hck:=fun A3 c3 w' (hw:Bel w.heap.size w w') h=>Zle A3 c3 (ofB a.rules x) w' (hG.up hw) h (by omega) (fun r hr=>⟨hV r (hRs r hr),by have:=(hS.rs r (hRs r hr)).2;omega⟩)
  have hap:=fun(hz:(Zcq (ofB a.rules x)).2=0) A3 c3 w' (hw:Bel w.heap.size w w') h=>Zq2 A3 c3 (ofB a.rules x) w' (hG.up hw) h (by omega) (fun r hr=>(Zlf hz r hr).1)
  have hru0:=fun(i:Nat) (hi:i<=1000000) w' (hw:Bel w.heap.size w w')=>ZrC Ar Az Al As cr cz cl cs a x i w' (hA.up hw) hn hi
  have hcl:=ZoN (ofB a.rules x)
  have har:=Zit (ofB a.rules x)
  unfold ZbM at hi
  generalize ofB a.rules x=R at *
  cases hsb:setB x with
  | false =>
   rw[hsb]at hi hset
   rw[if_pos rfl]at hi
   dsimp only at hi
   have hru:=hru0 0 (Nat.zero_le _)
   generalize ZbN x a.rules 0 0=pl at *
   obtain⟨p1,p2,p3⟩:=pl
   simp only[plV,Zaq.enc]at hru
   subst hi
   simp only[ptV,plV,Zaq.enc]
   repeat (first|(apply RL_pu;rfl;exact ZkU)|(refine js ?_;(first|(apply Zae (h:=fun w' hw _=>hof w' hw);rfl;rintro v O' ⟨A3,c3,rfl,rfl⟩)|(refine Zab (fun w' hw=>hset w') ?_)|(refine Zab hru ?_)|(refine bx ?_;intro bk)))|refine walk1 ?_)
   exact rtC
  | true =>
   rw[hsb]at hi hset
   rw[if_neg (by decide)]at hi
   generalize Zcq R=rc at *
   obtain⟨ci,ce⟩:=rc
   dsimp only at hi hck hcl hap
   by_cases hce:ce=0
   ·subst hce
    replace hap:=hap rfl
    rw[if_neg (fun h=>h rfl)]at hi
    generalize Zes R=ap at *
    cases ap with
    | none =>
     simp only[apV,Zad.enc,dEv0]at hap
     dsimp only at hi
     repeat (first|(apply RL_pu;rfl;exact ZkU)|(refine js ?_;(first|(apply Zae (h:=fun w' hw _=>hof w' hw);rfl;rintro v O' ⟨A3,c3,rfl,rfl⟩)|(refine Zab (fun w' hw=>hset w') ?_)|(refine ZaM (fun w' hw hO=>hck A3 c3 w' hw (ZaX DRule.len (hO.of (A := .row (.slice A3 R.length c3) 68 11 R.length (R.flatMap DRule.enc)) (by repeat' constructor)))) ?_)|(refine ZaM (fun w' hw hO=>hap A3 c3 w' hw (ZaX DRule.len (hO.of (A := .row (.slice A3 R.length c3) 68 11 R.length (R.flatMap DRule.enc)) (by repeat' constructor)))) ?_)|(refine bx ?_;intro bk)))|refine walk1 ?_)
     exact⟨k+1,OA,⟨OA,hi⟩,SFA,SOA⟩
    | some e =>
     obtain⟨j,hj,hjl⟩:=har e rfl
     obtain⟨ey,er,en⟩:=e
     dsimp only at hj
     subst hj
     simp only[apV,Zad.enc]at hap
     simp only[Int.toNat_natCast]at hi
     have hru:=hru0 j (by omega)
     generalize ZbN x a.rules j 0=pl at *
     obtain⟨p1,p2,p3⟩:=pl
     simp only[plV,Zaq.enc]at hru
     subst hi
     simp only[ptV,plV,Zaq.enc]
     repeat (first|(apply RL_pu;rfl;exact ZkU)|(refine js ?_;(first|(apply Zae (h:=fun w' hw _=>hof w' hw);rfl;rintro v O' ⟨A3,c3,rfl,rfl⟩)|(refine Zab (fun w' hw=>hset w') ?_)|(refine ZaM (fun w' hw hO=>hck A3 c3 w' hw (ZaX DRule.len (hO.of (A := .row (.slice A3 R.length c3) 68 11 R.length (R.flatMap DRule.enc)) (by repeat' constructor)))) ?_)|(refine ZaM (fun w' hw hO=>hap A3 c3 w' hw (ZaX DRule.len (hO.of (A := .row (.slice A3 R.length c3) 68 11 R.length (R.flatMap DRule.enc)) (by repeat' constructor)))) ?_)|(refine Zab hru ?_)|(refine bx ?_;intro bk)))|refine walk1 ?_)
     exact rtC
   ·rw[if_pos hce]at hi
    dsimp only at hi
    have hb:decide (ce=0)=false:=decide_eq_false hce
    have hb2:(!decide (ce=0))=true:=by rw[hb];rfl
    have hru:=hru0 ci (by omega)
    generalize ZbN x a.rules ci 0=pl at *
    obtain⟨p1,p2,p3⟩:=pl
    simp only[plV,Zaq.enc]at hru
    subst hi
    simp only[ptV,plV,Zaq.enc]
    repeat (first|(apply RL_pu;rfl;(first|exact ZkU|(apply Zan;rfl;rfl;exact hb)|(apply Zal;rfl;rfl;exact hb2)))|(refine js ?_;(first|(apply Zae (h:=fun w' hw _=>hof w' hw);rfl;rintro v O' ⟨A3,c3,rfl,rfl⟩)|(refine Zab (fun w' hw=>hset w') ?_)|(refine ZaM (fun w' hw hO=>hck A3 c3 w' hw (ZaX DRule.len (hO.of (A := .row (.slice A3 R.length c3) 68 11 R.length (R.flatMap DRule.enc)) (by repeat' constructor)))) ?_)|(refine Zab hru ?_)|(refine bx ?_;intro bk)))|refine walk1 ?_)
    exact rtC
 ·simp only[decide_eq_false_iff_not,Int.ofNat_lt]at hc
  rw[List.drop_eq_nil_of_le (by omega),Zcr]at hi
  subst hi
  repeat (first|(refine js ?_;(refine bx ?_;intro bk))|refine walk ?_)
  exact rtC
theorem Zze {α:Type}{w:World}{A:Option Addr}{c sz:Nat}{enc:α->List Value}{l:List α}(h:RdSl w A c enc sz l)(k:Nat):RdSl w A c enc sz (l.take k) where
 le:=by have:=h.le;rw[List.length_take];omega
 cap:=h.cap
 rd:=fun j x hj=>h.rd j x (by
  rw[List.getElem?_take]at hj
  split at hj
  ·exact hj
  ·cases hj)
theorem Zuz {G:Prop}(h:G:=by(first|exact PuI|(apply Zan;rfl;rfl;exact hb))):G:=h
theorem Zow {G:Prop}(h:G:=by(first|exact Zuz|(apply Pu_sliceH;rfl;rfl;omega;omega))):G:=h
theorem Zrn {G G':Prop}(k:G')(h:Hold G'->G:=by intro k9;(first|(apply RL_pu;rfl;exact Zow)|(refine js ?_;(first|(refine ZaM (fun w' hw hO=>hot A3 c3 w' (ZaX DRule.len (hO.of (A := .row (.slice A3 R.length c3) 68 11 R.length (R.flatMap DRule.enc)) (by repeat' constructor)))) ?_)|(refine Zab hco ?_)|(refine ZaM (fun w' hw hO=>hle A3 c3 w' (ZaX DRule.len (hO.of (A := .row (.slice A3 R.length c3) 68 11 R.length (R.flatMap DRule.enc)) (by repeat' constructor)))) ?_)))|refine walk1 ?_);exact k9.out):G:=h ⟨k⟩
theorem ZlF (Ar Az Al As:Option Addr)(cr cz cl cs:Nat)(a:DSource)(w:World)(hA:Zar w Ar Az Al As cr cz cl cs a)(hS:ZcK a) :
  Does Tryz.prog 115 [srcV Ar Az Al As cr cz cl cs a] w (fun v O=>v=ptV (ZaZ a a.shifts [] 0)/\O=[]):=by
 have hn:=hS.nr
 have hns:=hS.ns
 have hcap:=hA.s.le
 obtain⟨res,hres⟩:∃ res,ZaZ a a.shifts [] 0=res:=⟨_,rfl⟩
 rw[hres]
 refine Zaa Tryz.func115 rfl rfl rfl rfl ?_
 repeat (first|(refine js ?_;(refine bx ?_;intro bk))|refine walk ?_)
 rename_i b1
 obtain⟨b2,hb2⟩:∃ b2,bk=b2:=⟨_,rfl⟩
 rw[hb2]
 clear hb2 bk
 refine Zai [(1,.pointer (some ⟨b1,0,none⟩)),(2,.pointer (some ⟨b2,0,none⟩)),(12,.slice As a.shifts.length cs),(13,.int .i64 a.shifts.length)] [.blk b2 [.int .i64 0,.int .i64 0,.int .i64 0] 138,.blk b1 [.slice Ar a.rules.length cr,.slice Az a.zones.length cz,.slice Al a.links.length cl,.slice As a.shifts.length cs] 174]
  (fun k:Nat=>[(14,.int .i64 k)]) (fun _=>[]) (fun k=>k<=a.shifts.length/\ZaZ a (a.shifts.drop k) (a.shifts.take k) k=res) (fun k=>a.shifts.length - k) 0 SFA SOA ⟨Nat.zero_le _,hres⟩ ?_
 clear hres
 rintro k ⟨hk,hi⟩
 repeat (first|(refine js ?_;(refine bx ?_;intro bk))|refine walk ?_)
 refine Zaf rfl (fun hc=>?_) (fun hc=>?_)
 ·simp only[decide_eq_true_eq,Int.ofNat_lt]at hc
  obtain⟨hna,hca⟩:=hA.s.rd k _ (List.getElem?_eq_getElem hc)
  have htk:=List.take_append_getElem hc
  have hco:=fun w' (hw:Bel w.heap.size w w')=>Zkz As cs (a.shifts.take k) a.shifts[k] w' ((Zze hA.s k).up hw)
  rw[show(a.shifts.take k).length=k by rw[List.length_take];omega]at hco
  rw[Zag hc,ZaZ]at hi
  rw[htk]at hi
  generalize a.shifts[k]=x at *
  have hof:=fun w' (hw:Bel w.heap.size w w')=>ZgY Ar Az Al As cr cz cl cs a x w' (hA.up hw) hn
  have hot:=fun A3 c3 w' h=>Zjf A3 c3 (ofB a.rules x) w' h
  have hle:=fun A3 c3 w' h=>Zdh A3 c3 (ofB a.rules x) w' h
  generalize ofB a.rules x=R at *
  generalize ZbH R=od at *
  obtain⟨ox,ob⟩:=od
  dsimp only at hi hot
  by_cases hR:R=[]
  ·rw[if_pos hR]at hi
   subst hi
   have hb:decide ((R.length:Int)=0)=true:=by rw[hR];rfl
   simp only[ptV,plV,Zaq.enc]
   repeat (first|(apply RL_pu;rfl;exact Zuz)|(refine js ?_;(first|(apply Zae (h:=fun w' hw _=>hof w' hw);rfl;rintro v O' ⟨A3,c3,rfl,rfl⟩)|(refine ZaM (fun w' hw hO=>hot A3 c3 w' (ZaX DRule.len (hO.of (A := .row (.slice A3 R.length c3) 68 11 R.length (R.flatMap DRule.enc)) (by repeat' constructor)))) ?_)|(refine bx ?_;intro bk)))|refine walk1 ?_)
   exact rtC
  rw[if_neg hR]at hi
  have hb:decide ((R.length:Int)=0)=false:=decide_eq_false (fun h=>hR (List.eq_nil_of_length_eq_zero (by omega)))
  cases hm:memB x (a.shifts.take k) with
  | true =>
   rw[hm]at hi hco
   rw[if_pos rfl]at hi
   subst hi
   simp only[ptV,plV,Zaq.enc]
   repeat (first|(apply RL_pu;rfl;exact Zow)|(refine js ?_;(first|(apply Zae (h:=fun w' hw _=>hof w' hw);rfl;rintro v O' ⟨A3,c3,rfl,rfl⟩)|(refine ZaM (fun w' hw hO=>hot A3 c3 w' (ZaX DRule.len (hO.of (A := .row (.slice A3 R.length c3) 68 11 R.length (R.flatMap DRule.enc)) (by repeat' constructor)))) ?_)|(refine Zab hco ?_)|(refine bx ?_;intro bk)))|refine walk1 ?_)
   exact rtC
  | false =>
   rw[hm]at hi hco
   rw[if_neg (by decide)]at hi
   generalize Zah R=lt at *
   by_cases hl:lt=0
   ·subst hl
    cases ob with
    | false =>
     rw[if_pos (.inr rfl)]at hi
     subst hi
     simp only[ptV,plV,Zaq.enc]
     repeat (first|refine Zrn ?_|(refine js ?_;(first|(apply Zae (h:=fun w' hw _=>hof w' hw);rfl;rintro v O' ⟨A3,c3,rfl,rfl⟩)|(refine bx ?_;intro bk))))
     exact rtC
    | true =>
     rw[if_neg (by rintro(h|h);exact h rfl;cases h)]at hi
     repeat (first|refine Zrn ?_|(refine js ?_;(first|(apply Zae (h:=fun w' hw _=>hof w' hw);rfl;rintro v O' ⟨A3,c3,rfl,rfl⟩)|(refine bx ?_;intro bk))))
     exact⟨k+1,OA,⟨OA,hi⟩,SFA,SOA⟩
   ·rw[if_pos (.inl hl)]at hi
    subst hi
    have hb2:(!decide (lt=0))=true:=by rw[decide_eq_false hl];rfl
    simp only[ptV,plV,Zaq.enc]
    repeat (first|(apply RL_pu;rfl;(first|exact Zow|(apply Zal;rfl;rfl;exact hb2)))|(refine js ?_;(first|(apply Zae (h:=fun w' hw _=>hof w' hw);rfl;rintro v O' ⟨A3,c3,rfl,rfl⟩)|(refine ZaM (fun w' hw hO=>hot A3 c3 w' (ZaX DRule.len (hO.of (A := .row (.slice A3 R.length c3) 68 11 R.length (R.flatMap DRule.enc)) (by repeat' constructor)))) ?_)|(refine Zab hco ?_)|(refine ZaM (fun w' hw hO=>hle A3 c3 w' (ZaX DRule.len (hO.of (A := .row (.slice A3 R.length c3) 68 11 R.length (R.flatMap DRule.enc)) (by repeat' constructor)))) ?_)|(refine bx ?_;intro bk)))|refine walk1 ?_)
    exact rtC
 ·simp only[decide_eq_false_iff_not,Int.ofNat_lt]at hc
  rw[List.drop_eq_nil_of_le (by omega),ZaZ]at hi
  subst hi
  repeat (first|(refine js ?_;(refine bx ?_;intro bk))|refine walk ?_)
  exact rtC
end Go.Proofs.YtpipekfmecikmaaGreatDoor
