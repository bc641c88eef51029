/- Parts of the proof. -/
import Derived.Sort.Grow
import Derived.Deep.Draws
import Derived.Shelf.SlSortCmp.NoneTotal
import Derived.Deep.RegionHeld3
import Derived.Test.YtdlmhmmhdbbliaaGreatDoorV20
import Derived.Test.YtdlmhmmhdbbliaaGreatDoorV22
import Derived.Test.YtdlmhmmhdbbliaaGreatDoorV11
import Derived.Test.YtdlmhmmhdbbliaaGreatDoorV09
import Derived.Test.YtdlmhmmhdbbliaaGreatDoorV17
import Derived.Test.YtdlmhmmhdbbliaaGreatDoorV19
import Derived.Test.YtdlmhmmhdbbliaaGreatDoorV12
set_option maxHeartbeats 4000000
set_option linter.unusedVariables false
set_option linter.unusedSimpArgs false
namespace Go.Proofs.YtdlmhmmhdbbliaaGreatDoor
open Go Go.Shelf Go.Lib Go.RowKit Go.Sort Go.Wk
set_option maxHeartbeats 4000000
theorem Zzt (a b:Int)(w:World):Calls Tryz.prog 94 #[.int .i64 a,.int .i64 b] w fun e w'=>e = .returned (.int .i64 (cmpI a b))/\w'=w:=by
 go_enter Tryz.func94,Tryz.ntmps94
 go_wp2
 all_goals go_ret
 all_goals (unfold cmpI;repeat' split)
 all_goals first|exact⟨rfl,rfl⟩|(exfalso;omega)
theorem ZAJ (a b:Int)(w:World):Calls Tryz.prog 95 #[.int .i64 a,.int .i64 b] w fun e w'=>e = .returned (.int .i64 (cmpI a b))/\w'=w:=by
 go_enter Tryz.func95,Tryz.ntmps95
 go_wp2
 all_goals go_ret
 all_goals (unfold cmpI;repeat' split)
 all_goals first|exact⟨rfl,rfl⟩|(exfalso;omega)
theorem or_l (x y z:Int)(b:Nat)(w:World)(h0:w.cell? ⟨b,0,none⟩=some (.int .i64 x))(h1:w.cell? ⟨b,1,none⟩=some (.int .i64 y))(h2:w.cell? ⟨b,2,none⟩=some (.int .i64 z)) :
  Calls Tryz.prog 93 #[.slice (some ⟨b,0,none⟩) 3 3] w fun e w'=>e = .returned (.int .i64 (ZbX [x,y,z]))/\w'=w:=by
 go_enter Tryz.func93,Tryz.ntmps93
 go_wp2
 refine wp_loop_rounds 4 ?_
 rw[rounds_succ]
 by_cases hx:x=0
 ·subst hx
  go_wp2
  rw[rounds_succ]
  by_cases hy:y=0
  ·subst hy
   go_wp2
   rw[rounds_succ]
   by_cases hz:z=0
   ·subst hz
    go_wp2
    rw[rounds_succ]
    go_wp2
    go_ret
    exact⟨rfl,rfl⟩
   ·go_wp2
    go_ret
    exact⟨by simp[ZbX,hz],rfl⟩
  ·go_wp2
   go_ret
   exact⟨by simp[ZbX,hy],rfl⟩
 ·go_wp2
  go_ret
  exact⟨by simp[ZbX,hx],rfl⟩
attribute [local irreducible] cmpI ZbX
theorem Zrf (a b:Zad)(w:World):Calls Tryz.prog 63 #[.agg (Zad.enc a).toArray,.agg (Zad.enc b).toArray] w fun e w'=>e = .returned (.int .i64 (ordE a b))/\∃ q os',w'=grow (w.drewN q) os':=by
 rw[Zs4]
 obtain⟨y,r,n⟩:=a
 obtain⟨y2,r2,n2⟩:=b
 dsimp only
 have h1:=Zzt
 have h2:=ZAJ
 have h3:=or_l
 simp only[Zad.enc]
 go_enter Tryz.func63,Tryz.ntmps63
 go_wp2_with fail
 go_region_held3 (fun W=>W.cell? ⟨w.heap.size,0,none⟩=some (.int .i64 y)/\W.cell? ⟨w.heap.size,1,none⟩=some (.int .i64 r)/\W.cell? ⟨w.heap.size,2,none⟩=some (.int .i64 n)/\W.cell? ⟨w.heap.size+1,0,none⟩=some (.int .i64 y2)/\W.cell? ⟨w.heap.size+1,1,none⟩=some (.int .i64 r2)/\W.cell? ⟨w.heap.size+1,2,none⟩=some (.int .i64 n2)) (go_keep)
  (first
   | (go_at_call 94;refine(h1 _ _ _).mono ?_;rintro e w' ⟨rfl,rfl⟩)
   | (go_at_call 95;refine(h2 _ _ _).mono ?_;rintro e w' ⟨rfl,rfl⟩)
   | (go_at_call 93;refine(h3 (cmpI n n2) (cmpI r r2) (cmpI y y2) _ _ (by go_simp) (by go_simp) (by go_simp)).mono ?_;rintro e w' ⟨rfl,rfl⟩))
 all_goals (try go_wp2)
 all_goals go_ret
 all_goals exact⟨rfl,1,_,by rw[alloc_eq_grow,alloc_eq_grow,alloc_eq_grow,grow_grow,grow_grow];rfl⟩
end Go.Proofs.YtdlmhmmhdbbliaaGreatDoor
namespace Go.Proofs.YtdlmhmmhdbbliaaGreatDoor
open Go Go.RowKit Go.Wk
theorem Zad.len (x:Zad):(Zad.enc x).length=3:=rfl
def Zm1 (A:Option Addr)(c:Nat)(l:List Zad):It := .row (.slice A l.length c) 92 3 l.length (l.flatMap Zad.enc)
def ZcI (l:List Zad):List Zad:=l.mergeSort fun x y => !ltE y x
theorem ZfT (l:List Zad):(ZcI l).length=l.length:=List.length_mergeSort _
instance : Inhabited Zad:=⟨dEv0⟩
theorem Zqc (l:List Zad):Go.Sort.flatK Zad.enc 3 l.toArray=(l.flatMap Zad.enc).toArray:=by
 have hfl:=Zbf Zad.len l
 refine Go.Sort.ext_get! (by rw[Go.Sort.size_flatK];simp[hfl]) fun t ht=>?_
 have ht':t<l.toArray.size*3:=by rwa[Go.Sort.size_flatK]at ht
 rw[Go.Sort.get_flatK _ _ _ _ ht']
 have hlt:t / 3<l.length:=by simp at ht';omega
 have h3:t % 3<3:=Nat.mod_lt _ (by decide)
 have hget:=ZaF Zad.len l (t / 3) l[t / 3] (t % 3) ((Zad.enc l[t / 3])[t % 3]'h3) (List.getElem?_eq_getElem hlt) (List.getElem?_eq_getElem h3)
 rw[show t / 3*3+t % 3=t by omega]at hget
 rw[getElem!_pos l.toArray (t / 3) (by simpa using hlt)]
 rw[show(l.flatMap Zad.enc).toArray[t]! = (l.flatMap Zad.enc)[t]?.getD default from by simp only[getElem!_def,List.getElem?_toArray];cases (l.flatMap Zad.enc)[t]? <;> rfl]
 rw[hget]
 rw[getElem!_pos (Zad.enc _) (t % 3) (by rw[Zad.len];exact h3)]
 simp
 rfl
theorem Zv9 (b:Nat)(l:List Zad)(w:World):CmpLays Tryz.prog 63 #[] Zad.enc 3 ordE b 0 l.toArray.size w :=
 fun m os dk _ x y=>by
  have:=Zrf x y (sortWorldK Zad.enc 3 w b 0 m dk os)
  simpa using this
theorem ZsE (A:Option Addr)(c:Nat)(l:List Zad)(wr:World)(hn:l.length<=1000000000) :
  Zaj Tryz.prog 214 [.slice A l.length c,.func (.func 63) #[] #[]] wr [Zm1 A c l] (fun v O=>v = .tuple #[]/\O=[Zm1 A c (ZcI l)]):=by
 intro w hB hH
 have hsat:=hH.sat _ (List.mem_singleton.2 rfl)
 obtain⟨hxl,⟨hv,_⟩|⟨b,cap,cur,hval,hb0,hg,hmc,hcm,hsz,hcur⟩⟩:=id hsat
 ·injection hv with h1 h2 h3
  obtain rfl:=List.eq_nil_of_length_eq_zero h2
  subst h1 h3
  refine Calls.mono (AnyF.slices_SortFunc_none ZsD none 0 (.func (.func 63) #[] #[]) w) ?_
  rintro e w' ⟨rfl,rfl⟩
  exact⟨_,_,rfl,hB,hH,rfl,by rw[show ZcI []=[] from by simp[ZcI]]⟩
 injection hval with hA h2 h3
 subst hA h3
 have hbw:b<w.heap.size:=(Array.getElem?_eq_some_iff.1 hg).1
 have hin:=hH.inb _ (List.mem_singleton.2 rfl) b (by simp[It.S,Zm1,Value.ownBlock])
 have hfl:=Zbf Zad.len l
 have hcl:l.length*3<=cur.size:=by
  have:=congrArg List.length hcur
  rw[List.length_take,hfl,Array.length_toList]at this
  omega
 have hget:∀ j,j<l.length*3->cur[j]?=(l.flatMap Zad.enc)[j]?:=fun j hj=>by
  rw[<- hcur,List.getElem?_take,if_pos (by omega)]
  simp
 have hHold:Go.Sort.HoldsK Zad.enc 3 w b 0 l.toArray:=fun j hj=>by
  rw[Zqc]at hj ⊢
  have hj':j<l.length*3:=by simpa[hfl] using hj
  have hjl:j<(l.flatMap Zad.enc).length:=by rw[hfl];exact hj'
  refine⟨?_,by simp[World.frozen?,hg]⟩
  rw[Nat.zero_add,show w.cell? ⟨b,j,none⟩=cur[j]? from by simp[World.cell?,hg],hget j hj',List.getElem?_eq_getElem hjl,getElem!_pos _ j (by simpa using hjl)]
  simp
 have h:=AnyQ.slices_SortFunc_total ZsD 3 Tryz.isAgg92 Tryz.sizeOf92 Zad.enc Zad.len (fun x v hv=>by simp[Zad.enc]at hv;rcases hv with rfl|rfl|rfl <;> rfl) ordE swoE 63 #[] b 0 c l.toArray w
  (enters_of Tryz.func63 (by kernel_rfl) rfl) (Zv9 b l w) hHold hbw (by simp;omega) totE
 refine Calls.mono h ?_
 rintro e w' ⟨rfl,n,os,rfl⟩
 rw[show(l.toArray.toList.mergeSort fun x y => !(ltOf ordE) y x)=ZcI l from rfl]
 have hlen:=ZfT l
 generalize ZcI l=s at hlen ⊢
 have hfs:=Zbf Zad.len s
 have hsh:(sortWorldK Zad.enc 3 w b 0 n s.toArray os).heap=(w.heap.modify b (Go.Sort.onCells (Go.Sort.putCells id 0 (s.flatMap Zad.enc).toArray)))++os:=by
  unfold sortWorldK Go.Sort.putRowK
  rw[Zqc]
  rfl
 have hold:∀ i,i<w.heap.size->i≠b->(sortWorldK Zad.enc 3 w b 0 n s.toArray os).heap[i]?=w.heap[i]?:=fun i hi hne=>by
  rw[hsh,Array.getElem?_append_left (by simpa using hi),Array.getElem?_modify,if_neg (fun e=>hne e.symm)]
 have hnew:(sortWorldK Zad.enc 3 w b 0 n s.toArray os).heap[b]?=some (.cells (Go.Sort.putCells id 0 (s.flatMap Zad.enc).toArray cur) 92 (0,0)):=by
  rw[hsh,Array.getElem?_append_left (by simpa using hbw),Array.getElem?_modify,if_pos rfl,hg]
  rfl
 have hsize:w.heap.size<=(sortWorldK Zad.enc 3 w b 0 n s.toArray os).heap.size:=by rw[hsh];simp
 have hbel:Bel wr.heap.size wr (sortWorldK Zad.enc 3 w b 0 n s.toArray os) :=
  hB.trans ⟨⟨rfl,rfl,rfl,hsize,fun i hi=>hold i (by have:=hB.size;omega) (by omega)⟩⟩
 refine⟨_,[Zm1 (some ⟨b,0,none⟩) c s],rfl,hbel,?_,rfl,rfl⟩
 refine hH.upd (A:=Zm1 (some ⟨b,0,none⟩) c l) .here hB.size hsize (fun i hi hS=>hold i hi (fun e=>hS (by rw[e];simp[It.S,Zm1,Value.ownBlock]))) ?_ (fun i hi => .inl hi)
 refine⟨by rw[hfs],.inr ⟨b,c,_,rfl,Nat.zero_le _,hnew,by omega,hcm,?_,?_⟩⟩
 ·simp only[Go.Sort.putCells,Array.size_mapIdx]
  exact hsz
 ·apply List.ext_getElem?
  intro j
  rw[List.getElem?_take]
  by_cases hj:j<s.length*3
  ·rw[if_pos hj]
   have hjc:j<cur.size:=by omega
   have hjs:j<(s.flatMap Zad.enc).length:=by omega
   simp only[Array.getElem?_toList,Go.Sort.putCells,Array.getElem?_mapIdx,Array.getElem?_eq_getElem hjc,Option.map_some,Nat.zero_le,true_and,Nat.zero_add,List.size_toArray,if_pos hjs,Nat.sub_zero]
   rw[List.getElem?_eq_getElem hjs,getElem!_pos _ j (by simpa using hjs)]
   simp
  ·rw[if_neg hj,List.getElem?_eq_none (by omega)]
attribute [local irreducible] W RL Does Zau Zak retQ Calls Pu Stp RD Qy Ay Zaj
structure IG where
 k:Nat
 A:Option Addr
 c:Nat
 m:Nat
 xs:List Value
 acc:List Zad
def ZBf (l:List Zad)(v:Value)(O:List It):Prop:=∃ A c,v = .tuple #[.slice A l.length c,.int .i64 0]/\O=[Zm1 A c l]
theorem ZAb {f t:Int}{M:Nat}(hf : -2000000000<=f/\f<=2000000000)(ht:t+1=f+M)(h0:0<M)(hM:M<=1000):decide ((1000:Int)<IntKind.u64.wrap (IntKind.u64.wrap t - IntKind.u64.wrap f))=false:=by
 refine decide_eq_false ?_
 simp[IntKind.wrap,IntKind.signed,IntKind.bits]
 omega
theorem ZwP (A:Option Addr)(c:Nat)(l:List Zab)(f t:Int)(M:Nat)(w:World)(hG:Glob w)(hA:RdSl w A c Zab.enc 11 l)(hn:l.length<=1000000)(hR:∀ r∈l,-4611686018427387904<=r.save/\r.save<=4611686018427387904)
  (hf : -2000000000<=f/\f<=2000000000) (ht:t+1=f+M) (hM0:0<M) (hM:M<=1000) :
  Does Tryz.prog 177 [.slice A l.length c,.int .i64 f,.int .i64 t] w (ZBf (ZcI (allC l (Zah l) f M))):=by
 have e1:decide (t<f)=false:=decide_eq_false (by omega)
 have e2:=ZAb hf ht hM0 hM
 have hon:=fun(i:Nat) r (hi:l[i]?=some r) y w' (hw:Bel w.heap.size w w')=>Zgv A c l i y r w' (hG.up hw) (hA.up hw) hi hn hR
 generalize Zah l=least at *
 obtain⟨res,hres⟩:∃ res,allC l least f M=res:=⟨_,rfl⟩
 rw[hres]
 refine Zaa Tryz.func177 rfl rfl rfl rfl ?_
 repeat (first|(apply RL_pu;rfl;(first|(apply Pu_sub';rfl;rfl;(constructor <;> omega))|(apply Zu3;rfl;rfl)|(apply ZaC;rfl;rfl;exact e2)|(apply ZaS;rfl;rfl;exact e1)|(apply Pu_convI;rfl)))|(refine js ?_;(refine bx ?_;intro bk))|refine walk1 ?_)
 refine ZfA 92 3 ?_
 obtain⟨N,hN⟩:∃ N:Int,N=(M:Int):=⟨_,rfl⟩
 rw[show t - f+1=N by omega]
 refine Zao [(0,.slice A l.length c),(1,.int .i64 f),(27,.int .i64 N)] [] (fun g:IG=>[(8,.slice g.A g.m g.c),(28,.int .i64 g.k)]) (fun g=>[.row (.slice g.A g.m g.c) 92 3 g.m g.xs])
  (fun g=>g.k<=M/\g.m=g.acc.length/\g.xs=g.acc.flatMap Zad.enc/\g.m<=g.k*1000000/\g.acc=allC l least f g.k) (fun g=>M - g.k) ⟨0,none,0,0,[],[]⟩ SFA SOA ⟨Nat.zero_le _,rfl,rfl,Nat.le_refl _,rfl⟩ ?_
 rintro⟨k,A1,c1,m,xs,acc⟩ ⟨hk,hm,hx,hmk,hi⟩
 dsimp only at hk hm hx hmk hi ⊢
 repeat (first|(refine js ?_;(refine bx ?_;intro bk))|refine walk ?_)
 refine Zaf rfl (fun hc=>?_) (fun hc=>?_)
 ·have hk2:k<M:=by have:=of_decide_eq_true hc;omega
  obtain⟨nxt,hnxt⟩:∃ nxt,allC l least f (k+1)=nxt:=⟨_,rfl⟩
  have hst:acc++ZdY least (f+k) l 0=nxt:=by rw[<- hnxt,allC,hi]
  repeat (first|(refine js ?_;(refine bx ?_;intro bk))|refine walk ?_)
  refine Zao [(0,.slice A l.length c),(1,.int .i64 f),(27,.int .i64 N),(28,.int .i64 k),(9,.int .i64 k),(31,.slice A l.length c),(32,.int .i64 l.length)] [] (fun g:IG=>[(8,.slice g.A g.m g.c),(33,.int .i64 g.k)]) (fun g=>[.row (.slice g.A g.m g.c) 92 3 g.m g.xs])
   (fun g=>g.k<=l.length/\g.m=g.acc.length/\g.xs=g.acc.flatMap Zad.enc/\g.m<=k*1000000+g.k/\g.acc++ZdY least (f+k) (l.drop g.k) g.k=nxt) (fun g=>l.length - g.k) ⟨0,A1,c1,m,xs,acc⟩ SFA SOA ⟨Nat.zero_le _,hm,hx,Nat.le_trans hmk (Nat.le_add_right _ _),by dsimp only;rw[List.drop_zero];exact hst⟩ ?_
  clear hm hx hmk hi hst hc
  rintro⟨i,A1,c1,m,xs,acc⟩ ⟨hil,hm,hx,hmk,hi⟩
  dsimp only at hil hm hx hmk hi ⊢
  repeat (first|(refine js ?_;(refine bx ?_;intro bk))|refine walk ?_)
  refine Zaf rfl (fun hc=>?_) (fun hc=>?_)
  ·simp only[decide_eq_true_eq,Int.ofNat_lt]at hc
   have ho:=hon i _ (List.getElem?_eq_getElem hc) (f+(k:Int))
   rw[Zap hc,ZdY]at hi
   generalize onR least l[i] i (f+(k:Int))=o at *
   cases o with
   | none =>
    simp only[evV,Zad.enc,dEv0,Option.isSome,Option.toList,List.nil_append]at ho hi
    repeat (first|(refine js ?_;(first|(refine Zac ho ?_)|(refine bx ?_;intro bk)))|refine walk ?_)
    exact⟨⟨i+1,A1,c1,m,xs,acc⟩,OA,⟨OA,hm,hx,OA,hi⟩,SFA,SOA⟩
   | some e =>
    obtain⟨ey,er,en⟩:=e
    simp only[evV,Zad.enc,Option.isSome,Option.toList]at ho hi
    repeat (first|(refine js ?_;(first|(refine Zac ho ?_)|(apply ZaE;rfl;rfl;(intro A' c';(focus repeat' constructor));(intro w' _ hO;exact ZbP (hO.of (by repeat' constructor)));rfl;rfl;(simp only[maxLen];omega);omega;intro A' c' hc1 hc2 hc3)|(refine bx ?_;intro bk)))|refine walk ?_)
    exact⟨⟨i+1,A',c',m+1,xs++[.int .i64 ey,.int .i64 er,.int .i64 en],acc++[⟨ey,er,en⟩]⟩,OA,⟨OA,by simp[hm],by rw[hx];simp[Zad.enc],OA,by rw[<- hi];simp⟩,SFA,SOA⟩
  ·simp only[decide_eq_false_iff_not,Int.ofNat_lt]at hc
   rw[List.drop_eq_nil_of_le (by omega),ZdY,List.append_nil]at hi
   repeat (first|(refine js ?_;(refine bx ?_;intro bk))|refine walk ?_)
   exact⟨⟨k+1,A1,c1,m,xs,acc⟩,OA,⟨OA,hm,hx,OA,hi.trans hnxt.symm⟩,SFA,SOA⟩
 ·obtain rfl:k=M:=by have:=of_decide_eq_false hc;omega
  rw[hres]at hi
  subst hi hm hx
  repeat (first|(refine js ?_;(first|(apply Zam;rfl;exact ZsE A1 c1 acc w (by omega);exact .refl _;rintro v O' ⟨rfl,rfl⟩)|(refine bx ?_;intro bk)))|refine walk ?_)
  exact ret_2 _ _ [Zm1 A1 c1 (ZcI acc)] (.tmp rfl) (.tmp rfl) SOA ⟨A1,c1,by rw[ZfT],rfl⟩
theorem Zzh (A:Option Addr)(c:Nat)(l:List Zab)(w:World)(hG:Glob w)(hA:RdSl w A c Zab.enc 11 l)(hn:l.length<=1000000)(hR:∀ r∈l,-4611686018427387904<=r.save/\r.save<=4611686018427387904) :
  Does Tryz.prog 177 [.slice A l.length c,.int .i64 1850,.int .i64 2550] w (ZBf (ZcI (allC l (Zah l) 1850 701))) :=
 ZwP A c l 1850 2550 701 w hG hA hn hR (by omega) (by omega) (by omega) (by omega)
def apV:Option Zad->Value
 | none => .tuple #[.agg (Zad.enc dEv0).toArray,.int .i64 0]
 | some e => .tuple #[.agg (Zad.enc e).toArray,.int .i64 13]
theorem ZoL {l:List Zad}{k:Nat}(h:k+1<l.length):ZcP (l.drop k)=if (l[k+1]'h).nominal - (l[k]'(by omega)).nominal<259200 then some (l[k+1]'h) else ZcP (l.drop (k+1)):=by
 rw[Zap (show k<l.length by omega),Zap h,ZcP]
theorem ZrV {l:List Zad}{k:Nat}(h:l.length<=k+1):ZcP (l.drop k)=none:=by
 by_cases hk:k<l.length
 ·rw[Zap hk,List.drop_eq_nil_of_le h];rfl
 ·rw[List.drop_eq_nil_of_le (by omega)];rfl
theorem Zi1 {l:List Zad}{k:Nat}(h:k<l.length)(j:Nat)(v:Value)(hj:(Zad.enc l[k])[j]?=some v):(l.flatMap Zad.enc)[k*3+j]?=some v:=ZaF Zad.len l k _ j v (List.getElem?_eq_getElem h) hj
def Zxk (e:Zad):Prop := -200000000000000000<=e.nominal/\e.nominal<=200000000000000000
theorem ZpB (least y:Int)(hl:least<=0):∀ (l:List Zab) (i:Nat),(ZdY least y l i).length<=l.length/\∀ e∈ZdY least y l i,Zxk e
 | [],_=>⟨Nat.le_refl _,fun _ h=>by cases h⟩
 | r::l,i=>by
  obtain⟨h1,h2⟩:=ZpB least y hl l (i+1)
  have h3:=Zs6 least hl r i y
  simp only[ZdY,List.length_append,List.length_cons,List.mem_append]
  generalize onR least r i y=o at *
  cases o with
  | none=>exact⟨by simp only[Option.toList,List.length_nil];omega,fun e he=>by rcases he with h|h;cases h;exact h2 e h⟩
  | some x=>exact⟨by simp only[Option.toList,List.length_cons,List.length_nil];omega,fun e he=>by
    rcases he with h|h
    ·simp only[Option.toList,List.mem_singleton]at h;subst h;exact h3 _ rfl
    ·exact h2 e h⟩
theorem Zo0 (l:List Zab)(least from_:Int)(hl:least<=0):∀ k,(allC l least from_ k).length<=k*l.length/\∀ e∈allC l least from_ k,Zxk e
 | 0=>⟨Nat.zero_le _,fun _ h=>by cases h⟩
 | k+1=>by
  obtain⟨h1,h2⟩:=Zo0 l least from_ hl k
  obtain⟨h3,h4⟩:=ZpB least (from_+k) hl l 0
  simp only[allC,List.length_append,List.mem_append,Nat.succ_mul]
  exact⟨by omega,fun e he=>he.elim (h2 e) (h4 e)⟩
theorem Zw7 (l:List Zab)(least from_:Int)(hl:least<=0)(hn:l.length<=1000000):(allC l least from_ 701).length<=701000000:=by
 have:=(Zo0 l least from_ hl 701).1
 omega
theorem ZyD {G:Prop}(h:G:=by(apply Zf9;rfl;rfl;exact hmx)):G:=h
theorem ZnQ {G:Prop}(h:G:=by(first|(apply ZaI;rfl;rfl;omega;omega;(intro w' _ hO;exact(Za0 (hO.of (A := .row (.slice A1 s.length c1) 92 3 s.length (s.flatMap Zad.enc)) (by repeat' constructor)) hg1).1))|(apply Zju;rfl;(focus repeat' constructor);exact hg1)|(apply Zju;rfl;(focus repeat' constructor);exact hg2)|(apply Zba;rfl;(focus repeat' constructor);exact hgn;rfl)|(apply ZaS;rfl;rfl;exact hb))):G:=h
theorem ZxY {G:Prop}(h:G:=by first|(apply Qy_y;rfl;exact ZnQ)|exact QyA):G:=h
theorem ZrX (A:Option Addr)(c:Nat)(l:List Zab)(w:World)(hG:Glob w)(hA:RdSl w A c Zab.enc 11 l)(hn:l.length<=1000000)(hR:∀ r∈l,-4611686018427387904<=r.save/\r.save<=4611686018427387904) :
  Does Tryz.prog 135 [.slice A l.length c] w (fun v O=>v=apV (Zjk l)/\O=[]):=by
 have hin:=fun w' (hw:Bel w.heap.size w w')=>Zzh A c l w' (hG.up hw) (hA.up hw) hn hR
 have hle:=(ZeQ l hR).2
 have hal:=Zw7 l (Zah l) 1850 hle hn
 have hok:=(Zo0 l (Zah l) 1850 hle 701).2
 rw[<- Znp]
 rw[show((allC l (Zah l) 1850 701).mergeSort fun x y => !ltE y x)=ZcI (allC l (Zah l) 1850 701) from rfl]
 have hsl:=ZfT (allC l (Zah l) 1850 701)
 have hso:∀ e∈ZcI (allC l (Zah l) 1850 701),Zxk e:=fun e he=>hok e (List.mem_mergeSort.1 he)
 generalize ZcI (allC l (Zah l) 1850 701)=s at *
 have hsl2:s.length<=701000000:=by omega
 clear hal hok hsl
 obtain⟨res,hres⟩:∃ res,ZcP s=res:=⟨_,rfl⟩
 rw[hres]
 have hmx:(if (s.length:Int) - 1<0 then 0 else (s.length:Int) - 1)=((s.length - 1:Nat):Int):=by split <;> omega
 refine Zaa Tryz.func135 rfl rfl rfl rfl ?_
 repeat (first|(apply RL_pu;rfl;exact ZyD)|(apply RD_Q;rfl;rfl;decide +kernel;rfl;rfl;exact QyEvI1)|refine walk1 ?_|(refine jg ?_;(try intro F);(first|(apply Zag (h:=fun w' hw _=>hin w' hw);rfl;rintro v O' ⟨A1,c1,rfl,rfl⟩)|(refine bx ?_;intro bk)|(refine stA ?_));first|refine⟨_,EndsA,QFEvI1,?_⟩|refine fin ?_)|(refine jn ?_;(try intro F);(first|(refine bx ?_;intro bk)|(refine stA ?_)|(apply Zae;first|exact ZyD|exact PuA));first|refine⟨_,EndsA,QFEvI1,?_⟩|refine fin ?_)|(apply RD_W;rfl;intro bk))
 have hn1:s.length - 1<=701000000:=by omega
 obtain⟨b2,hb2⟩:∃ b2,bk=b2:=⟨_,rfl⟩
 rw[hb2]
 clear hb2 bk
 refine Zao [(2,.pointer (some ⟨b2,0,none⟩)),(4,.slice A1 s.length c1),(19,.int .i64 (s.length - 1:Nat))] [.row (.slice A1 s.length c1) 92 3 s.length (s.flatMap Zad.enc),.blk b2 [.int .i64 0,.int .i64 0,.int .i64 0] 92] (fun k:Nat=>[(20,.int .i64 k)]) (fun _=>[]) (fun k=>k<=s.length - 1/\ZcP (s.drop k)=res) (fun k=>s.length - 1 - k) 0 SFA SOA ⟨Nat.zero_le _,hres⟩ ?_
 rintro k ⟨hk,hi⟩
 repeat (first|refine walk ?_|(refine jn ?_;(try intro F);(first|(refine bx ?_;intro bk)|(refine stA ?_)|(apply Zae;exact PuA));refine fin ?_)|(apply RD_W;rfl;intro bk))
 refine Zaf rfl (fun hc=>?_) (fun hc=>?_)
 ·simp only[decide_eq_true_eq,Int.ofNat_lt]at hc
  have hk1:k+1<s.length:=by omega
  rw[ZoL hk1]at hi
  have hg1:=Zi1 hk1 2 _ rfl
  have hg2:=Zi1 (show k<s.length by omega) 2 _ rfl
  have hgn:∀ j v,(Zad.enc s[k+1])[j]?=some v->(s.flatMap Zad.enc)[(k+1)*3+j]?=some v:=fun j v hj=>Zi1 hk1 j v hj
  have o1:=hso _ (List.getElem_mem hk1)
  have o2:=hso _ (List.getElem_mem (show k<s.length by omega))
  generalize s[k+1]=e1 at *
  generalize s[k]=e2 at *
  obtain⟨y1,r1,n1⟩:=e1
  obtain⟨y2,r2,n2⟩:=e2
  simp only[Zad.enc,Zxk]at hg1 hg2 hgn o1 o2 hi
  have hlen:(s.length:Int)<=701000000:=by omega
  have hkk:(k:Int)+1<s.length:=by omega
  by_cases h3:n1 - n2<259200
  ·rw[if_pos h3]at hi
   subst hi
   have hb:decide (n1 - n2<259200)=true:=decide_eq_true h3
   repeat (first|(apply RL_pu;rfl;exact ZnQ)|(apply RD_Q;rfl;rfl;decide +kernel;rfl;rfl;exact ZxY)|refine walk1 ?_|(refine jn ?_;(try intro F);(first|(refine bx ?_;intro bk)|(refine stA ?_)|(apply Zae;first|exact ZnQ|exact PuA));first|refine⟨_,EndsA,QFEvI2,?_⟩|refine fin ?_)|(apply RD_W;rfl;intro bk))
   exact rtC
  ·rw[if_neg h3]at hi
   have hb:decide (n1 - n2<259200)=false:=decide_eq_false h3
   repeat (first|(apply RL_pu;rfl;exact ZnQ)|(apply RD_Q;rfl;rfl;decide +kernel;rfl;rfl;exact ZxY)|refine walk1 ?_|(refine jn ?_;(try intro F);(first|(refine bx ?_;intro bk)|(refine stA ?_)|(apply Zae;first|exact ZnQ|exact PuA));first|refine⟨_,EndsA,QFEvI2,?_⟩|refine fin ?_)|(apply RD_W;rfl;intro bk))
   exact⟨k+1,OA,⟨OA,hi⟩,SFA,SOA⟩
 ·simp only[decide_eq_false_iff_not,Int.ofNat_lt]at hc
  rw[ZrV (show s.length<=k+1 by omega)]at hi
  subst hi
  repeat (first|refine walk ?_|(refine jn ?_;(try intro F);(first|(refine bx ?_;intro bk)|(refine stA ?_)|(apply Zae;exact PuA));refine fin ?_)|(apply RD_W;rfl;intro bk))
  exact rtC
def Zoo (z:Za5):Bool:=decide (60<z.eras.length)
theorem ZmY {α:Type}(p:α->Bool):∀ (l:List α) (k:Nat),Zb6 p l k=match l.findIdx? p with|some i=>((k+i:Nat):Int)|none => -1
 | [],_=>rfl
 | x::l,k=>by
  rw[Zb6,List.findIdx?_cons]
  by_cases h:p x=true
  ·rw[if_pos h,if_pos h];rfl
  ·rw[if_neg h,if_neg h,ZmY p l (k+1)]
   cases l.findIdx? p with
   | none=>rfl
   | some i=>simp only[Option.map_some];congr 1;omega
theorem Zoa (n:ByteArray)(A:Option Addr)(m c:Nat)(w:World):Does Tryz.prog 131 [.agg #[.string n,.slice A m c]] w (fun v O=>v = .bool (decide (60<m))/\O=[]):=by
 have hb:decide ((60:Int)<(m:Int))=decide (60<m):=by rw[decide_eq_decide];omega
 refine Zaa Tryz.func131 rfl rfl rfl rfl ?_
 repeat (first|(apply RL_pu;rfl;(apply ZaC;rfl;rfl;exact hb))|(refine js ?_;(refine bx ?_;intro bk))|refine walk1 ?_)
 exact rtA
theorem Zoy (Ar Az Al As:Option Addr)(cr cz cl cs:Nat)(a:Zai)(w:World)(hA:Zav w Ar Az Al As cr cz cl cs a)(hn:a.zones.length<=1000000) :
  Does Tryz.prog 130 [.slice Az a.zones.length cz,.func (.func 131) #[] #[]] w (fun v O=>v = .int .i64 (Zb6 Zoo a.zones 0)/\O=[]):=by
 obtain⟨res,hres⟩:∃ res,Zb6 Zoo a.zones 0=res:=⟨_,rfl⟩
 rw[hres]
 refine Zaa Tryz.func130 rfl rfl rfl rfl ?_
 repeat (first|refine walk ?_)
 refine Zao [(0,.slice Az a.zones.length cz),(1,.func (.func 131) #[] #[]),(7,.int .i64 a.zones.length)] [] (fun k:Nat=>[(8,.int .i64 k)]) (fun _=>[]) (fun k=>k<=a.zones.length/\Zb6 Zoo (a.zones.drop k) k=res) (fun k=>a.zones.length - k) 0 SFA .nil ⟨Nat.zero_le _,hres⟩ ?_
 rintro k ⟨hk,hi⟩
 repeat (first|refine walk ?_)
 refine Zaf rfl (fun hc=>?_) (fun hc=>?_)
 ·simp only[decide_eq_true_eq,Int.ofNat_lt]at hc
  obtain⟨hna,cs1,⟨Ae,ce,_,rfl⟩,hca⟩:=hA.z k _ (List.getElem?_eq_getElem hc)
  rw[Zap hc,Zb6]at hi
  generalize a.zones[k]=z at *
  have h1:∀ w',Does Tryz.prog 131 ([]++[.agg #[.string z.name,.slice Ae z.eras.length ce]]++[]) w' (fun v O=>v = .bool (decide (60<z.eras.length))/\O=[]):=fun w'=>Zoa z.name Ae z.eras.length ce w'
  rw[show decide (60<z.eras.length)=Zoo z from rfl]at h1
  generalize Zoo z=mb at *
  cases mb with
  | true =>
   rw[if_pos rfl]at hi
   subst hi
   repeat (first|(apply RL_pu;rfl;exact PuI)|(refine js ?_;(refine ZgE (fun w' hw _=>h1 w') ?_))|refine walk1 ?_)
   exact rtA
  | false =>
   rw[if_neg (by decide)]at hi
   repeat (first|(apply RL_pu;rfl;exact PuI)|(refine js ?_;(refine ZgE (fun w' hw _=>h1 w') ?_))|refine walk1 ?_)
   exact⟨k+1,OA,⟨OA,hi⟩,SFA,.nil⟩
 ·simp only[decide_eq_false_iff_not,Int.ofNat_lt]at hc
  rw[List.drop_eq_nil_of_le (by omega),Zb6]at hi
  subst hi
  repeat (first|refine walk ?_)
  exact rtA
theorem ZvU {G:Prop}(h:G:=by(apply ZaC;rfl;rfl;exact b1)):G:=h
theorem Zpw {G:Prop}(h:G:=by(first|exact ZvU|(apply ZaC;rfl;rfl;exact b2))):G:=h
theorem ZvT {G:Prop}(h:G:=by(first|exact Zpw|(apply ZaC;rfl;rfl;exact b3))):G:=h
theorem ZvS {G:Prop}(h:G:=by(first|exact ZvT|(apply ZaC;rfl;rfl;exact b4))):G:=h
theorem Zq1 (Ar Az Al As:Option Addr)(cr cz cl cs:Nat)(a:Zai)(w:World)(hA:Zav w Ar Az Al As cr cz cl cs a)(hn:a.zones.length<=1000000) :
  Does Tryz.prog 87 [srcV Ar Az Al As cr cz cl cs a] w (fun v O=>v=ptV (ZfE a)/\O=[]):=by
 have hix:=fun w' (hw:Bel w.heap.size w w')=>Zoy Ar Az Al As cr cz cl cs a w' (hA.up hw) hn
 rw[ZmY]at hix
 unfold ZfE
 rw[show(fun z:Za5=>decide (60<z.eras.length))=Zoo from rfl]
 generalize a.zones.findIdx? Zoo=fi at *
 refine Zaa Tryz.func87 rfl rfl rfl rfl ?_
 by_cases h1:2000<a.rules.length
 ·have b1:decide ((2000:Int)<a.rules.length)=true:=decide_eq_true (by omega)
  rw[if_pos h1]
  repeat (first|(apply RL_pu;rfl;exact ZvU)|(refine js ?_;(refine bx ?_;intro bk))|refine walk1 ?_)
  exact rtC
 have b1:decide ((2000:Int)<a.rules.length)=false:=decide_eq_false (by omega)
 rw[if_neg h1]
 by_cases h2:500<a.zones.length
 ·have b2:decide ((500:Int)<a.zones.length)=true:=decide_eq_true (by omega)
  rw[if_pos h2]
  repeat (first|(apply RL_pu;rfl;exact Zpw)|(refine js ?_;(refine bx ?_;intro bk))|refine walk1 ?_)
  exact rtC
 have b2:decide ((500:Int)<a.zones.length)=false:=decide_eq_false (by omega)
 rw[if_neg h2]
 cases fi with
 | some i =>
  dsimp only at hix ⊢
  rw[Nat.zero_add]at hix
  have b3:decide ((0:Int)<=(i:Int))=true:=decide_eq_true (by omega)
  repeat (first|(apply RL_pu;rfl;(first|exact Zpw|(apply Zcr;rfl;rfl;exact b3)))|(refine js ?_;(first|(refine Zac hix ?_)|(refine bx ?_;intro bk)))|refine walk1 ?_)
  exact rtC
 | none =>
  dsimp only at hix ⊢
  by_cases h3:1000<a.links.length
  ·have b3:decide ((1000:Int)<a.links.length)=true:=decide_eq_true (by omega)
   rw[if_pos h3]
   repeat (first|(apply RL_pu;rfl;exact ZvT)|(refine js ?_;(first|(refine Zac hix ?_)|(refine bx ?_;intro bk)))|refine walk1 ?_)
   exact rtC
  have b3:decide ((1000:Int)<a.links.length)=false:=decide_eq_false (by omega)
  rw[if_neg h3]
  by_cases h4:2000<a.shifts.length
  ·have b4:decide ((2000:Int)<a.shifts.length)=true:=decide_eq_true (by omega)
   rw[if_pos h4]
   repeat (first|(apply RL_pu;rfl;exact ZvS)|(refine js ?_;(first|(refine Zac hix ?_)|(refine bx ?_;intro bk)))|refine walk1 ?_)
   exact rtC
  have b4:decide ((2000:Int)<a.shifts.length)=false:=decide_eq_false (by omega)
  rw[if_neg h4]
  repeat (first|(apply RL_pu;rfl;exact ZvS)|(refine js ?_;(first|(refine Zac hix ?_)|(refine bx ?_;intro bk)))|refine walk1 ?_)
  exact rtC
theorem Zos (Ar Az Al As:Option Addr)(cr cz cl cs:Nat)(a:Zai)(w:World)(hA:Zav w Ar Az Al As cr cz cl cs a)(hS:ZhV a) :
  Does Tryz.prog 90 [srcV Ar Az Al As cr cz cl cs a] w (fun v O=>v=ptV (ZcD a)/\O=[]):=by
 have h:=fun w' (hw:Bel w.heap.size w w')=>Zrq Ar Az Al As cr cz cl cs a w' (hA.up hw) hS
 refine Zaa Tryz.func90 rfl rfl rfl rfl ?_
 generalize ZcD a=o at *
 cases o with
 | none =>
  simp only[ptV,plV,ZaB.enc]at h ⊢
  repeat (first|(refine js ?_;(first|(refine Zac h ?_)|(refine bx ?_;intro bk)))|refine walk ?_)
  exact rtC
 | some pe =>
  obtain⟨⟨p1,p2,p3⟩,e⟩:=pe
  simp only[ptV,plV,ZaB.enc]at h ⊢
  repeat (first|(refine js ?_;(first|(refine Zac h ?_)|(refine bx ?_;intro bk)))|refine walk ?_)
  exact rtC
structure RlG where
 k:Nat
 i:Nat
theorem Zod (x:ByteArray)(r:Zab)(l:List Zab)(i k:Nat):ZdL x (r::l) i k=if r.name=x then (match i with|0=>⟨1,k,0⟩|i+1=>ZdL x l i (k+1)) else ZdL x l i (k+1):=by cases i <;> rfl
theorem Zq7 (x:ByteArray)(i k:Nat):ZdL x [] i k=⟨0,0,0⟩:=by cases i <;> rfl
theorem Zpv {G:Prop}(h:G:=by(first|exact PuI|(apply ZbW;rfl;rfl;exact hb))):G:=h
theorem ZsK (Ar Az Al As:Option Addr)(cr cz cl cs:Nat)(a:Zai)(x:ByteArray)(i:Nat)(w:World)(hA:Zav w Ar Az Al As cr cz cl cs a)(hn:a.rules.length<=1000000)(hi:i<=1000000) :
  Does Tryz.prog 136 [srcV Ar Az Al As cr cz cl cs a,.string x,.int .i64 i] w (fun v O=>v=plV (ZdL x a.rules i 0)/\O=[]):=by
 obtain⟨res,hres⟩:∃ res,ZdL x a.rules i 0=res:=⟨_,rfl⟩
 rw[hres]
 refine Zaa Tryz.func136 rfl rfl rfl rfl ?_
 repeat (first|(refine js ?_;(refine bx ?_;intro bk))|refine walk ?_)
 obtain⟨b6,hb6⟩:∃ b6,bk=b6:=⟨_,rfl⟩
 rw[hb6]
 clear hb6 bk
 refine Zao [(1,.string x),(6,.pointer (some ⟨b6,0,none⟩)),(11,.slice Ar a.rules.length cr),(12,.int .i64 a.rules.length)] [.blk b6 [.int .i64 0,.int .i64 0,.int .i64 0] 131] (fun g:RlG=>[(2,.int .i64 g.i),(13,.int .i64 g.k)]) (fun _=>[]) (fun g=>g.k<=a.rules.length/\g.i<=1000000/\ZdL x (a.rules.drop g.k) g.i g.k=res) (fun g=>a.rules.length - g.k) ⟨0,i⟩ SFA SOA ⟨Nat.zero_le _,hi,hres⟩ ?_
 clear hi hres
 rintro⟨k,i⟩ ⟨hk,hi6,hi⟩
 dsimp only at hk hi6 hi ⊢
 repeat (first|(refine js ?_;(refine bx ?_;intro bk))|refine walk ?_)
 refine Zaf rfl (fun hc=>?_) (fun hc=>?_)
 ·simp only[decide_eq_true_eq,Int.ofNat_lt]at hc
  obtain⟨hna,hca⟩:=hA.r.rd k _ (List.getElem?_eq_getElem hc)
  rw[Zap hc,Zod]at hi
  generalize a.rules[k]=r at *
  by_cases hx:r.name=x
  ·have hb:(!decide (r.name=x))=false:=by rw[decide_eq_true hx];rfl
   rw[if_pos hx]at hi
   cases i with
   | zero =>
    dsimp only at hi
    subst hi
    repeat (first|(apply RL_pu;rfl;exact Zpv)|(refine js ?_;(refine bx ?_;intro bk))|refine walk1 ?_)
    exact ret_1 _ [] (.cellB rfl (by repeat' constructor) rfl rfl) .nil ⟨rfl,rfl⟩
   | succ i =>
    dsimp only at hi
    have hb2:decide (((i+1:Nat):Int)=0)=false:=decide_eq_false (by omega)
    repeat (first|(apply RL_pu;rfl;(first|exact Zpv|(apply Zaw;rfl;rfl;exact hb2)))|(refine js ?_;(refine bx ?_;intro bk))|refine walk1 ?_)
    rw[show((i+1:Nat):Int) - 1=(i:Int) by omega]
    exact⟨⟨k+1,i⟩,OA,⟨OA,OA,hi⟩,SFA,SOA⟩
  ·have hb:(!decide (r.name=x))=true:=by rw[decide_eq_false hx];rfl
   rw[if_neg hx]at hi
   repeat (first|(apply RL_pu;rfl;exact Zpv)|(refine js ?_;(refine bx ?_;intro bk))|refine walk1 ?_)
   exact⟨⟨k+1,i⟩,OA,⟨OA,OA,hi⟩,SFA,SOA⟩
 ·simp only[decide_eq_false_iff_not,Int.ofNat_lt]at hc
  rw[List.drop_eq_nil_of_le (by omega),Zq7]at hi
  subst hi
  repeat (first|(refine js ?_;(refine bx ?_;intro bk))|refine walk ?_)
  exact ret_1 _ [] (.cellB rfl (by repeat' constructor) rfl rfl) .nil ⟨rfl,rfl⟩
theorem Zg6:∀ (l:List Zab) (acc:List ByteArray) (x:ByteArray),x∈Zb8 l acc->x∈acc\/∃ r∈l,r.name=x
 | [],acc,x,h => .inl h
 | r::l,acc,x,h=>by
  rw[Zb8]at h
  split at h
  ·rcases Zg6 l acc x h with h|⟨q,hq,e⟩
   ·exact .inl h
   ·exact .inr ⟨q,List.mem_cons_of_mem _ hq,e⟩
  ·rcases Zg6 l _ x h with h|⟨q,hq,e⟩
   ·rcases List.mem_append.1 h with h|h
    ·exact .inl h
    ·simp only[List.mem_singleton]at h;exact .inr ⟨r,List.mem_cons_self,h.symm⟩
   ·exact .inr ⟨q,List.mem_cons_of_mem _ hq,e⟩
theorem Zg7:∀ (l:List Zab) (acc:List ByteArray),(Zb8 l acc).length<=acc.length+l.length
 | [],acc=>Nat.le_refl _
 | r::l,acc=>by
  rw[Zb8]
  split
  ·have:=Zg7 l acc;simp only[List.length_cons];omega
  ·have:=Zg7 l (acc++[r.name]);simp only[List.length_append,List.length_cons,List.length_nil]at this ⊢;omega
theorem ZkB:∀ (l:List Zad) (e:Zad),ZcP l=some e->e∈l
 | [],_,h=>by cases h
 | [_],_,h=>by cases h
 | a::b::l,e,h=>by
  rw[ZcP]at h
  split at h
  ·simp only[Option.some.injEq]at h;subst h;exact List.mem_cons_of_mem _ List.mem_cons_self
  ·exact List.mem_cons_of_mem _ (ZkB (b::l) e h)
theorem ZjU (least y:Int):∀ (l:List Zab) (i:Nat),∀ e∈ZdY least y l i,∃ j:Nat,e.rule=j/\j<i+l.length
 | [],_=>fun e h=>by cases h
 | r::l,i=>fun e he=>by
  rw[ZdY]at he
  rcases List.mem_append.1 he with h|h
  ·have:onR least r i y=some e:=by
    cases ho:onR least r i y with
    | none=>rw[ho]at h;cases h
    | some x=>rw[ho]at h;simp only[Option.toList,List.mem_singleton]at h;rw[h]
   unfold onR at this
   split at this
   ·cases this
   ·split at this
    ·cases this
    ·simp only[Option.some.injEq]at this
     subst this
     exact⟨i,rfl,by simp⟩
  ·obtain⟨j,h1,h2⟩:=ZjU least y l (i+1) e h
   exact⟨j,h1,by simp only[List.length_cons];omega⟩
theorem Znr (l:List Zab)(least from_:Int):∀ k,∀ e∈allC l least from_ k,∃ j:Nat,e.rule=j/\j<l.length
 | 0=>fun e h=>by cases h
 | k+1=>fun e he=>by
  rw[allC]at he
  rcases List.mem_append.1 he with h|h
  ·exact Znr l least from_ k e h
  ·have:=ZjU _ _ _ _ e h
   simpa using this
theorem ZoY (l:List Zab)(e:Zad)(h:Zjk l=some e):∃ j:Nat,e.rule=j/\j<l.length:=by
 rw[<- Znp]at h
 exact Znr _ _ _ _ e (List.mem_mergeSort.1 (ZkB _ _ h))
def ZlA (s:Zai):Prop:=∀ r∈s.rules,(-4611686018427387904<=r.save/\r.save<=4611686018427387904)/\r.from_<=4611686018427387904
theorem Ztb {l:List Zab}{x:ByteArray}{r:Zab}(h:r∈ofB l x):r∈l:=(List.mem_filter.1 h).1
def SavI (s:Zai):Prop:=∀ r∈s.rules,-9223372036854775808<=r.save/\r.save<=9223372036854775807
theorem Zgt (least:Int):∀ (l:List Zab) (k:Nat),Zbg least l k=none->∀ r∈l,Zcn r least=0
 | [],_,_,_,h=>by cases h
 | x::l,k,h,r,hr=>by
  rw[Zbg]at h
  by_cases h0:Zcn x least=0
  ·rw[if_pos h0]at h
   rcases List.mem_cons.1 hr with rfl|hr
   ·exact h0
   ·exact Zgt least l (k+1) h r hr
  ·rw[if_neg h0]at h
   cases h
theorem ZsL {r:Zab}{least:Int}(h:Zcn r least=0):(-4611686018427387904<=r.save/\r.save<=4611686018427387904)/\r.from_<=4611686018427387904:=by
 unfold Zcn at h
 split at h
 ·cases h
 ·rename_i h1
  split at h
  ·cases h
  ·split at h
   ·cases h
   ·split at h
    ·cases h
    ·split at h
     ·cases h
     ·rename_i h2
      have e2:(decide (-10800<=r.save)&&decide (r.save<=10800))=true:=by
       cases hh:(decide (-10800<=r.save)&&decide (r.save<=10800)) with
       | true=>rfl
       | false=>exact absurd hh h2
      have e1:Zck r.from_=true:=by
       cases hh:Zck r.from_ with
       | true=>rfl
       | false=>rw[hh]at h1;exact absurd rfl h1
      unfold Zck at e1
      simp only[Bool.and_eq_true,decide_eq_true_eq]at e1 e2
      omega
theorem Zmd {l:List Zab}(h:(Zfx l).2=0):∀ r∈l,(-4611686018427387904<=r.save/\r.save<=4611686018427387904)/\r.from_<=4611686018427387904:=by
 intro r hr
 unfold Zfx at h
 cases hf:Zbg (Zah l) l 0 with
 | none=>exact ZsL (Zgt _ l 0 hf r hr)
 | some x =>
  rw[hf]at h
  exfalso
  have:∀ (l:List Zab) (k:Nat) (x:Nat × Int) (m:Int),Zbg m l k=some x->x.2≠0:=fun l=>by
   induction l with
   | nil=>intro k x m h;cases h
   | cons y l ih =>
    intro k x m h
    rw[Zbg]at h
    split at h
    ·exact ih _ _ _ h
    ·rename_i h0
     simp only[Option.some.injEq]at h
     rw[<- h]
     exact h0
  exact this _ _ _ _ hf h
theorem ZeK:∀ (l:List Zab) (acc:List ByteArray),(∀ x∈acc,x∈Zb8 l acc)/\∀ r∈l,r.name∈Zb8 l acc
 | [],acc=>⟨fun _ h=>h,fun _ h=>by cases h⟩
 | y::l,acc=>by
  rw[Zb8]
  by_cases hm:memB y.name acc=true
  ·rw[if_pos hm]
   have ih:=ZeK l acc
   refine⟨ih.1,fun r hr=>?_⟩
   rcases List.mem_cons.1 hr with rfl|hr
   ·refine ih.1 _ ?_
    have:∀ (l:List ByteArray) (x:ByteArray),memB x l=true->x∈l:=fun l=>by
     induction l with
     | nil=>intro x h;cases h
     | cons z l ih2 =>
      intro x h
      rw[memB,Bool.or_eq_true,decide_eq_true_eq]at h
      rcases h with rfl|h
      ·exact List.mem_cons_self
      ·exact List.mem_cons_of_mem _ (ih2 x h)
    exact this _ _ hm
   ·exact ih.2 r hr
  ·rw[if_neg hm]
   have ih:=ZeK l (acc++[y.name])
   refine⟨fun x hx=>ih.1 x (List.mem_append_left _ hx),fun r hr=>?_⟩
   rcases List.mem_cons.1 hr with rfl|hr
   ·exact ih.1 _ (List.mem_append_right _ (List.mem_singleton.2 rfl))
   ·exact ih.2 r hr
theorem Zin (rs:List Zab):∀ l:List ByteArray,ZdI rs l=none->∀ x∈l,(Zfx (ofB rs x)).2=0
 | [],_,_,h=>by cases h
 | y::l,h,x,hx=>by
  rw[ZdI]at h
  cases hf:ZcS rs y with
  | some z=>rw[hf]at h;cases h
  | none =>
   rw[hf]at h
   rcases List.mem_cons.1 hx with rfl|hx
   ·unfold ZcS at hf
    split at hf
    ·cases hf
    ·split at hf
     ·cases hf
     ·rename_i h2
      exact Decidable.of_not_not h2
   ·exact Zin rs l h x hx
theorem ZsI {s:Zai}(h:ZjL s=none):ZlA s:=fun r hr =>
 Zmd (Zin s.rules _ h r.name ((ZeK s.rules []).2 r hr)) r (List.mem_filter.2 ⟨hr,decide_eq_true rfl⟩)
theorem Zoi (l:List Zab)(x:ByteArray):(ofB l x).length<=l.length:=List.length_filter_le _ _
theorem ZiV (least:Int):∀ (l:List Zab) (i:Nat) (j:Nat) (e:Int),Zbg least l i=some (j,e)->j<i+l.length
 | [],_,_,_,h=>by cases h
 | r::l,i,j,e,h=>by
  rw[Zbg]at h
  split at h
  ·have:=ZiV least l (i+1) j e h;simp only[List.length_cons];omega
  ·simp only[Option.some.injEq,Prod.mk.injEq]at h;simp only[List.length_cons];omega
end Go.Proofs.YtdlmhmmhdbbliaaGreatDoor
