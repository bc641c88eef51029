/- Parts of the proof. -/
import Derived.Test.YtdlmhmmhdbbliaaGreatDoorV12
import Derived.Test.YtdlmhmmhdbbliaaGreatDoorV05
import Derived.Test.YtdlmhmmhdbbliaaGreatDoorV06
import Derived.Laws.Strings2
set_option maxHeartbeats 4000000
set_option linter.unusedVariables false
set_option linter.unusedSimpArgs false
namespace Go.Proofs.YtdlmhmmhdbbliaaGreatDoor
open Go Go.RowKit Go.Wk
attribute [local irreducible] W RL Does Zau Zak retQ Calls Pu Stp RD Qy Ay Zaj atB ZhT Zev
theorem Zqr {w:World}{b:Nat}{cs:List Value}{t:TypeId}(h:(It.blk b cs t).sat w):Zal w ⟨b,0,none⟩ cs:=fun j v hj=>(ZbP h j v hj).2
set_option maxHeartbeats 8000000 in
theorem Ziv (A:Option Addr)(c:Nat)(l:List Int)(i a b save:Int)(w:World)(hA:RdSl w A c Zez 1 l)(hr:∀ x∈l,inR .u8 x)(hi:0<=i)(hi2:i<=900) :
  Does Tryz.prog 50 [.slice A l.length c,.int .i64 i,.int .i64 a,.int .i64 b,.int .i64 save] w (fun v O=>∃ k,v = .slice (some ⟨k,0,none⟩) 2 2/\O=[.blk k ((Zgj l i a b save).flatMap Zab.enc) 82]):=by
 have r1:=Zaq l i 3 (by decide)
 have r2:=Zaq l (i+1) 3 (by decide)
 have r3:=Zaq l (i+8) 3 (by decide)
 have r4:=Zaq l (i+14) 2 (by decide)
 have r5:=Zaq l (i+2) 4 (by decide)
 refine Zaa Tryz.func50 rfl rfl rfl rfl ?_
 repeat (first|refine Zv2 ?_|(refine jn ?_;(try intro F);(first|(refine bx ?_;intro bk)|(refine stA ?_)|(apply Zae;exact PuA));refine fin ?_)|(apply RD_W;rfl;intro bk))
 generalize bk=b5
 refine Zbx (fun fr' O'=>∃ b1,Sub [(0,.slice A l.length c),(1,.int .i64 i),(2,.int .i64 a),(3,.int .i64 b),(4,.int .i64 save),(5,.pointer (some ⟨b5,0,none⟩)),(11,.func (.func 85) #[] #[.pointer (some ⟨b5,0,none⟩)]),(12,.pointer (some ⟨b1,0,none⟩))] fr'/\SubO [.blk b1 (Zoe l i a b save).enc 82,.blk b5 [.slice A l.length c] 61] O') ?_ ?_
 ·repeat (first|refine walk ?_|(refine jg ?_;(try intro F);(first|(refine Zac (fun w' hw=>Zbk A c l (i) 3 w' (hA.up hw) hr (by omega) (by omega)) ?_)|(refine Zac (fun w' hw=>Zbk A c l (i+8) 3 w' (hA.up hw) hr (by omega) (by omega)) ?_)|(refine Zac (fun w' hw=>Zhk A c l (i+6) w' (hA.up hw) hr (by omega) (by omega)) ?_)|(apply Zar (f:=85) (us:=[]) (cs:=[.pointer (some ⟨b5,0,none⟩)]) (vs:=[.int .i64 (i+3)]) (h:=fun w' hw hO=>Zkw A c l (i+3) ⟨b5,0,none⟩ w' (hA.up hw) hr (by omega) (by omega) (Zqr (hO.of (A := .blk b5 _ _) (by repeat' constructor))));rfl;rfl;rintro v O' ⟨rfl,rfl⟩)|(refine bx ?_;intro bk)|(refine stA ?_));refine fin ?_)|(refine jn ?_;(try intro F);(first|(refine bx ?_;intro bk)|(refine stA ?_)|(apply Zae;exact PuA));refine fin ?_)|(apply RD_W;rfl;intro bk))
  exact⟨rfl,_,SFA,SOA⟩
 rintro fr' O' ⟨b1,hf,hO⟩
 apply thenQ_n
 refine Zb0 hf hO ?_
 repeat (first|refine Zv2 ?_|(refine jn ?_;(try intro F);(first|(refine bx ?_;intro bk)|(refine stA ?_)|(apply Zae;exact PuA));refine fin ?_)|(apply RD_W;rfl;intro bk))
 refine Zbx (fun fr' O'=>∃ b2,Sub [(0,.slice A l.length c),(1,.int .i64 i),(2,.int .i64 a),(3,.int .i64 b),(4,.int .i64 save),(5,.pointer (some ⟨b5,0,none⟩)),(11,.func (.func 85) #[] #[.pointer (some ⟨b5,0,none⟩)]),(12,.pointer (some ⟨b1,0,none⟩)),(13,.pointer (some ⟨b2,0,none⟩))] fr'/\SubO [.blk b2 (Zq6 l i a b 0).enc 82,.blk b1 (Zoe l i a b save).enc 82,.blk b5 [.slice A l.length c] 61] O') ?_ ?_
 ·repeat (first|refine walk ?_|(refine jg ?_;(try intro F);(first|(refine Zac (fun w' hw=>Zbk A c l (i+1) 3 w' (hA.up hw) hr (by omega) (by omega)) ?_)|(refine Zac (fun w' hw=>Zbk A c l (i+14) 2 w' (hA.up hw) hr (by omega) (by omega)) ?_)|(refine Zac (fun w' hw=>Zhk A c l (i+12) w' (hA.up hw) hr (by omega) (by omega)) ?_)|(apply Zar (f:=85) (us:=[]) (cs:=[.pointer (some ⟨b5,0,none⟩)]) (vs:=[.int .i64 (i+9)]) (h:=fun w' hw hO=>Zkw A c l (i+9) ⟨b5,0,none⟩ w' (hA.up hw) hr (by omega) (by omega) (Zqr (hO.of (A := .blk b5 _ _) (by repeat' constructor))));rfl;rfl;rintro v O' ⟨rfl,rfl⟩)|(refine bx ?_;intro bk)|(refine stA ?_));refine fin ?_)|(refine jn ?_;(try intro F);(first|(refine bx ?_;intro bk)|(refine stA ?_)|(apply Zae;exact PuA));refine fin ?_)|(apply RD_W;rfl;intro bk))
  exact⟨rfl,_,SFA,SOA⟩
 rintro fr' O' ⟨b2,hf,hO⟩
 apply thenQ_n
 refine Zb0 hf hO ?_
 repeat (first|refine walk ?_|(refine jg ?_;(try intro F);(first|(refine Zac (fun w' hw=>Zbk A c l (i+2) 4 w' (hA.up hw) hr (by omega) (by omega)) ?_)|(refine bx ?_;intro bk)|(refine stA ?_));refine fin ?_)|(refine jn ?_;(try intro F);(first|(refine bx ?_;intro bk)|(refine stA ?_)|(apply Zae;exact PuA));refine fin ?_)|(apply RD_W;rfl;intro bk))
 generalize hra:Zoe l i a b save=ra
 generalize hrb:Zq6 l i a b 0=rb
 refine Zb0 (fr':=[(65,.bool (decide (atB l (i+2) 4=0))),(12,.pointer (some ⟨b1,0,none⟩)),(13,.pointer (some ⟨b2,0,none⟩))]) SFA (show SubO [.blk b2 [.string rb.name,.int .i64 rb.from_,.int .i64 rb.to,.int .i64 rb.month,.int .i64 rb.day.kind,.int .i64 rb.day.week,.int .i64 rb.day.day,.int .i64 rb.at_.sec,.int .i64 rb.at_.base,.int .i64 rb.save,.string rb.letter] 82,.blk b1 [.string ra.name,.int .i64 ra.from_,.int .i64 ra.to,.int .i64 ra.month,.int .i64 ra.day.kind,.int .i64 ra.day.week,.int .i64 ra.day.day,.int .i64 ra.at_.sec,.int .i64 ra.at_.base,.int .i64 ra.save,.string ra.letter] 82] _ from SOA) ?_
 refine Zaf rfl (fun h=>?_) (fun h=>?_)
 ·have e:Zgj l i a b save=[⟨ra.name,ra.from_,ra.to,ra.month,ra.day,ra.at_,rb.save,ra.letter⟩,⟨rb.name,rb.from_,rb.to,rb.month,rb.day,rb.at_,ra.save,rb.letter⟩]:=by
   rw[Zgj,if_pos (by simpa using h),<- hra,<- hrb]
   rfl
  rw[e]
  repeat (first|refine walk ?_|(refine jn ?_;(try intro F);(first|(refine bx ?_;intro bk)|(refine stA ?_)|(apply Zae;exact PuA));refine fin ?_)|(apply RD_W;rfl;intro bk))
  exact ret_1 _ [.blk bk (List.flatMap Zab.enc [⟨ra.name,ra.from_,ra.to,ra.month,ra.day,ra.at_,rb.save,ra.letter⟩,⟨rb.name,rb.from_,rb.to,rb.month,rb.day,rb.at_,ra.save,rb.letter⟩]) 82] (.tmp rfl) SOA ⟨_,rfl,rfl⟩
 have e:Zgj l i a b save=[ra,rb]:=by rw[Zgj,if_neg (by simpa using h),<- hra,<- hrb]
 rw[e]
 repeat (first|refine walk ?_|(refine jn ?_;(try intro F);(first|(refine bx ?_;intro bk)|(refine stA ?_)|(apply Zae;exact PuA));refine fin ?_)|(apply RD_W;rfl;intro bk))
 exact ret_1 _ [.blk bk (List.flatMap Zab.enc [ra,rb]) 82] (.tmp rfl) SOA ⟨_,rfl,rfl⟩
attribute [local irreducible] Zgj
def Zqa (n:Int):List Value:=[.int .i64 n]
theorem Zqa.len (n:Int):(Zqa n).length=1:=rfl
theorem Zp1 (x:ByteArray):∀ (l:List Zab) (k:Nat) (r:Zab),l[k]?=some r->lay (l.flatMap Zab.enc) (k*11) [.string x]=(l.take k++ZcL x r::l.drop (k+1)).flatMap Zab.enc
 | [],k,r,h=>by simp at h
 | a::l,0,r,h=>by
  simp only[List.getElem?_cons_zero,Option.some.injEq]at h
  subst h
  simp[lay,ZcL,Zab.enc]
 | a::l,k+1,r,h=>by
  have ih:=Zp1 x l k r (by simpa using h)
  simp only[lay]at ih ⊢
  simp only[List.flatMap_cons,List.take_succ_cons,List.drop_succ_cons,List.cons_append]
  rw[<- ih]
  rw[show(k+1)*11=a.enc.length+k*11 by rw[Zab.len];omega,List.set_append_right _ _ (by omega),Nat.add_sub_cancel_left]
theorem ZkZ {x:ByteArray}{l:List Zab}{k:Nat}(r:Zab)(hr:l[k]?=some r):((l.take k).map (ZcL x)++l.drop k)[k]?=some r:=by
 have hk:=(List.getElem?_eq_some_iff.1 hr).1
 have e:((l.take k).map (ZcL x)).length=k:=by rw[List.length_map,List.length_take];omega
 rw[List.getElem?_append_right (by omega),e,Nat.sub_self,List.getElem?_drop]
 exact hr
theorem Zri (x:ByteArray)(l:List Zab)(k:Nat)(r:Zab)(hr:l[k]?=some r) :
  lay (((l.take k).map (ZcL x)++l.drop k).flatMap Zab.enc) (k*11+0) [.string x]=((l.take (k+1)).map (ZcL x)++l.drop (k+1)).flatMap Zab.enc:=by
 have hk:=(List.getElem?_eq_some_iff.1 hr).1
 have e:((l.take k).map (ZcL x)).length=k:=by rw[List.length_map,List.length_take];omega
 rw[Nat.add_zero,Zp1 x _ k r (ZkZ r hr),List.take_append_of_le_length (by omega),List.take_of_length_le (by omega)]
 congr 1
 rw[List.drop_append,List.drop_eq_nil_of_le (by omega),e,List.nil_append,List.drop_drop,List.take_add_one,List.map_append,List.append_assoc,hr,show k+(k+1 - k)=k+1 by omega]
 rfl
set_option maxHeartbeats 8000000 in
theorem Zor (A:Option Addr)(c:Nat)(l:List Int)(x:ByteArray)(w:World)(hA:RdSl w A c Zez 1 l)(hr:∀ x∈l,inR .u8 x) :
  Does Tryz.prog 15 [.slice A l.length c,.string x] w (fun v O=>∃ A' c',v = .slice A' (Zca l x).length c'/\O=[.row (.slice A' (Zca l x).length c') 82 11 (Zca l x).length ((Zca l x).flatMap Zab.enc)]):=by
 have r0:=Zaq l 0 5 (by decide)
 have r1:=Zaq l 1 80 (by decide)
 have r3:=Zaq l 3 28 (by decide)
 have r6:=Zaq l 6 12 (by decide)
 have r8:=Zaq l 8 5 (by decide)
 have r9:=Zaq l 9 6 (by decide)
 obtain⟨q1,q2,q3⟩:=ZmC l
 obtain⟨q4,q5,q6⟩:=Zp5 l (m1 l).1 (m1 l).2 q1 q2 q3
 have hget:Zg0[(atB l 0 5).toNat]?=some (ZbC l):=by
  have hk:(atB l 0 5).toNat<Zg0.length:=by simp only[Zg0,List.length_cons,List.length_nil];omega
  rw[ZbC,List.getD_eq_getElem?_getD,List.getElem?_eq_getElem hk]
  rfl
 refine Zaa Tryz.func15 rfl rfl rfl rfl ?_
 repeat (first|(apply RL_pu;rfl;(apply Zep (v := .int .i64 (ZbC l));rfl;(intro w' _ hO;exact((Zk9 (c:=5) (l:=Zg0) (t:=2) Zqa.len (Nat.le_refl 5) (by decide) (hO.of (A := .blk bk (Zg0.flatMap Zqa) _) (by repeat' constructor))).rd _ _ hget).2 0 _ rfl)))|(refine js ?_;(first|(refine Zac (fun w' hw=>Zbk A c l 0 5 w' (hA.up hw) hr (by omega) (by omega)) ?_)|(refine Zac (fun w' hw=>Zbk A c l 1 80 w' (hA.up hw) hr (by omega) (by omega)) ?_)|(refine Zac (fun w' hw=>Zbk A c l 2 3 w' (hA.up hw) hr (by omega) (by omega)) ?_)|(refine bx ?_;intro bk)))|refine walk1 ?_)
 refine ZfA 82 11 ?_
 refine Zbx (fun fr' O'=>∃ A' c' n xs,(n=(m1 l).1.length/\xs=(m1 l).1.flatMap Zab.enc)/\Sub [(0,.slice A l.length c),(1,.string x),(5,.int .i64 (ZbC l)),(6,.int .i64 (m1 l).2),(7,.slice A' n c')] fr'/\SubO [.row (.slice A' n c') 82 11 n xs] O') ?_ ?_
 ·refine Zaf rfl (fun h=>?_) (fun h=>?_)
  ·have e:m1 l=([Zy6 l (1900+atB l 1 80)],1900+atB l 1 80+1):=by rw[m1,if_pos (by simpa using h)]
   repeat (first|(refine js ?_;(first|(refine Zac (fun w' hw=>Zbk A c l 3 28 w' (hA.up hw) hr (by omega) (by omega)) ?_)|(refine Zac (fun w' hw=>Zhk A c l 4 w' (hA.up hw) hr (by omega) (by omega)) ?_)|(apply ZaE;rfl;rfl;(intro A' c';(focus repeat' constructor));(intro w' _ hO;exact ZbP (hO.of (by repeat' constructor)));rfl;rfl;(simp only[maxLen];omega);omega;intro A' c' hc1 hc2 hc3)|(refine bx ?_;intro bk)))|refine walk ?_)
   rw[e]
   exact⟨rfl,A',c',0+1,[]++(Zy6 l (1900+atB l 1 80)).enc,⟨rfl,rfl⟩,SFA,SOA⟩
  have e:m1 l=([],1900+atB l 1 80):=by rw[m1,if_neg (by simpa using h)]
  repeat (first|(refine js ?_;(refine bx ?_;intro bk))|refine walk ?_)
  rw[e]
  exact⟨rfl,none,0,0,[],⟨rfl,rfl⟩,SFA,SOA⟩
 rintro fr' O' ⟨A1,c1,n1,x1,⟨hn1,hx1⟩,hf,hO⟩
 apply thenQ_n
 refine Zb0 hf hO ?_
 clear hf hO fr' O'
 repeat (first|(refine js ?_;(first|(refine Zac (fun w' hw=>Zbk A c l 5 2 w' (hA.up hw) hr (by omega) (by omega)) ?_)|(refine bx ?_;intro bk)))|refine walk ?_)
 rw[Zca]
 generalize m1 l=g1 at *
 obtain⟨o1,f1⟩:=g1
 dsimp only at *
 refine Zbx (fun fr' O'=>∃ A' c' n xs,(n=(m2 l o1 f1).1.length/\xs=(m2 l o1 f1).1.flatMap Zab.enc)/\Sub [(0,.slice A l.length c),(1,.string x),(5,.int .i64 (ZbC l)),(6,.int .i64 (m2 l o1 f1).2),(7,.slice A' n c')] fr'/\SubO [.row (.slice A' n c') 82 11 n xs] O') ?_ ?_
 ·refine Zaf rfl (fun h=>?_) (fun h=>?_)
  ·have e:m2 l o1 f1=(o1++Zgj l 7 f1 (f1+atB l 6 12) (ZbC l),f1+atB l 6 12+1+atB l 8 5):=by rw[m2,if_pos (by simpa using h)]
   repeat (first|(refine js ?_;(first|(refine Zac (fun w' hw=>Zbk A c l 6 12 w' (hA.up hw) hr (by omega) (by omega)) ?_)|(refine Zac (fun w' hw=>Zbk A c l 8 5 w' (hA.up hw) hr (by omega) (by omega)) ?_)|(apply Zag (h:=fun w' hw _=>Ziv A c l 7 f1 (f1+atB l 6 12) (ZbC l) w' (hA.up hw) hr (by omega) (by omega));rfl;rintro v O' ⟨k1,rfl,rfl⟩)|(apply ZaE;rfl;rfl;(intro A' c';(focus repeat' constructor));(intro w' _ hO;exact ZbP (hO.of (by repeat' constructor)));(rw[Zbf Zab.len,Zdb]);exact Zfp oneR _;(simp only[maxLen];omega);omega;intro A' c' hc1 hc2 hc3)|(refine bx ?_;intro bk)))|refine walk ?_)
   rw[e]
   exact⟨rfl,A',c',n1+2,x1++_,⟨by rw[List.length_append,Zdb,hn1],by rw[List.flatMap_append,hx1]⟩,SFA,SOA⟩
  have e:m2 l o1 f1=(o1,f1):=by rw[m2,if_neg (by simpa using h)]
  repeat (first|(refine js ?_;(refine bx ?_;intro bk))|refine walk ?_)
  rw[e]
  exact⟨rfl,A1,c1,n1,x1,⟨hn1,hx1⟩,SFA,SOA⟩
 rintro fr' O' ⟨A2,c2,n2,x2,⟨hn2,hx2⟩,hf,hO⟩
 apply thenQ_n
 refine Zb0 hf hO ?_
 clear hf hO fr' O'
 generalize m2 l o1 f1=g2 at *
 obtain⟨o2,f2⟩:=g2
 dsimp only at *
 repeat (first|(refine js ?_;(first|(refine Zac (fun w' hw=>Zbk A c l 9 6 w' (hA.up hw) hr (by omega) (by omega)) ?_)|(refine Zac (fun w' hw=>Zbk A c l 10 3 w' (hA.up hw) hr (by omega) (by omega)) ?_)|(refine bx ?_;intro bk)))|refine walk ?_)
 refine Zbx (fun fr' O'=>Sub [(0,.slice A l.length c),(1,.string x),(5,.int .i64 (ZbC l)),(6,.int .i64 f2),(7,.slice A2 n2 c2),(9,.int .i64 (to17 l f2))] fr'/\SubO [.row (.slice A2 n2 c2) 82 11 n2 x2] O') ?_ ?_
 ·refine Zaf rfl (fun h=>?_) (fun h=>?_)
  ·have e:to17 l f2=1048576:=by rw[to17,if_pos (by simpa using h)]
   repeat (first|(refine js ?_;(refine bx ?_;intro bk))|refine walk ?_)
   rw[e]
   exact⟨rfl,SFA,SOA⟩
  have e:to17 l f2=f2+atB l 9 6:=by rw[to17,if_neg (by simpa using h)]
  repeat (first|(refine js ?_;(refine bx ?_;intro bk))|refine walk ?_)
  rw[e]
  exact⟨rfl,SFA,SOA⟩
 rintro fr' O' ⟨hf,hO⟩
 apply thenQ_n
 refine Zb0 hf hO ?_
 clear hf hO fr' O'
 repeat (first|(refine js ?_;(first|(apply Zag (h:=fun w' hw _=>Ziv A c l 11 f2 (to17 l f2) (ZbC l) w' (hA.up hw) hr (by omega) (by omega));rfl;rintro v O' ⟨k1,rfl,rfl⟩)|(apply ZaE;rfl;rfl;(intro A' c';(focus repeat' constructor));(intro w' _ hO;exact ZbP (hO.of (by repeat' constructor)));(rw[Zbf Zab.len,Zdb]);exact Zfp oneR _;(simp only[maxLen];omega);omega;intro A' c' hc1 hc2 hc3)|(refine bx ?_;intro bk)))|refine walk ?_)
 obtain⟨o3,ho3⟩:∃ o3,m3 l o2 f2=o3:=⟨_,rfl⟩
 have hx3:x2++(Zgj l 11 f2 (to17 l f2) (ZbC l)).flatMap Zab.enc=o3.flatMap Zab.enc:=by rw[<- ho3,m3,List.flatMap_append,hx2]
 have hn3:n2+2=o3.length:=by rw[<- ho3,m3,List.length_append,Zdb,hn2]
 have hn5:o3.length<=5:=by omega
 rw[ho3,hx3,hn3]
 have hAn:A'≠none:=hc3 (by omega)
 refine Zao [(1,.string x),(7,.slice A' o3.length c'),(70,.int .i64 o3.length)] [] (fun k:Nat=>[(71,.int .i64 k)]) (fun k=>[.row (.slice A' o3.length c') 82 11 o3.length (((o3.take k).map (ZcL x)++o3.drop k).flatMap Zab.enc)]) (fun k=>k<=o3.length) (fun k=>o3.length - k) 0 SFA SOA (Nat.zero_le _) ?_
 intro k hk
 repeat (first|(refine js ?_;(refine bx ?_;intro bk))|refine walk ?_)
 refine Zaf rfl (fun h=>?_) (fun h=>?_)
 ·have hk2:k<o3.length:=by simpa using h
  have hll:(((o3.take k).map (ZcL x)++o3.drop k).flatMap Zab.enc).length=o3.length*11:=by
   rw[Zbf Zab.len,List.length_append,List.length_map,List.length_take,List.length_drop,Nat.min_eq_left hk]
   congr 1;omega
  repeat (first|(apply RL_pu;rfl;(first|(apply Pu_indexAddr;rfl;rfl;omega;omega;exact hAn)|(apply ZlH;rfl)))|(refine js ?_;(first|(apply ZkH;rfl;rfl;(focus repeat' constructor);rfl;rfl;rfl;(rw[hll];omega);decide;exact Zri x o3 k _ (List.getElem?_eq_getElem hk2))|(refine bx ?_;intro bk)))|refine walk1 ?_)
  exact⟨k+1,OA,OA,SFA,SOA⟩
 have hk2:k=o3.length:=by simp only[decide_eq_false_iff_not]at h;omega
 subst hk2
 repeat (first|(refine js ?_;(refine bx ?_;intro bk))|refine walk ?_)
 have e:(o3.take o3.length).map (ZcL x)++o3.drop o3.length=o3.map (ZcL x):=by rw[List.take_length,List.drop_length,List.append_nil]
 rw[e]
 refine ret_1 _ [.row (.slice A' (o3.map (ZcL x)).length c') 82 11 (o3.map (ZcL x)).length ((o3.map (ZcL x)).flatMap Zab.enc)] (.tmp (v := .slice A' (o3.map (ZcL x)).length c') (by rw[List.length_map];rfl)) (by rw[List.length_map];exact SOA) ⟨A',c',rfl,rfl⟩
end Go.Proofs.YtdlmhmmhdbbliaaGreatDoor
namespace Go.Proofs.YtdlmhmmhdbbliaaGreatDoor
open Go Go.RowKit Go.Wk Go.ChangeShapes Go.WideShapes Go.ChangeAt
structure _root_.Go.Wk.E23 where
 mk ::
 kind:Int
 set:Int
 format:Int
 years:Int
 day:Int
 base:Int
 off:Int
 at_:Int
 deriving DecidableEq
def _root_.Go.Wk.E23.enc (d:E23):List Value:=[.int .u8 d.kind,.int .u8 d.set,.int .u8 d.format,.int .u8 d.years,.int .u8 d.day,.int .u8 d.base,.int .i8 d.off,.int .i8 d.at_]
section
variable {H:Type}{enc:TypeId × Value->H}{w:World}{sp:Nat->Bool}{held:Bool}
def _root_.Go.Wk.E23.ok (d:E23):Prop:=inR .u8 d.kind/\inR .u8 d.set/\inR .u8 d.format/\inR .u8 d.years/\inR .u8 d.day/\inR .u8 d.base/\inR .i8 d.off/\inR .i8 d.at_
theorem ZAg {n:Nat}{cs:List Value}{y:DataW H × List MemPlace}(h:DataW.trod enc Tryz.prog w 0 sp held n 67 cs=some y):∃ d:E23,cs=d.enc/\d.ok:=by
 obtain⟨hl,hf⟩:=Zqe Tryz.underlying67 h
 rw[show Tryz.prog.cellsOf 67=8 from by kernel_rfl]at hl
 have c5:Tryz.prog.cellsOf 5=1:=by kernel_rfl
 have c65:Tryz.prog.cellsOf 65=1:=by kernel_rfl
 obtain⟨a0,cs0,rfl,hl0⟩:=Zbs hl
 obtain⟨a1,cs1,rfl,hl1⟩:=Zbs hl0
 obtain⟨a2,cs2,rfl,hl2⟩:=Zbs hl1
 obtain⟨a3,cs3,rfl,hl3⟩:=Zbs hl2
 obtain⟨a4,cs4,rfl,hl4⟩:=Zbs hl3
 obtain⟨a5,cs5,rfl,hl5⟩:=Zbs hl4
 obtain⟨a6,cs6,rfl,hl6⟩:=Zbs hl5
 obtain⟨a7,cs7,rfl,hl7⟩:=Zbs hl6
 obtain rfl:=List.eq_nil_of_length_eq_zero hl7
 obtain⟨n0,y0,h0⟩:=hf 0 5 0 1 rfl c5
 obtain⟨x0,e0,_,b0⟩:=DataW.trod_int Tryz.underlying5 h0
 injection e0 with e0 _
 subst e0
 obtain⟨n1,y1,h1⟩:=hf 1 5 1 1 rfl c5
 obtain⟨x1,e1,_,b1⟩:=DataW.trod_int Tryz.underlying5 h1
 injection e1 with e1 _
 subst e1
 obtain⟨n2,y2,h2⟩:=hf 2 5 2 1 rfl c5
 obtain⟨x2,e2,_,b2⟩:=DataW.trod_int Tryz.underlying5 h2
 injection e2 with e2 _
 subst e2
 obtain⟨n3,y3,h3⟩:=hf 3 5 3 1 rfl c5
 obtain⟨x3,e3,_,b3⟩:=DataW.trod_int Tryz.underlying5 h3
 injection e3 with e3 _
 subst e3
 obtain⟨n4,y4,h4⟩:=hf 4 5 4 1 rfl c5
 obtain⟨x4,e4,_,b4⟩:=DataW.trod_int Tryz.underlying5 h4
 injection e4 with e4 _
 subst e4
 obtain⟨n5,y5,h5⟩:=hf 5 5 5 1 rfl c5
 obtain⟨x5,e5,_,b5⟩:=DataW.trod_int Tryz.underlying5 h5
 injection e5 with e5 _
 subst e5
 obtain⟨n6,y6,h6⟩:=hf 6 65 6 1 rfl c65
 obtain⟨x6,e6,_,b6⟩:=DataW.trod_int Tryz.underlying65 h6
 injection e6 with e6 _
 subst e6
 obtain⟨n7,y7,h7⟩:=hf 7 65 7 1 rfl c65
 obtain⟨x7,e7,_,b7⟩:=DataW.trod_int Tryz.underlying65 h7
 injection e7 with e7 _
 subst e7
 exact⟨⟨x0,x1,x2,x3,x4,x5,x6,x7⟩,rfl,ZeT b0,ZeT b1,ZeT b2,ZeT b3,ZeT b4,ZeT b5,ZeT b6,ZeT b7⟩
end
end Go.Proofs.YtdlmhmmhdbbliaaGreatDoor
namespace Go.Wk
open Go Go.RowKit
section
variable {P:Program}{n:Nat}{wr:World}{fr:Fr}{O:List It}{ty:TypeId}
theorem Zu4 {t:TypeId}{x y z:Operand}{s:ByteArray}{k k':IntKind}{i j:Int}[hS:StringT P t](hx:ev fr x=some (.string s))(hy:ev fr y=some (.int k i))(hz:ev fr z=some (.int k' j))(h0:0<=i)(h1:i<=j)(h2:j<=s.size) :
  Pu P n wr fr O (.slice t x (some y) (some z) none) ty (.string (s.extract i.toNat j.toNat)):=fun a w hs _ _ _ _=>by
 have h:=run_slice_string (P:=P) w t s k k' i j hS.h h0 h1 h2
 simp[execOp,hs.sim.ev hx,hs.sim.ev hy,hs.sim.ev hz,Instr.sliceAt,run_underlying hS.h,h]
end
end Go.Wk
namespace Go.Proofs.YtdlmhmmhdbbliaaGreatDoor
open Go Go.RowKit Go.Wk
attribute [local irreducible] W RL Does Zau Zak retQ Calls Pu Stp RD Qy Ay Zaj
def Zm5:ByteArray:=⟨#[48,49,50,51,52,53,54,55,56,57,97,98,99,100,101,102,103,104,105,106,107,108,109,110,111,112,113,114,115,116,117,118,119,120,121,122]⟩
def dig (i:Int):ByteArray:=Zm5.extract i.toNat (i+1).toNat
theorem Zn9 (i:Int)(h0:0<=i)(h1:i<10)(w:World):Does Tryz.prog 126 [.int .i64 i] w (fun v O=>v = .string (dig i)/\O=[]):=by
 refine Zaa Tryz.func126 rfl rfl rfl rfl ?_
 repeat (first|refine walk ?_)
 refine Zaf rfl (fun h=>?_) (fun h=>absurd h (by simp;omega))
 repeat (first|(apply RL_pu;rfl;(apply Zu4;rfl;rfl;rfl;omega;omega;(show i+1<=((36:Nat):Int);omega)))|refine walk1 ?_)
 exact rtA
theorem ZjP (i:Int)(h0:0<=i)(h1:i<10)(w:World):Does Tryz.prog 86 [.int .i64 i,.int .i64 10] w (fun v O=>v = .string (dig i)/\O=[]):=by
 refine Zaa Tryz.func86 rfl rfl rfl rfl ?_
 repeat (first|(refine js ?_;(refine bx ?_;intro bk))|refine walk ?_)
 refine ZlB 14 rfl (fun _=>?_) (fun h=>absurd h (by simp;omega))
 repeat (first|(refine js ?_;(refine bx ?_;intro bk))|refine walk ?_)
 refine Zaf rfl (fun h=>?_) (fun h=>absurd h (by simp;omega))
 repeat (first|(refine js ?_;(first|(refine Zac (fun w' _=>Zn9 i h0 h1 w') ?_)|(refine bx ?_;intro bk)))|refine walk ?_)
 exact rtA
theorem Zrw (i:Int)(h0:0<=i)(h1:i<10)(w:World):Does Tryz.prog 51 [.int .i64 i] w (fun v O=>v = .string (dig i)/\O=[]):=by
 refine Zaa Tryz.func51 rfl rfl rfl rfl ?_
 repeat (first|(refine js ?_;(refine Zac (fun w' _=>ZjP i h0 h1 w') ?_))|refine walk ?_)
 exact rtA
theorem Zdg (i:Int)(h0:0<=i)(h1:i<10)(w:World):Does Tryz.prog 16 [.int .i64 i] w (fun v O=>v = .string (dig i)/\O=[]):=by
 refine Zaa Tryz.func16 rfl rfl rfl rfl ?_
 repeat (first|(refine js ?_;(refine Zac (fun w' _=>Zrw i h0 h1 w') ?_))|refine walk ?_)
 exact rtA
def Zkq:List ByteArray:=[⟨#[76,77,84]⟩,⟨#[71,77,84,47,66,83,84]⟩,⟨#[69,37,115,83,84]⟩,⟨#[37,122]⟩,⟨#[67,69,84,47,67,69,83,84]⟩,⟨#[87,83,84]⟩]
def Zhc (n:Int):ByteArray:=Zkq.getD (n % 6).toNat ByteArray.empty
theorem Zlh (n:Int)(h0:0<=n)(w:World):Does Tryz.prog 52 [.int .u8 n] w (fun v O=>v = .string (Zhc n)/\O=[]):=by
 have hm0:=Int.emod_nonneg n (b:=6) (by decide)
 have hm1:=Int.emod_lt_of_pos n (b:=6) (by decide)
 have hget:Zkq[(n % 6).toNat]?=some (Zhc n):=by
  have hk:(n % 6).toNat<Zkq.length:=by simp only[Zkq,List.length_cons,List.length_nil];omega
  rw[Zhc,List.getD_eq_getElem?_getD,List.getElem?_eq_getElem hk]
  rfl
 refine Zaa Tryz.func52 rfl rfl rfl rfl ?_
 repeat (first|(apply RL_pu;rfl;(apply Zep (v := .string (Zhc n));rfl;(intro w' _ hO;exact((Zk9 (c:=6) (l:=Zkq) (t:=9) Za2.len (Nat.le_refl 6) (by decide) (hO.of (A := .blk bk (Zkq.flatMap Za2) _) (by repeat' constructor))).rd _ _ hget).2 0 _ rfl)))|(refine js ?_;(refine bx ?_;intro bk))|refine walk1 ?_)
 exact rtA
theorem ZlZ (y m d:Int)(w:World):Does Tryz.prog 53 [.int .i64 y,.int .i64 m,.int .i64 d] w (fun v O=>v = .agg #[.bool true,.int .i64 y,.int .i64 m,.int .i64 1,.int .i64 0,.int .i64 d,.int .i64 0,.int .i64 0]/\O=[]):=by
 refine Zaa Tryz.func53 rfl rfl rfl rfl ?_
 repeat (first|(refine js ?_;(refine bx ?_;intro bk))|refine walk ?_)
 exact ret_1 _ [] (.cellB rfl (by repeat' constructor) rfl rfl) .nil ⟨rfl,rfl⟩
attribute [local irreducible] dig Zhc
def sR:ByteArray:=⟨#[82]⟩
def ZdS (e:E23)(first:Bool):Int:=if first=true/\e.kind % 3=2 then 0 else e.kind % 3
def Zgf (e:E23)(first:Bool):Int:=if ZdS e first=1 then 1800*(1+e.set % 4) else 0
def Ziq (e:E23)(first:Bool)(sets:Int):ByteArray:=if ZdS e first=2 then sR++dig (e.set % sets) else ByteArray.empty
def Zt8 (e:E23):DDay:=if e.day >= 200 then ⟨3,e.day % 7,8⟩ else ⟨1,0,1+e.day % 20⟩
def Zl0 (e:E23)(year:Int)(fen:Bool):ZaY:=if fen=true then ⟨true,year,1,Zt8 e,⟨900*(24+e.at_.tmod 24),e.base % 3⟩⟩ else ⟨false,0,0,⟨0,0,0⟩,⟨0,0⟩⟩
def Zlk (e:E23)(first:Bool)(sets year:Int)(fen:Bool):DEra:=⟨900*e.off.tmod 48,ZdS e first,Zgf e first,Ziq e first sets,Zhc e.format,Zl0 e year fen⟩
theorem ZhW (a b:Int)(hb:0<b) : -b<a.tmod b/\a.tmod b<b:=⟨Int.lt_tmod_of_pos a hb,Int.tmod_lt_of_pos a hb⟩
theorem Zh3 (i:Int)(h0:0<=i)(h1:i<10):(dig i).size=1:=by
 unfold dig
 rw[ByteArray.size_extract]
 have:Zm5.size=36:=rfl
 omega
theorem ZbJ {G G':Prop}(k:G')(h:Hold G'->G:=by intro k9;(first|refine walk ?_|(refine jn ?_;(try intro F);(first|(refine stA ?_)|(apply Zae;exact PuA));refine fin ?_));exact k9.out):G:=h ⟨k⟩
theorem Zcs {G:Prop}(h:G:=by(first|(apply ZcQ;rfl;rfl;omega)|(apply Pu_rem (kk := .i8);rfl;rfl;decide))):G:=h
theorem Zfu {G:Prop}(h:G:=by first|(apply Qy_y;rfl;exact Zcs)|exact QyA):G:=h
theorem Zfv {G:Prop}(h:G:=by repeat (first|exact QF.nil|(apply QF.mk;rfl;rfl;decide +kernel;exact Zfu))):G:=h
theorem ZkQ {G:Prop}(h:G:=by(first|(apply ZcQ;rfl;rfl;omega)|(apply Zu8;rfl;rfl;omega))):G:=h
theorem ZkP {G:Prop}(h:G:=by(apply Ze4;rfl;rfl;(rw[Zh3 _ (by omega) (by omega)];decide))):G:=h
set_option maxHeartbeats 8000000 in
theorem ZrI (e:E23)(he:e.ok)(first:Bool)(sets year:Int)(fen:Bool)(hs0:0<sets)(hs1:sets<=10)(w:World) :
  Does Tryz.prog 17 [.agg e.enc.toArray,.bool first,.int .i64 sets,.int .i64 year,.bool fen] w (fun v O=>v = .agg (Zlk e first sets year fen).enc.toArray/\O=[]):=by
 obtain⟨k1,k2,k3,k4,k5,k6,k7,k8⟩:=he
 rw[Zkn]at k1 k2 k3 k4 k5 k6
 rw[ZxC]at k7 k8
 have t1:=ZhW e.off 48 (by decide)
 have t2:=ZhW e.at_ 24 (by decide)
 have m1:=Int.emod_nonneg e.set (b:=sets) (by omega)
 have m2:=Int.emod_lt_of_pos e.set (b:=sets) hs0
 show Does _ _ [.agg #[.int .u8 e.kind,.int .u8 e.set,.int .u8 e.format,.int .u8 e.years,.int .u8 e.day,.int .u8 e.base,.int .i8 e.off,.int .i8 e.at_],.bool first,.int .i64 sets,.int .i64 year,.bool fen] w _
 refine Zaa Tryz.func17 rfl rfl rfl rfl ?_
 repeat (first|(apply RL_pu;rfl;exact Zcs)|(apply RD_Q;rfl;rfl;decide +kernel;rfl;rfl;exact Zfu)|refine walk1 ?_|(refine jg ?_;(try intro F);(first|(refine Zac (fun w' _=>Zlh e.format k3.1 w') ?_)|(refine bx ?_;intro bk)|(refine stA ?_));first|refine⟨_,EndsA,Zfv,?_⟩|refine fin ?_)|(refine jn ?_;(try intro F);(first|(refine bx ?_;intro bk)|(refine stA ?_)|(apply Zae;first|exact Zcs|exact PuA));first|refine⟨_,EndsA,Zfv,?_⟩|refine fin ?_)|(apply RD_W;rfl;intro bk))
 rename_i b5 b10 _
 generalize bk=b11
 refine ZzO (fun fr' O'=>Sub [(30,.bool (decide (first=true/\e.kind % 3=2))),(2,.int .i64 sets),(3,.int .i64 year),(4,.bool fen),(5,.pointer (some ⟨b5,0,none⟩)),(10,.pointer (some ⟨b10,0,none⟩)),(11,.pointer (some ⟨b11,0,none⟩))] fr'/\SubO [.blk b11 [.int .i64 (900*e.off.tmod 48),.int .i64 (e.kind % 3),.int .i64 0,.string ByteArray.empty,.string (Zhc e.format),.bool false,.int .i64 0,.int .i64 0,.int .i64 0,.int .i64 0,.int .i64 0,.int .i64 0,.int .i64 0] 75,.blk b10 [.int .i64 0,.int .i64 0,.int .i64 0,.string ByteArray.empty,.string ByteArray.empty,.bool false,.int .i64 0,.int .i64 0,.int .i64 0,.int .i64 0,.int .i64 0,.int .i64 0,.int .i64 0] 75,.blk b5 [.int .u8 e.kind,.int .u8 e.set,.int .u8 e.format,.int .u8 e.years,.int .u8 e.day,.int .u8 e.base,.int .i8 e.off,.int .i8 e.at_] 67] O') ?_ ?_
 ·refine ZlB 26 rfl (fun h=>?_) (fun h=>?_)
  ·repeat (first|refine ZbJ ?_|(refine jn ?_;(try intro F);(refine bx ?_;intro bk);refine fin ?_)|(apply RD_W;rfl;intro bk))
   rw[show decide (first=true/\e.kind % 3=2)=decide (e.kind % 3=2) from decide_eq_decide.2 (by simp[h])]
   exact⟨SFA,SOA⟩
  ·repeat (first|refine ZbJ ?_|(refine jn ?_;(try intro F);(refine bx ?_;intro bk);refine fin ?_)|(apply RD_W;rfl;intro bk))
   rw[decide_eq_false (by simp[h])]
   exact⟨SFA,SOA⟩
 rintro fr' O' ⟨hf,hO⟩
 apply thenQ_n
 refine Zb0 hf hO ?_
 clear hf hO fr' O'
 refine Zbx (fun fr' O'=>Sub [(2,.int .i64 sets),(3,.int .i64 year),(4,.bool fen),(5,.pointer (some ⟨b5,0,none⟩)),(10,.pointer (some ⟨b10,0,none⟩)),(11,.pointer (some ⟨b11,0,none⟩))] fr'/\SubO [.blk b11 [.int .i64 (900*e.off.tmod 48),.int .i64 (ZdS e first),.int .i64 0,.string ByteArray.empty,.string (Zhc e.format),.bool false,.int .i64 0,.int .i64 0,.int .i64 0,.int .i64 0,.int .i64 0,.int .i64 0,.int .i64 0] 75,.blk b10 [.int .i64 0,.int .i64 0,.int .i64 0,.string ByteArray.empty,.string ByteArray.empty,.bool false,.int .i64 0,.int .i64 0,.int .i64 0,.int .i64 0,.int .i64 0,.int .i64 0,.int .i64 0] 75,.blk b5 [.int .u8 e.kind,.int .u8 e.set,.int .u8 e.format,.int .u8 e.years,.int .u8 e.day,.int .u8 e.base,.int .i8 e.off,.int .i8 e.at_] 67] O') ?_ ?_
 ·refine Zaf rfl (fun h=>?_) (fun h=>?_)
  ·rw[show ZdS e first=0 from if_pos (of_decide_eq_true h)]
   repeat (first|refine ZbJ ?_|(refine jn ?_;(try intro F);(refine bx ?_;intro bk);refine fin ?_)|(apply RD_W;rfl;intro bk))
   exact⟨rfl,SFA,SOA⟩
  ·rw[show ZdS e first=e.kind % 3 from if_neg (of_decide_eq_false h)]
   repeat (first|refine ZbJ ?_|(refine jn ?_;(try intro F);(refine bx ?_;intro bk);refine fin ?_)|(apply RD_W;rfl;intro bk))
   exact⟨rfl,SFA,SOA⟩
 rintro fr' O' ⟨hf,hO⟩
 apply thenQ_n
 refine Zb0 hf hO ?_
 clear hf hO fr' O'
 repeat (first|refine ZhQ ?_|(refine jn ?_;(try intro F);(first|(refine bx ?_;intro bk)|(refine stA ?_)|(apply Zae;exact PuA));refine fin ?_)|(apply RD_W;rfl;intro bk))
 refine Zbx (fun fr' O'=>Sub [(2,.int .i64 sets),(3,.int .i64 year),(4,.bool fen),(5,.pointer (some ⟨b5,0,none⟩)),(10,.pointer (some ⟨b10,0,none⟩)),(11,.pointer (some ⟨b11,0,none⟩))] fr'/\SubO [.blk b11 [.int .i64 (900*e.off.tmod 48),.int .i64 (ZdS e first),.int .i64 (Zgf e first),.string (Ziq e first sets),.string (Zhc e.format),.bool false,.int .i64 0,.int .i64 0,.int .i64 0,.int .i64 0,.int .i64 0,.int .i64 0,.int .i64 0] 75,.blk b10 [.int .i64 0,.int .i64 0,.int .i64 0,.string ByteArray.empty,.string ByteArray.empty,.bool false,.int .i64 0,.int .i64 0,.int .i64 0,.int .i64 0,.int .i64 0,.int .i64 0,.int .i64 0] 75,.blk b5 [.int .u8 e.kind,.int .u8 e.set,.int .u8 e.format,.int .u8 e.years,.int .u8 e.day,.int .u8 e.base,.int .i8 e.off,.int .i8 e.at_] 67] O') ?_ ?_
 ·repeat (first|refine ZbJ ?_|(refine jn ?_;(try intro F);(refine bx ?_;intro bk);refine fin ?_)|(apply RD_W;rfl;intro bk))
  refine Zaf rfl (fun h=>?_) (fun h=>?_)
  ·have hk:=of_decide_eq_true h
   rw[show Zgf e first=1800*(1+e.set % 4) from if_pos hk,show Ziq e first sets=ByteArray.empty from if_neg (by rw[hk];decide)]
   repeat (first|(apply RL_pu;rfl;exact ZkQ)|(apply RD_Q;rfl;rfl;decide +kernel;rfl;rfl;exact QyMadeE231)|refine walk1 ?_|(refine jn ?_;(try intro F);(first|(refine bx ?_;intro bk)|(refine stA ?_)|(apply Zae;first|exact ZkQ|exact PuA));first|refine⟨_,EndsA,QFMadeE231,?_⟩|refine fin ?_)|(apply RD_W;rfl;intro bk))
   exact⟨rfl,SFA,SOA⟩
  ·have hk:=of_decide_eq_false h
   rw[show Zgf e first=0 from if_neg hk]
   repeat (first|refine ZbJ ?_|(refine jn ?_;(try intro F);(refine bx ?_;intro bk);refine fin ?_)|(apply RD_W;rfl;intro bk))
   refine Zaf rfl (fun h2=>?_) (fun h2=>?_)
   ·rw[show Ziq e first sets=sR++dig (e.set % sets) from if_pos (of_decide_eq_true h2)]
    repeat (first|(apply RL_pu;rfl;exact ZkP)|(apply RD_Q;rfl;rfl;decide +kernel;rfl;rfl;exact QyMadeE232)|refine walk1 ?_|(refine jg ?_;(try intro F);(first|(refine Zac (fun w' _=>Zdg (e.set % sets) m1 (by omega) w') ?_)|(refine bx ?_;intro bk)|(refine stA ?_));first|refine⟨_,EndsA,QFMadeE232,?_⟩|refine fin ?_)|(refine jn ?_;(try intro F);(first|(refine bx ?_;intro bk)|(refine stA ?_)|(apply Zae;first|exact ZkP|exact PuA));first|refine⟨_,EndsA,QFMadeE232,?_⟩|refine fin ?_)|(apply RD_W;rfl;intro bk))
    exact⟨rfl,SFA,SOA⟩
   ·rw[show Ziq e first sets=ByteArray.empty from if_neg (of_decide_eq_false h2)]
    repeat (first|refine ZbJ ?_|(refine jn ?_;(try intro F);(refine bx ?_;intro bk);refine fin ?_)|(apply RD_W;rfl;intro bk))
    exact⟨rfl,SFA,SOA⟩
 rintro fr' O' ⟨hf,hO⟩
 apply thenQ_n
 refine Zb0 hf hO ?_
 clear hf hO fr' O'
 have hE:∀ u:ZaY,Zl0 e year fen=u->(Zlk e first sets year fen).enc=[.int .i64 (900*e.off.tmod 48),.int .i64 (ZdS e first),.int .i64 (Zgf e first),.string (Ziq e first sets),.string (Zhc e.format),.bool u.is,.int .i64 u.year,.int .i64 u.month,.int .i64 u.day.kind,.int .i64 u.day.week,.int .i64 u.day.day,.int .i64 u.at_.sec,.int .i64 u.at_.base]:=fun u hu=>by rw[<- hu];rfl
 generalize ZdS e first=K at *
 generalize Zgf e first=SV at *
 generalize Ziq e first sets=ST at *
 repeat (first|refine ZbJ ?_|(refine jn ?_;(try intro F);(refine bx ?_;intro bk);refine fin ?_)|(apply RD_W;rfl;intro bk))
 refine Zaf rfl (fun h=>?_) (fun h=>?_)
 ·repeat (first|refine walk ?_|(refine jg ?_;(try intro F);(first|(refine Zac (fun w' _=>ZlZ year 1 (1+e.day % 20) w') ?_)|(refine bx ?_;intro bk)|(refine stA ?_));refine fin ?_)|(refine jn ?_;(try intro F);(first|(refine bx ?_;intro bk)|(refine stA ?_)|(apply Zae;exact PuA));refine fin ?_)|(apply RD_W;rfl;intro bk))
  refine Zaf rfl (fun h2=>?_) (fun h2=>?_)
  ·rw[hE ⟨true,year,1,⟨3,e.day % 7,8⟩,⟨900*(24+e.at_.tmod 24),e.base % 3⟩⟩ (by rw[Zl0,if_pos h,Zt8,if_pos (of_decide_eq_true h2)])]
   repeat (first|(apply RL_pu;rfl;exact Zcs)|(apply RD_Q;rfl;rfl;decide +kernel;rfl;rfl;exact Zfu)|refine walk1 ?_|(refine jn ?_;(try intro F);(first|(refine bx ?_;intro bk)|(refine stA ?_)|(apply Zae;first|exact Zcs|exact PuA));first|refine⟨_,EndsA,Zfv,?_⟩|refine fin ?_)|(apply RD_W;rfl;intro bk))
   exact ret_1 _ [] (.cellB rfl (by repeat' constructor) rfl rfl) .nil ⟨rfl,rfl⟩
  ·rw[hE ⟨true,year,1,⟨1,0,1+e.day % 20⟩,⟨900*(24+e.at_.tmod 24),e.base % 3⟩⟩ (by rw[Zl0,if_pos h,Zt8,if_neg (of_decide_eq_false h2)])]
   repeat (first|(apply RL_pu;rfl;exact Zcs)|(apply RD_Q;rfl;rfl;decide +kernel;rfl;rfl;exact Zfu)|refine walk1 ?_|(refine jn ?_;(try intro F);(first|(refine bx ?_;intro bk)|(refine stA ?_)|(apply Zae;first|exact Zcs|exact PuA));first|refine⟨_,EndsA,Zfv,?_⟩|refine fin ?_)|(apply RD_W;rfl;intro bk))
   exact ret_1 _ [] (.cellB rfl (by repeat' constructor) rfl rfl) .nil ⟨rfl,rfl⟩
 ·rw[hE ⟨false,0,0,⟨0,0,0⟩,⟨0,0⟩⟩ (by rw[Zl0,if_neg (by rw[h];decide)])]
  repeat (first|refine ZbJ ?_|(refine jn ?_;(try intro F);(refine bx ?_;intro bk);refine fin ?_)|(apply RD_W;rfl;intro bk))
  exact ret_1 _ [] (.cellB rfl (by repeat' constructor) rfl rfl) .nil ⟨rfl,rfl⟩
end Go.Proofs.YtdlmhmmhdbbliaaGreatDoor
