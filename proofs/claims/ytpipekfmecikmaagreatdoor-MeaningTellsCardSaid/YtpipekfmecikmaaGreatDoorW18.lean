/- Parts of the proof. -/
import Derived.Test.YtpipekfmecikmaaGreatDoorW11
import Derived.Test.YtpipekfmecikmaaGreatDoorW12
import Derived.Test.YtpipekfmecikmaaGreatDoorW16
import Derived.Shelf.SlSortCmp.NoneTotal
import Derived.Shelf.Lay
import Derived.Test.YtpipekfmecikmaaGreatDoorW05
import Derived.Sort.Grow
import Derived.Deep.Draws
import Derived.Deep.RegionHeld3
import Derived.Test.YtpipekfmecikmaaGreatDoorW10
import Derived.Test.YtpipekfmecikmaaGreatDoorW06
set_option maxHeartbeats 4000000
set_option linter.unusedVariables false
set_option linter.unusedSimpArgs false
set_option maxHeartbeats 2000000
namespace Go.Wk
open Go Go.RowKit
structure ZcX (s:DSource):Prop where
 nr:s.rules.length<=1000000
 nz:s.zones.length<=1000000
 nl:s.links.length<=1000000
 ns:s.shifts.length<=2000000
 rs:∀ r∈s.rules,r.name.size<=1000000000/\r.letter.size<=1000000000
 zs:∀ z∈s.zones,z.name.size<=1000000000/\z.eras.length<=1000000/\∀ e∈z.eras,e.set.size<=1000000000/\e.format.size<=1000000000
 ls:∀ l∈s.links,l.target.size<=1000000000/\l.name.size<=1000000000
def plV (p:Zaq):Value := .agg (Zaq.enc p).toArray
def ptV:Option (Zaq × Int)->Value
 | none => .tuple #[plV ⟨0,0,0⟩,.int .i64 0]
 | some (p,e) => .tuple #[plV p,.int .i64 e]
end Go.Wk
namespace Go.Proofs.YtpipekfmecikmaaGreatDoor
open Go Go.RowKit Go.Wk
attribute [local irreducible] W RL Does Zat Zaj retQ Calls Pu Stp RD Qy Ay Zak
theorem ZrI (Ar Az Al As:Option Addr)(C u B cs:Nat)(a:DSource)(t:Nat)(mk:List (ByteArray × Value))(w:World)(I:Zal w Ar Az Al As C u B cs a)(D:ZcX a)(H:MpAt w t mk)(J:IxM mk fun x=>ZaK x a.zones 0) :
  Does Tryz.prog 232 [srcV Ar Az Al As C u B cs a,.map (some t)] w (fun v O=>v=ptV (Za4 a a.zones 0)/\O=[]):=by
 have Q:=D.nz
 obtain⟨i,g⟩:∃ i,Za4 a a.zones 0=i:=⟨_,rfl⟩
 rw[g]
 refine Zaa Tryz.func232 rfl rfl rfl rfl ?_
 repeat (first|(refine js ?_;(refine bx ?_;intro d))|refine walk ?_)
 refine Zai [(1,.map (some t)),(4,.pointer (some ⟨d,0,none⟩)),(10,.slice Az a.zones.length u),(11,.int .i64 a.zones.length)] [.blk d [.int .i64 0,.int .i64 0,.int .i64 0] 138] (fun k:Nat=>[(12,.int .i64 k)]) (fun _=>[]) (fun k=>k<=a.zones.length/\Za4 a (a.zones.drop k) k=i) (fun k=>a.zones.length - k) 0 SFA SOA ⟨Nat.zero_le _,g⟩ ?_
 rintro k ⟨K,c⟩
 obtain⟨A,q⟩:∃ A,d=A:=⟨_,rfl⟩
 rw[q]at *
 clear q d
 repeat (first|(refine js ?_;(refine bx ?_;intro d))|refine walk ?_)
 refine Zaf rfl (fun m=>?_) (fun m=>?_)
 ·simp only[decide_eq_true_eq,Int.ofNat_lt]at m
  obtain⟨hna,F,⟨Ae,N,_,rfl⟩,hca⟩:=I.z k _ (List.getElem?_eq_getElem m)
  have f:=List.getElem_mem m
  rw[Zah m,Za4]at c
  generalize a.zones[k]=z at *
  have L:=(D.zs z f).1
  obtain⟨j,E⟩:=Zj5 0 f
  obtain⟨y,_⟩:=J.some E
  have r:=fun w'=>ZlJ z.name (by omega) w'
  rw[E]at c
  generalize Ze5 z.name=zb at *
  cases zb with
  | false =>
   rw[if_pos rfl]at c
   subst c
   repeat (first|(apply RL_pu;rfl;exact PuI)|(refine js ?_;(first|(refine Zab (fun w' M=>r w') ?_)|(refine bx ?_;intro d)))|refine walk1 ?_)
   exact rtC
  | true =>
   rw[if_neg (by decide)]at c
   repeat (first|(apply RL_pu;rfl;(first|exact PuI|(apply Znq;rfl;rfl;exact H;exact y)))|(refine js ?_;(first|(refine Zab (fun w' M=>r w') ?_)|(refine bx ?_;intro d)))|refine walk1 ?_)
   refine Zaf rfl (fun s=>?_) (fun s=>?_)
   ·simp only[Bool.not_eq_true',decide_eq_false_iff_not]at s
    rw[if_pos (fun e=>s (by simp only[Option.some.injEq]at e;omega))]at c
    subst c
    repeat (first|(refine js ?_;(refine bx ?_;intro d))|refine walk ?_)
    exact rtC
   ·simp only[Bool.not_eq_false',decide_eq_true_eq]at s
    rw[if_neg (fun e=>e (by congr 1;omega))]at c
    repeat (first|(refine js ?_;(refine bx ?_;intro d))|refine walk ?_)
    exact⟨k+1,OA,⟨OA,c⟩,SFA,SOA⟩
 ·simp only[decide_eq_false_iff_not,Int.ofNat_lt]at m
  rw[List.drop_eq_nil_of_le (by omega),Za4]at c
  subst c
  repeat (first|(refine js ?_;(refine bx ?_;intro d))|refine walk ?_)
  exact rtC
theorem IxM.any {m:List (ByteArray × Value)}{f:ByteArray->Option Nat}(h:IxM m f)(x:ByteArray):∃ n:Int,(mget m x).getD (.int .i64 0) = .int .i64 n/\(mget m x).isSome=(f x).isSome:=by
 rw[h x]
 cases f x with
 | none=>exact⟨0,rfl,rfl⟩
 | some i=>exact⟨i,rfl,rfl⟩
theorem Zea (s:DSource):∀ (l:List DZone) (i:Nat) (p:Zaq) (e:Int),Za4 s l i=some (p,e)->e≠0
 | [],_,_,_,h=>by cases h
 | z::l,i,p,e,h=>by
  simp only[Za4]at h
  split at h
  ·simp only[Option.some.injEq,Prod.mk.injEq]at h;omega
  ·split at h
   ·simp only[Option.some.injEq,Prod.mk.injEq]at h;omega
   ·exact Zea s l _ p e h
theorem Zdi {G G':Prop}(k:G')(h:Hold G'->G:=by intro k9;(first|refine walk ?_|(refine jn ?_;(try intro F);(first|(refine stA ?_)|(apply Zad;exact PuA));refine fin ?_));exact k9.out):G:=h ⟨k⟩
theorem ZvI {G:Prop}(h:G:=by(apply Zan;rfl;rfl;exact hne')):G:=h
theorem ZvH {G:Prop}(h:G:=by(first|exact PuI|(apply ZbU;rfl;rfl;(focus repeat' constructor);exact hv1;exact hc1)|(apply ZbU;rfl;rfl;(focus repeat' constructor);exact hv2;exact hc2)|(apply ZbU;rfl;rfl;(focus repeat' constructor);exact hv3;exact hc3)|(apply ZgP;rfl;rfl;(focus repeat' constructor);exact hv4))):G:=h
theorem ZnT {G G':Prop}(k:G')(h:Hold G'->G:=by intro k9;(first|(apply RL_pu;rfl;exact ZvH)|(apply RD_Q;rfl;rfl;decide +kernel;rfl;rfl;exact QyLnkB2)|refine walk1 ?_|(refine jg ?_;(try intro F);(first|(refine Zab (fun w' hw=>hzn w') ?_)|(refine stA ?_));first|refine⟨_,EndsA,QFLnkB2,?_⟩|refine fin ?_)|(refine jn ?_;(try intro F);(first|(refine stA ?_)|(apply Zad;first|exact ZvH|exact PuA));first|refine⟨_,EndsA,QFLnkB2,?_⟩|refine fin ?_));exact k9.out):G:=h ⟨k⟩
theorem ZrL (Ar Az Al As:Option Addr)(x y t cs:Nat)(a:DSource)(w:World)(L:Zal w Ar Az Al As x y t cs a)(R:ZcX a) :
  Does Tryz.prog 181 [srcV Ar Az Al As x y t cs a] w (fun v O=>v=ptV (Zc6 a)/\O=[]):=by
 have hnz:=R.nz
 have hnl:=R.nl
 have hnm:=fun s mk w' (U:Zal w' Ar Az Al As x y t cs a)=>ZrI Ar Az Al As x y t cs a s mk w' U R
 refine Zaa Tryz.func181 rfl rfl rfl rfl ?_
 repeat (first|refine ZzA ?_|(refine jn ?_;(try intro F);(first|(refine bx ?_;intro c)|(refine stA ?_)|(apply Zad;exact PuA));refine fin ?_)|(apply RD_W;rfl;intro c))
 rename_i Q
 obtain⟨J,M⟩:∃ J,c=J:=⟨_,rfl⟩
 rw[M]
 clear M c
 repeat (first|refine walk ?_|(refine jg ?_;(try intro F);(first|(apply Zae (h:=fun w' hw _=>Zig Ar Az Al As x y t cs a w' (L.up hw) hnz);rfl;rintro v O' ⟨s,mk,rfl,rfl,S,hkd,hkl⟩)|(apply Zae (h:=fun w' hw _=>ZfN Ar Az Al As x y t cs a w' (L.up hw) hnl);rfl;rintro v O' ⟨K,T,rfl,rfl,W,X,Y⟩)|(refine bx ?_;intro c)|(refine stA ?_));refine fin ?_)|(refine jn ?_;(try intro F);(first|(refine bx ?_;intro c)|(refine stA ?_)|(apply Zad;exact PuA));refine fin ?_)|(apply RD_W;rfl;intro c))
 have m:=fun w' hw D=>hnm s mk w' (Zal.up L hw) D S
 unfold Zc6
 cases hzf:Za4 a a.zones 0 with
 | some pe =>
  obtain⟨pl,e⟩:=pe
  rw[hzf]at m
  have Z:=Zea a a.zones 0 pl e hzf
  have hne':(!decide (e=0))=true:=by rw[decide_eq_false Z];rfl
  repeat (first|(apply RL_pu;rfl;exact ZvI)|(apply RD_Q;rfl;rfl;decide +kernel;rfl;rfl;exact QyLnkB1)|refine walk1 ?_|(refine jg ?_;(try intro F);(first|(refine ZaH (fun w' hw D=>m w' hw (D.of (A := .mp s mk) (by repeat' constructor))) ?_)|(refine bx ?_;intro c)|(refine stA ?_));first|refine⟨_,EndsA,QFLnkB1,?_⟩|refine fin ?_)|(refine jn ?_;(try intro F);(first|(refine bx ?_;intro c)|(refine stA ?_)|(apply Zad;first|exact ZvI|exact PuA));first|refine⟨_,EndsA,QFLnkB1,?_⟩|refine fin ?_)|(apply RD_W;rfl;intro c))
  exact rtC
 | none =>
 rw[hzf]at m
 rw[Option.none_or]
 obtain⟨z,u⟩:∃ z,(Zbj a a.links 0).or (Zbi a a.links 0)=z:=⟨_,rfl⟩
 rw[u]
 repeat (first|refine walk ?_|(refine jg ?_;(try intro F);(first|(refine ZaH (fun w' hw D=>m w' hw (D.of (A := .mp s mk) (by repeat' constructor))) ?_)|(refine bx ?_;intro c)|(refine stA ?_));refine fin ?_)|(refine jn ?_;(try intro F);(first|(refine bx ?_;intro c)|(refine stA ?_)|(apply Zad;exact PuA));refine fin ?_)|(apply RD_W;rfl;intro c))
 refine Zai [(1,.pointer (some ⟨Q,0,none⟩)),(2,.pointer (some ⟨J,0,none⟩)),(4,.map (some s)),(5,.map (some K)),(36,.slice Al a.links.length t),(37,.int .i64 a.links.length)] [.mp K T,.mp s mk,.blk J [.int .i64 0,.int .i64 0,.int .i64 0] 138,.blk Q [.slice Ar a.rules.length x,.slice Az a.zones.length y,.slice Al a.links.length t,.slice As a.shifts.length cs] 27]
  (fun k:Nat=>[(38,.int .i64 k)]) (fun _=>[]) (fun k=>k<=a.links.length/\(Zbj a (a.links.drop k) k).or (Zbi a a.links 0)=z) (fun k=>a.links.length - k) 0 SFA SOA ⟨Nat.zero_le _,u⟩ ?_
 rintro k ⟨E,f⟩
 repeat (first|refine Zdi ?_|(refine jn ?_;(try intro F);(refine bx ?_;intro c);refine fin ?_)|(apply RD_W;rfl;intro c))
 refine Zaf rfl (fun q=>?_) (fun q=>?_)
 ·simp only[decide_eq_true_eq,Int.ofNat_lt]at q
  obtain⟨hna,hca⟩:=L.l.rd k _ (List.getElem?_eq_getElem q)
  have H:=List.getElem_mem q
  rw[Zah q,Zbj]at f
  generalize a.links[k]=lk at *
  have hsz:=(R.ls lk H).2
  obtain⟨n1,hv1,hc1⟩:=S.any lk.name
  obtain⟨n2,hv2,hc2⟩:=S.any lk.target
  obtain⟨n3,hv3,hc3⟩:=W.any lk.target
  obtain⟨j,hj⟩:=Zj6 0 H
  have hv4:=(W.some hj).1
  rw[hj]at f
  generalize (ZaK lk.name a.zones 0).isSome=c1 at *
  rw[<- Option.not_isSome,<- Option.not_isSome]at f
  generalize (ZaK lk.target a.zones 0).isSome=c2 at *
  generalize (ZaN lk.target a.links 0).isSome=c3 at *
  have hzn:=fun w'=>ZlJ lk.name (by omega) w'
  generalize Ze5 lk.name=zb at *
  cases zb with
  | false =>
   rw[if_pos rfl]at f
   subst f
   repeat (first|refine ZnT ?_|(refine jg ?_;(try intro F);(refine bx ?_;intro c);first|refine⟨_,EndsA,QFLnkB2,?_⟩|refine fin ?_)|(refine jn ?_;(try intro F);(refine bx ?_;intro c);first|refine⟨_,EndsA,QFLnkB2,?_⟩|refine fin ?_)|(apply RD_W;rfl;intro c))
   exact rtC
  | true =>
   rw[if_neg (by decide)]at f
   cases c1 with
   | true =>
    rw[if_pos (.inl rfl)]at f
    subst f
    repeat (first|refine ZnT ?_|(refine jg ?_;(try intro F);(refine bx ?_;intro c);first|refine⟨_,EndsA,QFLnkB2,?_⟩|refine fin ?_)|(refine jn ?_;(try intro F);(refine bx ?_;intro c);first|refine⟨_,EndsA,QFLnkB2,?_⟩|refine fin ?_)|(apply RD_W;rfl;intro c))
    exact rtC
   | false =>
    repeat (first|refine ZnT ?_|(refine jg ?_;(try intro F);(refine bx ?_;intro c);first|refine⟨_,EndsA,QFLnkB2,?_⟩|refine fin ?_)|(refine jn ?_;(try intro F);(refine bx ?_;intro c);first|refine⟨_,EndsA,QFLnkB2,?_⟩|refine fin ?_)|(apply RD_W;rfl;intro c))
    refine Zaf rfl (fun r=>?_) (fun r=>?_)
    ·simp only[Bool.not_eq_true',decide_eq_false_iff_not]at r
     rw[if_pos (.inr fun e=>r (by simp only[Option.some.injEq]at e;omega))]at f
     subst f
     repeat (first|refine Zdi ?_|(refine jn ?_;(try intro F);(refine bx ?_;intro c);refine fin ?_)|(apply RD_W;rfl;intro c))
     exact rtC
    ·simp only[Bool.not_eq_false',decide_eq_true_eq]at r
     rw[if_neg (by rintro(e|e);cases e;exact e (by congr 1;omega))]at f
     by_cases I:c2=false/\c3=false
     ·obtain⟨rfl,rfl⟩:=I
      rw[if_pos ⟨rfl,rfl⟩]at f
      subst f
      repeat (first|refine Zdi ?_|(refine jn ?_;(try intro F);(refine bx ?_;intro c);refine fin ?_)|(apply RD_W;rfl;intro c))
      exact rtC
     ·rw[if_neg (by simpa using I)]at f
      cases c2 with
      | true =>
       repeat (first|refine Zdi ?_|(refine jn ?_;(try intro F);(refine bx ?_;intro c);refine fin ?_)|(apply RD_W;rfl;intro c))
       exact⟨k+1,OA,⟨OA,f⟩,SFA,SOA⟩
      | false =>
       cases c3 with
       | false=>exact absurd ⟨rfl,rfl⟩ I
       | true =>
        repeat (first|refine Zdi ?_|(refine jn ?_;(try intro F);(refine bx ?_;intro c);refine fin ?_)|(apply RD_W;rfl;intro c))
        exact⟨k+1,OA,⟨OA,f⟩,SFA,SOA⟩
 ·simp only[decide_eq_false_iff_not,Int.ofNat_lt]at q
  rw[List.drop_eq_nil_of_le (by omega),Zbj,Option.none_or]at f
  repeat (first|refine Zdi ?_|(refine jn ?_;(try intro F);(refine bx ?_;intro c);refine fin ?_)|(apply RD_W;rfl;intro c))
  clear q E u
  refine Zai [(1,.pointer (some ⟨Q,0,none⟩)),(2,.pointer (some ⟨J,0,none⟩)),(4,.map (some s)),(5,.map (some K)),(93,.slice Al a.links.length t),(94,.int .i64 a.links.length)] [.mp K T,.mp s mk,.blk J [.int .i64 0,.int .i64 0,.int .i64 0] 138,.blk Q [.slice Ar a.rules.length x,.slice Az a.zones.length y,.slice Al a.links.length t,.slice As a.shifts.length cs] 27]
   (fun k:Nat=>[(95,.int .i64 k)]) (fun _=>[]) (fun k=>k<=a.links.length/\Zbi a (a.links.drop k) k=z) (fun k=>a.links.length - k) 0 SFA SOA ⟨Nat.zero_le _,f⟩ ?_
  clear f
  rintro k ⟨E,f⟩
  repeat (first|refine Zdi ?_|(refine jn ?_;(try intro F);(refine bx ?_;intro c);refine fin ?_)|(apply RD_W;rfl;intro c))
  refine Zaf rfl (fun q=>?_) (fun q=>?_)
  ·simp only[decide_eq_true_eq,Int.ofNat_lt]at q
   obtain⟨hna,hca⟩:=L.l.rd k _ (List.getElem?_eq_getElem q)
   rw[Zah q,Zbi]at f
   generalize a.links[k]=lk at *
   have N:=fun w' U h1 r=>Zis Ar Az Al As x y t cs a s K mk T lk.name w' U h1 r S W X Y
   generalize ZaJ a (a.links.length+1) [] lk.name=fo at *
   obtain⟨fi,fe⟩:=fo
   dsimp only at N f
   repeat (first|(apply RL_pu;rfl;exact PuI)|(apply RD_Q;rfl;rfl;decide +kernel;rfl;rfl;exact QyI)|refine walk1 ?_|(refine jg ?_;(try intro F);(first|(refine ZaH (fun w' hw D=>N w' (L.up hw) (D.of (A := .mp s mk) (by repeat' constructor)) (D.of (A := .mp K T) (by repeat' constructor))) ?_)|(refine bx ?_;intro c)|(refine stA ?_));first|refine⟨_,EndsA,QFI,?_⟩|refine fin ?_)|(refine jn ?_;(try intro F);(first|(refine bx ?_;intro c)|(refine stA ?_)|(apply Zad;first|exact PuI|exact PuA));first|refine⟨_,EndsA,QFI,?_⟩|refine fin ?_)|(apply RD_W;rfl;intro c))
   refine Zaf rfl (fun r=>?_) (fun r=>?_)
   ·simp only[decide_eq_true_eq]at r
    subst r
    rw[if_pos rfl]at f
    subst f
    repeat (first|refine Zdi ?_|(refine jn ?_;(try intro F);(refine bx ?_;intro c);refine fin ?_)|(apply RD_W;rfl;intro c))
    exact rtC
   ·simp only[decide_eq_false_iff_not]at r
    rw[if_neg r]at f
    repeat (first|refine Zdi ?_|(refine jn ?_;(try intro F);(refine bx ?_;intro c);refine fin ?_)|(apply RD_W;rfl;intro c))
    exact⟨k+1,OA,⟨OA,f⟩,SFA,SOA⟩
  ·simp only[decide_eq_false_iff_not,Int.ofNat_lt]at q
   rw[List.drop_eq_nil_of_le (by omega),Zbi]at f
   subst f
   repeat (first|refine Zdi ?_|(refine jn ?_;(try intro F);(refine bx ?_;intro c);refine fin ?_)|(apply RD_W;rfl;intro c))
   exact rtC
open Go Go.RowKit Go.Wk Go.Lib
attribute [local irreducible] RW
structure LtG where
 k:Nat
 A:Option Addr
 c:Nat
 m:Nat
 ys:List Value
theorem ZvM {G:Prop}(h:G:=by(first|(apply ZaG;rfl;rfl;omega;omega;(intro w' _ hO;exact(Za2 (hO.of (A := .row (.slice A1 L.length c1) 9 1 L.length (L.flatMap ZaO)) (by repeat' constructor)) hg1).1))|(apply Zb9;rfl;(focus repeat' constructor);exact hg1))):G:=h
theorem ZvL {G:Prop}(h:G:=by(apply Zcl;rfl;rfl;exact hb)):G:=h
theorem ZvK {G:Prop}(h:G:=by(apply Zan;rfl;rfl;exact hb)):G:=h
theorem ZoM (e:DEra)(A:Option Addr)(c:Nat)(l:List DRule)(w:World)(hL:LibW w)(hA:RdSl w A c DRule.enc 11 l)(ho:I64 e.off)(hs:I64 e.save)(R:∀ r∈l,I64 r.save)(hn:l.length<=1000000)(z:e.format.size<=1000000000)(Q:∀ r∈l,r.letter.size<=1000000000) :
  Does Tryz.prog 240 [.agg e.enc.toArray,.slice A l.length c] w (fun v O=>v = .int .i64 (Zd6 e l)/\O=[]):=by
 have q:=fun w' (J:Bel w.heap.size w w')=>Zim e.format w' (hL.up J) z
 have hx:=fun w' (J:Bel w.heap.size w w')=>ZoO e A c l w' (hA.up J) ho hs R hn
 have y:=fun(x:ByteArray) (hx:x.size<=1000000000) w' (J:Bel w.heap.size w w')=>Zgz e.format x 0 0 w' (hL.up J) z hx ⟨by decide,by decide⟩ ⟨by decide,by decide⟩
 unfold Zd6
 dsimp only
 obtain⟨L,f⟩:∃ L:List ByteArray,(if e.kind=2 then l.map (·.letter) else [ByteArray.empty])=L:=⟨_,rfl⟩
 have F:(if e.kind=2 then l.map (fun r=>r.letter.data.toList) else [[]])=L.map (·.data.toList):=by
  rw[<- f]
  split
  ·rw[List.map_map];rfl
  ·rfl
 have M:∀ x∈L,x.size<=1000000000:=by
  rw[<- f]
  intro x hx
  split at hx
  ·obtain⟨r,R,rfl⟩:=List.mem_map.1 hx;exact Q r R
  ·simp only[List.mem_singleton]at hx;subst hx;decide
 have hLn:L.length<=1000001:=by
  rw[<- f]
  split
  ·rw[List.length_map];omega
  ·decide
 rw[F]
 obtain⟨off,kind,save,set,format,til⟩:=e
 dsimp only at ho hs q hx y z f ⊢
 generalize ZaQ format.data.toList=K at *
 obtain⟨Z,U⟩:∃ Z,ZdT ⟨off,kind,save,set,format,til⟩ l=Z:=⟨_,rfl⟩
 rw[U]at hx ⊢
 obtain⟨Y,xe⟩:=Z
 simp only[xpV,DEra.enc]at hx y ⊢
 refine Zaa Tryz.func240 rfl rfl rfl rfl ?_
 repeat (first|(refine js ?_;(refine bx ?_;intro d))|refine ZlS ?_)
 rename_i D
 obtain⟨E,H⟩:∃ E,d=E:=⟨_,rfl⟩
 rw[H]
 clear H d
 refine ZAt (fun fr' O'=>∃ A1 c1,Sub [(2,.pointer (some ⟨D,0,none⟩)),(1,.slice A l.length c),(5,.slice A1 L.length c1)] fr'/\SubO [.row (.slice A1 L.length c1) 9 1 L.length (L.flatMap ZaO),.blk D [.int .i64 off,.int .i64 kind,.int .i64 save,.string set,.string format,.bool til.is,.int .i64 til.year,.int .i64 til.month,.int .i64 til.day.kind,.int .i64 til.day.week,.int .i64 til.day.day,.int .i64 til.at_.sec,.int .i64 til.at_.base] 75] O') ?_ ?_
 ·refine Zaf rfl (fun h=>?_) (fun h=>?_)
  ·rw[if_pos (of_decide_eq_true h)]at f
   subst f
   repeat (first|(refine js ?_;(refine bx ?_;intro d))|refine walk ?_)
   refine Zdq 9 1 ?_
   refine Zai [(2,.pointer (some ⟨D,0,none⟩)),(1,.slice A l.length c),(19,.slice A l.length c),(20,.int .i64 l.length)] [.blk D [.int .i64 off,.int .i64 kind,.int .i64 save,.string set,.string format,.bool til.is,.int .i64 til.year,.int .i64 til.month,.int .i64 til.day.kind,.int .i64 til.day.week,.int .i64 til.day.day,.int .i64 til.at_.sec,.int .i64 til.at_.base] 75] (fun g:LtG=>[(5,.slice g.A g.m g.c),(21,.int .i64 g.k)]) (fun g=>[.row (.slice g.A g.m g.c) 9 1 g.m g.ys])
    (fun g=>g.k<=l.length/\g.m=g.k/\g.ys=((l.take g.k).map (·.letter)).flatMap ZaO) (fun g=>l.length - g.k) ⟨0,none,0,0,[]⟩ SFA SOA ⟨Nat.zero_le _,rfl,rfl⟩ ?_
   rintro⟨k,A1,c1,m,ys⟩ ⟨I,hm,hy⟩
   dsimp only at I hm hy ⊢
   repeat (first|(refine js ?_;(refine bx ?_;intro d))|refine walk ?_)
   refine Zaf rfl (fun j=>?_) (fun j=>?_)
   ·simp only[decide_eq_true_eq,Int.ofNat_lt]at j
    obtain⟨hna,hca⟩:=hA.rd k _ (List.getElem?_eq_getElem j)
    have S:=List.take_append_getElem j
    generalize l[k]=r at *
    repeat (first|(apply RL_pu;rfl;exact PuI)|(refine js ?_;(first|(apply ZaF;rfl;rfl;(intro A' c';(focus repeat' constructor));(intro w' _ hO;exact ZbD (hO.of (by repeat' constructor)));rfl;rfl;(simp only[maxLen];omega);omega;intro A' c' hc1 hc2 hc3)|(refine bx ?_;intro d)))|refine walk1 ?_)
    exact⟨⟨k+1,A',c',m+1,ys++[.string r.letter]⟩,OA,⟨OA,OA,by dsimp only;rw[hy,<- S];simp[ZaO]⟩,SFA,SOA⟩
   ·obtain rfl:k=l.length:=by simp only[decide_eq_false_iff_not,Int.ofNat_lt]at j;omega
    rw[List.take_length]at hy
    subst hm hy
    repeat (first|(refine js ?_;(refine bx ?_;intro d))|refine walk ?_)
    rw[List.length_map]
    exact⟨A1,c1,SFA,SOA⟩
  ·rw[if_neg (of_decide_eq_false h)]at f
   subst f
   refine Zus (b:=E) (m:=1) 1 (by repeat' constructor) rfl (by decide) ?_
   repeat (first|(refine js ?_;(refine bx ?_;intro d))|refine walk ?_)
   exact⟨some ⟨E,0,none⟩,1,SFA,SOA⟩
 rintro fr' O' ⟨A1,c1,hf,hO⟩
 refine ZcV hf hO ?_
 clear hf hO fr' O' f F E
 by_cases W:K=0
 ·subst W
  rw[if_pos rfl]
  repeat (first|(refine js ?_;(first|(refine Zab q ?_)|(refine bx ?_;intro d)))|refine walk ?_)
  exact rtA
 have e0:decide (K=0)=false:=decide_eq_false W
 rw[if_neg W]
 by_cases X:K=3
 ·subst X
  rw[if_pos rfl]
  obtain⟨C,u⟩:∃ C,Zbu format.data.toList (L.map (·.data.toList))=C:=⟨_,rfl⟩
  rw[u]
  repeat (first|(refine js ?_;(first|(refine Zab q ?_)|(refine bx ?_;intro d)))|refine walk ?_)
  refine Zai [(2,.pointer (some ⟨D,0,none⟩)),(39,.slice A1 L.length c1),(40,.int .i64 L.length)] [.row (.slice A1 L.length c1) 9 1 L.length (L.flatMap ZaO),.blk D [.int .i64 off,.int .i64 kind,.int .i64 save,.string set,.string format,.bool til.is,.int .i64 til.year,.int .i64 til.month,.int .i64 til.day.kind,.int .i64 til.day.week,.int .i64 til.day.day,.int .i64 til.at_.sec,.int .i64 til.at_.base] 75] (fun k:Nat=>[(41,.int .i64 k)]) (fun _=>[]) (fun k=>k<=L.length/\Zbu format.data.toList ((L.drop k).map (·.data.toList))=C) (fun k=>L.length - k) 0 SFA SOA ⟨Nat.zero_le _,u⟩ ?_
  rintro k ⟨I,t⟩
  repeat (first|(refine js ?_;(refine bx ?_;intro d))|refine walk ?_)
  refine Zaf rfl (fun j=>?_) (fun j=>?_)
  ·simp only[decide_eq_true_eq,Int.ofNat_lt]at j
   have hg1:(L.flatMap ZaO)[k*1]?=some (.string L[k]):=by
    have:=ZaC (enc:=ZaO) (fun _=>rfl) L k _ 0 (.string L[k]) (List.getElem?_eq_getElem j) rfl
    simpa using this
   rw[Zah j,List.map_cons,Zbu]at t
   have T:=M _ (List.getElem_mem j)
   generalize L[k]=x at *
   have N:=y x T
   generalize Zdp format.data.toList 0 0 x.data.toList=av at *
   obtain⟨at_,ae⟩:=av
   dsimp only at N t
   by_cases V:ae=0
   ·subst V
    rw[if_pos rfl]at t
    repeat (first|(apply RL_pu;rfl;exact ZvM)|(refine js ?_;(first|(refine Zab N ?_)|(refine bx ?_;intro d)))|refine walk1 ?_)
    exact⟨k+1,OA,⟨OA,t⟩,SFA,SOA⟩
   ·rw[if_neg V]at t
    subst t
    have hb:(!decide (ae=0))=true:=by rw[decide_eq_false V];rfl
    repeat (first|(apply RL_pu;rfl;(first|exact ZvM|(apply Zan;rfl;rfl;exact hb)))|(refine js ?_;(first|(refine Zab N ?_)|(refine bx ?_;intro d)))|refine walk1 ?_)
    exact rtA
  ·simp only[decide_eq_false_iff_not,Int.ofNat_lt]at j
   rw[List.drop_eq_nil_of_le (by omega)]at t
   subst t
   repeat (first|(refine js ?_;(refine bx ?_;intro d))|refine walk ?_)
   exact rtA
 have e3:decide (K=3)=false:=decide_eq_false X
 rw[if_neg X]
 by_cases i:K=4\/K=5
 ·rw[if_pos i]
  by_cases B:xe=0
  ·subst B
   rcases i with rfl|rfl
   ·rw[if_neg (by rintro(h|⟨h,_⟩);exact h rfl;omega)]
    repeat (first|refine und ?_|(refine js ?_;(first|(refine Zab q ?_)|(refine Zab hx ?_)|(refine bx ?_;intro d)))|refine walk ?_)
    exact rtA
   ·by_cases s:Y=format.data.toList
    ·have hb:(!decide ((⟨Y.toArray⟩:ByteArray)=format))=false:=by rw[decide_eq_true (by rw[s])];rfl
     rw[if_neg (by rintro(h|⟨_,h⟩);exact h rfl;exact h s)]
     repeat (first|refine und ?_|(apply RL_pu;rfl;exact ZvL)|(refine js ?_;(first|(refine Zab q ?_)|(refine Zab hx ?_)|(refine bx ?_;intro d)))|refine walk1 ?_)
     exact rtA
    ·have hb:(!decide ((⟨Y.toArray⟩:ByteArray)=format))=true:=by rw[decide_eq_false (fun h=>s (by rw[<- h]))];rfl
     rw[if_pos (.inr ⟨rfl,s⟩)]
     repeat (first|refine und ?_|(apply RL_pu;rfl;exact ZvL)|(refine js ?_;(first|(refine Zab q ?_)|(refine Zab hx ?_)|(refine bx ?_;intro d)))|refine walk1 ?_)
     exact rtA
  ·have hb:(!decide (xe=0))=true:=by rw[decide_eq_false B];rfl
   rw[if_pos (.inl B)]
   rcases i with rfl|rfl
   ·repeat (first|refine und ?_|(apply RL_pu;rfl;exact ZvK)|(refine js ?_;(first|(refine Zab q ?_)|(refine Zab hx ?_)|(refine bx ?_;intro d)))|refine walk1 ?_)
    exact rtA
   ·repeat (first|refine und ?_|(apply RL_pu;rfl;exact ZvK)|(refine js ?_;(first|(refine Zab q ?_)|(refine Zab hx ?_)|(refine bx ?_;intro d)))|refine walk1 ?_)
    exact rtA
 rw[if_neg i]
 have e4:decide (K=4)=false:=decide_eq_false (fun h=>i (.inl h))
 have e5:decide (K=5)=false:=decide_eq_false (fun h=>i (.inr h))
 repeat (first|(apply RL_pu;rfl;(first|(apply Zap;rfl;rfl;exact e0)|(apply Zap;rfl;rfl;exact e3)|(apply Zap;rfl;rfl;exact e4)|(apply Zap;rfl;rfl;exact e5)))|(refine js ?_;(first|(refine Zab q ?_)|(refine bx ?_;intro d)))|refine walk1 ?_)
 exact rtA
end Go.Proofs.YtpipekfmecikmaaGreatDoor
namespace Go.Proofs.YtpipekfmecikmaaGreatDoor
open Go.Shelf Go.RowKit Go.Lib Go.Sort
def Zn5:Ren where
 f:=fun|6=>274|15=>290|14=>289|28=>311|29=>312|20=>303|21=>304|22=>305|23=>306|24=>307|25=>308|26=>309|27=>310|46=>326|47=>327|48=>328|49=>329|50=>330|57=>338|n=>n
 t:=fun|22=>252|24=>91|25=>148|3=>3|39=>308|0=>0|53=>324|55=>286|4=>4|46=>318|45=>317|50=>129|5=>5|9=>9|66=>336|70=>340|76=>354|77=>355|n=>n
 g:=fun n=>n
theorem ZsO:SlLaysF0.n6 Tryz.prog Zn5 where
 mixed:=by kernel_rfl
 f6:=⟨Tryz.f274.name,by decide,Tryz.func274.trans (congrArg some (by kernel_rfl))⟩
 f14:=⟨Tryz.f289.name,by decide,Tryz.func289.trans (congrArg some (by kernel_rfl))⟩
 f20:=⟨Tryz.f303.name,by decide,Tryz.func303.trans (congrArg some (by kernel_rfl))⟩
 f21:=⟨Tryz.f304.name,by decide,Tryz.func304.trans (congrArg some (by kernel_rfl))⟩
 f22:=⟨Tryz.f305.name,by decide,Tryz.func305.trans (congrArg some (by kernel_rfl))⟩
 f23:=⟨Tryz.f306.name,by decide,Tryz.func306.trans (congrArg some (by kernel_rfl))⟩
 f24:=⟨Tryz.f307.name,by decide,Tryz.func307.trans (congrArg some (by kernel_rfl))⟩
 f25:=⟨Tryz.f308.name,by decide,Tryz.func308.trans (congrArg some (by kernel_rfl))⟩
 f26:=⟨Tryz.f309.name,by decide,Tryz.func309.trans (congrArg some (by kernel_rfl))⟩
 f27:=⟨Tryz.f310.name,by decide,Tryz.func310.trans (congrArg some (by kernel_rfl))⟩
 f46:=⟨Tryz.f326.name,by decide,Tryz.func326.trans (congrArg some (by kernel_rfl))⟩
 f49:=⟨Tryz.f329.name,by decide,Tryz.func329.trans (congrArg some (by kernel_rfl))⟩
 f50:=⟨Tryz.f330.name,by decide,Tryz.func330.trans (congrArg some (by kernel_rfl))⟩
 f57:=⟨Tryz.f338.name,by decide,Tryz.func338.trans (congrArg some (by kernel_rfl))⟩
 f15:=Tryz.func290.trans (congrArg some (by kernel_rfl))
 f28:=Tryz.func311.trans (congrArg some (by kernel_rfl))
 f29:=Tryz.func312.trans (congrArg some (by kernel_rfl))
 f47:=Tryz.func327.trans (congrArg some (by kernel_rfl))
 f48:=Tryz.func328.trans (congrArg some (by kernel_rfl))
 t0:=Tryz.underlying0
 a0:=Tryz.isAgg0
 z0:=Tryz.sizeOf0
 v0:=Tryz.zeroValue0
 t3:=Tryz.underlying3
 a3:=Tryz.isAgg3
 z3:=Tryz.sizeOf3
 v3:=Tryz.zeroValue3
 t4:=Tryz.underlying4
 a4:=Tryz.isAgg4
 z4:=Tryz.sizeOf4
 v4:=Tryz.zeroValue4
 t5:=Tryz.underlying5
 a5:=Tryz.isAgg5
 z5:=Tryz.sizeOf5
 v5:=Tryz.zeroValue5
 t9:=Tryz.underlying9
 a9:=Tryz.isAgg9
 z9:=Tryz.sizeOf9
 v9:=Tryz.zeroValue9
 t22:=Tryz.underlying252
 a22:=Tryz.isAgg252
 z22:=Tryz.sizeOf252
 v22:=Tryz.zeroValue252
 t25:=Tryz.underlying148
 a25:=Tryz.isAgg148
 z25:=Tryz.sizeOf148
 v25:=Tryz.zeroValue148
 t39:=Tryz.underlying308
 a39:=Tryz.isAgg308
 z39:=Tryz.sizeOf308
 v39:=Tryz.zeroValue308
 t45:=Tryz.underlying317
 a45:=Tryz.isAgg317
 z45:=Tryz.sizeOf317
 v45:=Tryz.zeroValue317
 t46:=Tryz.underlying318
 a46:=Tryz.isAgg318
 z46:=Tryz.sizeOf318
 v46:=Tryz.zeroValue318
 t50:=Tryz.underlying129
 a50:=Tryz.isAgg129
 z50:=Tryz.sizeOf129
 v50:=Tryz.zeroValue129
 t53:=Tryz.underlying324
 a53:=Tryz.isAgg324
 z53:=Tryz.sizeOf324
 v53:=Tryz.zeroValue324
 t55:=Tryz.underlying286
 a55:=Tryz.isAgg286
 z55:=Tryz.sizeOf286
 v55:=Tryz.zeroValue286
 t66:=Tryz.underlying336
 a66:=Tryz.isAgg336
 z66:=Tryz.sizeOf336
 v66:=Tryz.zeroValue336
 t70:=Tryz.underlying340
 a70:=Tryz.isAgg340
 z70:=Tryz.sizeOf340
 v70:=Tryz.zeroValue340
 t76:=Tryz.underlying354
 a76:=Tryz.isAgg354
 z76:=Tryz.sizeOf354
 v76:=Tryz.zeroValue354
 t77:=Tryz.underlying355
 a77:=Tryz.isAgg355
 z77:=Tryz.sizeOf355
 v77:=Tryz.zeroValue355
open Go Go.Shelf Go.Lib Go.RowKit Go.Sort Go.Wk
set_option maxHeartbeats 4000000
theorem ZAc (a b:Int)(w:World):Calls Tryz.prog 123 #[.int .i64 a,.int .i64 b] w fun e w'=>e = .returned (.int .i64 (cmpI a b))/\w'=w:=by
 go_enter Tryz.func123,Tryz.ntmps123
 go_wp2
 all_goals go_ret
 all_goals (unfold cmpI;repeat' split)
 all_goals first|exact⟨rfl,rfl⟩|(exfalso;omega)
theorem ZBe (a b:Int)(w:World):Calls Tryz.prog 124 #[.int .i64 a,.int .i64 b] w fun e w'=>e = .returned (.int .i64 (cmpI a b))/\w'=w:=by
 go_enter Tryz.func124,Tryz.ntmps124
 go_wp2
 all_goals go_ret
 all_goals (unfold cmpI;repeat' split)
 all_goals first|exact⟨rfl,rfl⟩|(exfalso;omega)
theorem or_l (x y z:Int)(b:Nat)(w:World)(f:w.cell? ⟨b,0,none⟩=some (.int .i64 x))(g:w.cell? ⟨b,1,none⟩=some (.int .i64 y))(h:w.cell? ⟨b,2,none⟩=some (.int .i64 z)) :
  Calls Tryz.prog 122 #[.slice (some ⟨b,0,none⟩) 3 3] w fun e w'=>e = .returned (.int .i64 (ZbM [x,y,z]))/\w'=w:=by
 go_enter Tryz.func122,Tryz.ntmps122
 go_wp2
 refine wp_loop_rounds 4 ?_
 rw[rounds_succ]
 by_cases a:x=0
 ·subst a
  go_wp2
  rw[rounds_succ]
  by_cases c:y=0
  ·subst c
   go_wp2
   rw[rounds_succ]
   by_cases d:z=0
   ·subst d
    go_wp2
    rw[rounds_succ]
    go_wp2
    go_ret
    exact⟨rfl,rfl⟩
   ·go_wp2
    go_ret
    exact⟨by simp[ZbM,d],rfl⟩
  ·go_wp2
   go_ret
   exact⟨by simp[ZbM,c],rfl⟩
 ·go_wp2
  go_ret
  exact⟨by simp[ZbM,a],rfl⟩
attribute [local irreducible] cmpI ZbM
theorem ZrG (a b:Zac)(w:World):Calls Tryz.prog 84 #[.agg (Zac.enc a).toArray,.agg (Zac.enc b).toArray] w fun e w'=>e = .returned (.int .i64 (ordE a b))/\∃ q c,w'=grow (w.drewN q) c:=by
 rw[Zth]
 obtain⟨y,r,n⟩:=a
 obtain⟨g,f,d⟩:=b
 dsimp only
 have h:=ZAc
 have i:=ZBe
 have j:=or_l
 simp only[Zac.enc]
 go_enter Tryz.func84,Tryz.ntmps84
 go_wp2_with fail
 go_region_held3 (fun W=>W.cell? ⟨w.heap.size,0,none⟩=some (.int .i64 y)/\W.cell? ⟨w.heap.size,1,none⟩=some (.int .i64 r)/\W.cell? ⟨w.heap.size,2,none⟩=some (.int .i64 n)/\W.cell? ⟨w.heap.size+1,0,none⟩=some (.int .i64 g)/\W.cell? ⟨w.heap.size+1,1,none⟩=some (.int .i64 f)/\W.cell? ⟨w.heap.size+1,2,none⟩=some (.int .i64 d)) (go_keep)
  (first
   | (go_at_call 123;refine(h _ _ _).mono ?_;rintro e w' ⟨rfl,rfl⟩)
   | (go_at_call 124;refine(i _ _ _).mono ?_;rintro e w' ⟨rfl,rfl⟩)
   | (go_at_call 122;refine(j (cmpI n d) (cmpI r f) (cmpI y g) _ _ (by go_simp) (by go_simp) (by go_simp)).mono ?_;rintro e w' ⟨rfl,rfl⟩))
 all_goals (try go_wp2)
 all_goals go_ret
 all_goals exact⟨rfl,1,_,by rw[alloc_eq_grow,alloc_eq_grow,alloc_eq_grow,grow_grow,grow_grow];rfl⟩
end Go.Proofs.YtpipekfmecikmaaGreatDoor
namespace Go.Proofs.YtpipekfmecikmaaGreatDoor
open Go Go.RowKit Go.Wk
theorem Zac.len (x:Zac):(Zac.enc x).length=3:=rfl
def Zlb (A:Option Addr)(c:Nat)(l:List Zac):It := .row (.slice A l.length c) 91 3 l.length (l.flatMap Zac.enc)
def Zcu (l:List Zac):List Zac:=l.mergeSort fun x y => !ltE y x
theorem Zfn (l:List Zac):(Zcu l).length=l.length:=List.length_mergeSort _
instance : Inhabited Zac:=⟨dEv0⟩
theorem Zp7 (l:List Zac):Go.Sort.flatK Zac.enc 3 l.toArray=(l.flatMap Zac.enc).toArray:=by
 have e:=Zbg Zac.len l
 refine Go.Sort.ext_get! (by rw[Go.Sort.size_flatK];simp[e]) fun t f=>?_
 have c:t<l.toArray.size*3:=by rwa[Go.Sort.size_flatK]at f
 rw[Go.Sort.get_flatK _ _ _ _ c]
 have b:t / 3<l.length:=by simp at c;omega
 have d:t % 3<3:=Nat.mod_lt _ (by decide)
 have a:=ZaC Zac.len l (t / 3) l[t / 3] (t % 3) ((Zac.enc l[t / 3])[t % 3]'d) (List.getElem?_eq_getElem b) (List.getElem?_eq_getElem d)
 rw[show t / 3*3+t % 3=t by omega]at a
 rw[getElem!_pos l.toArray (t / 3) (by simpa using b)]
 rw[show(l.flatMap Zac.enc).toArray[t]! = (l.flatMap Zac.enc)[t]?.getD default from by simp only[getElem!_def,List.getElem?_toArray];cases (l.flatMap Zac.enc)[t]? <;> rfl]
 rw[a]
 rw[getElem!_pos (Zac.enc _) (t % 3) (by rw[Zac.len];exact d)]
 simp
 rfl
theorem Zwg (b:Nat)(l:List Zac)(w:World):CmpLays Tryz.prog 84 #[] Zac.enc 3 ordE b 0 l.toArray.size w :=
 fun m os a _ x y=>by
  have:=ZrG x y (sortWorldK Zac.enc 3 w b 0 m a os)
  simpa using this
theorem ZsP (A:Option Addr)(c:Nat)(l:List Zac)(wr:World)(Y:l.length<=1000000000) :
  Zak Tryz.prog 274 [.slice A l.length c,.func (.func 84) #[] #[]] wr [Zlb A c l] (fun v O=>v = .tuple #[]/\O=[Zlb A c (Zcu l)]):=by
 intro w H I
 have F:=I.sat _ (List.mem_singleton.2 rfl)
 obtain⟨X,⟨K,_⟩|⟨b,cap,a,G,T,J,W,L,Q,f⟩⟩:=id F
 ·injection K with h1 h2 h3
  obtain rfl:=List.eq_nil_of_length_eq_zero h2
  subst h1 h3
  refine Calls.mono (AnyF.slices_SortFunc_none ZsO none 0 (.func (.func 84) #[] #[]) w) ?_
  rintro e w' ⟨rfl,rfl⟩
  exact⟨_,_,rfl,H,I,rfl,by rw[show Zcu []=[] from by simp[Zcu]]⟩
 injection G with hA h2 h3
 subst hA h3
 have u:b<w.heap.size:=(Array.getElem?_eq_some_iff.1 J).1
 have V:=I.inb _ (List.mem_singleton.2 rfl) b (by simp[It.S,Zlb,Value.ownBlock])
 have m:=Zbg Zac.len l
 have U:l.length*3<=a.size:=by
  have:=congrArg List.length f
  rw[List.length_take,m,Array.length_toList]at this
  omega
 have z:∀ j,j<l.length*3->a[j]?=(l.flatMap Zac.enc)[j]?:=fun j r=>by
  rw[<- f,List.getElem?_take,if_pos (by omega)]
  simp
 have k:Go.Sort.HoldsK Zac.enc 3 w b 0 l.toArray:=fun j r=>by
  rw[Zp7]at r ⊢
  have B:j<l.length*3:=by simpa[m] using r
  have C:j<(l.flatMap Zac.enc).length:=by rw[m];exact B
  refine⟨?_,by simp[World.frozen?,J]⟩
  rw[Nat.zero_add,show w.cell? ⟨b,j,none⟩=a[j]? from by simp[World.cell?,J],z j B,List.getElem?_eq_getElem C,getElem!_pos _ j (by simpa using C)]
  simp
 have h:=AnyQ.slices_SortFunc_total ZsO 3 Tryz.isAgg91 Tryz.sizeOf91 Zac.enc Zac.len (fun x v K=>by simp[Zac.enc]at K;rcases K with rfl|rfl|rfl <;> rfl) ordE swoE 84 #[] b 0 c l.toArray w
  (enters_of Tryz.func84 (by kernel_rfl) rfl) (Zwg b l w) k u (by simp;omega) totE
 refine Calls.mono h ?_
 rintro e w' ⟨rfl,n,os,rfl⟩
 rw[show(l.toArray.toList.mergeSort fun x y => !(ltOf ordE) y x)=Zcu l from rfl]
 have D:=Zfn l
 generalize Zcu l=s at D ⊢
 have M:=Zbg Zac.len s
 have p:(sortWorldK Zac.enc 3 w b 0 n s.toArray os).heap=(w.heap.modify b (Go.Sort.onCells (Go.Sort.putCells id 0 (s.flatMap Zac.enc).toArray)))++os:=by
  unfold sortWorldK Go.Sort.putRowK
  rw[Zp7]
  rfl
 have g:∀ i,i<w.heap.size->i≠b->(sortWorldK Zac.enc 3 w b 0 n s.toArray os).heap[i]?=w.heap[i]?:=fun i q P=>by
  rw[p,Array.getElem?_append_left (by simpa using q),Array.getElem?_modify,if_neg (fun e=>P e.symm)]
 have E:(sortWorldK Zac.enc 3 w b 0 n s.toArray os).heap[b]?=some (.cells (Go.Sort.putCells id 0 (s.flatMap Zac.enc).toArray a) 91 (0,0)):=by
  rw[p,Array.getElem?_append_left (by simpa using u),Array.getElem?_modify,if_pos rfl,J]
  rfl
 have d:w.heap.size<=(sortWorldK Zac.enc 3 w b 0 n s.toArray os).heap.size:=by rw[p];simp
 have t:Bel wr.heap.size wr (sortWorldK Zac.enc 3 w b 0 n s.toArray os) :=
  H.trans ⟨⟨rfl,rfl,rfl,d,fun i q=>g i (by have:=H.size;omega) (by omega)⟩⟩
 refine⟨_,[Zlb (some ⟨b,0,none⟩) c s],rfl,t,?_,rfl,rfl⟩
 refine I.upd (A:=Zlb (some ⟨b,0,none⟩) c l) .here H.size d (fun i q R=>g i q (fun e=>R (by rw[e];simp[It.S,Zlb,Value.ownBlock]))) ?_ (fun i q => .inl q)
 refine⟨by rw[M],.inr ⟨b,c,_,rfl,Nat.zero_le _,E,by omega,L,?_,?_⟩⟩
 ·simp only[Go.Sort.putCells,Array.size_mapIdx]
  exact Q
 ·apply List.ext_getElem?
  intro j
  rw[List.getElem?_take]
  by_cases r:j<s.length*3
  ·rw[if_pos r]
   have N:j<a.size:=by omega
   have o:j<(s.flatMap Zac.enc).length:=by omega
   simp only[Array.getElem?_toList,Go.Sort.putCells,Array.getElem?_mapIdx,Array.getElem?_eq_getElem N,Option.map_some,Nat.zero_le,true_and,Nat.zero_add,List.size_toArray,if_pos o,Nat.sub_zero]
   rw[List.getElem?_eq_getElem o,getElem!_pos _ j (by simpa using o)]
   simp
  ·rw[if_neg r,List.getElem?_eq_none (by omega)]
attribute [local irreducible] W RL Does Zat Zaj retQ Calls Pu Stp RD Qy Ay Zak
structure IG where
 k:Nat
 A:Option Addr
 c:Nat
 m:Nat
 xs:List Value
 acc:List Zac
def ZCa (l:List Zac)(v:Value)(O:List It):Prop:=∃ A c,v = .tuple #[.slice A l.length c,.int .i64 0]/\O=[Zlb A c l]
theorem ZAM {f t:Int}{M:Nat}(c : -2000000000<=f/\f<=2000000000)(d:t+1=f+M)(a:0<M)(b:M<=1000):decide ((1000:Int)<IntKind.u64.wrap (IntKind.u64.wrap t - IntKind.u64.wrap f))=false:=by
 refine decide_eq_false ?_
 simp[IntKind.wrap,IntKind.signed,IntKind.bits]
 omega
theorem ZwP (A:Option Addr)(c:Nat)(l:List DRule)(f t:Int)(M:Nat)(w:World)(R:Glob w)(Q:RdSl w A c DRule.enc 11 l)(hn:l.length<=1000000)(U:∀ r∈l,-4611686018427387904<=r.save/\r.save<=4611686018427387904)
  (Y : -2000000000<=f/\f<=2000000000) (ht:t+1=f+M) (D:0<M) (S:M<=1000) :
  Does Tryz.prog 230 [.slice A l.length c,.int .i64 f,.int .i64 t] w (ZCa (Zcu (allC l (Zag l) f M))):=by
 have K:decide (t<f)=false:=decide_eq_false (by omega)
 have L:=ZAM Y ht D S
 have E:=fun(i:Nat) r (d:l[i]?=some r) y w' (J:Bel w.heap.size w w')=>ZfU A c l i y r w' (R.up J) (Q.up J) d hn U
 generalize Zag l=least at *
 obtain⟨B,u⟩:∃ B,allC l least f M=B:=⟨_,rfl⟩
 rw[u]
 refine Zaa Tryz.func230 rfl rfl rfl rfl ?_
 repeat (first|(apply RL_pu;rfl;(first|(apply Pu_sub';rfl;rfl;(constructor <;> omega))|(apply Zpg;rfl;rfl)|(apply Zay;rfl;rfl;exact L)|(apply Zaw;rfl;rfl;exact K)|(apply Pu_convI;rfl)))|(refine js ?_;(refine bx ?_;intro x))|refine walk1 ?_)
 refine Zdq 91 3 ?_
 obtain⟨N,hN⟩:∃ N:Int,N=(M:Int):=⟨_,rfl⟩
 rw[show t - f+1=N by omega]
 refine Zai [(0,.slice A l.length c),(1,.int .i64 f),(27,.int .i64 N)] [] (fun g:IG=>[(8,.slice g.A g.m g.c),(28,.int .i64 g.k)]) (fun g=>[.row (.slice g.A g.m g.c) 91 3 g.m g.xs])
  (fun g=>g.k<=M/\g.m=g.acc.length/\g.xs=g.acc.flatMap Zac.enc/\g.m<=g.k*1000000/\g.acc=allC l least f g.k) (fun g=>M - g.k) ⟨0,none,0,0,[],[]⟩ SFA SOA ⟨Nat.zero_le _,rfl,rfl,Nat.le_refl _,rfl⟩ ?_
 rintro⟨k,A1,c1,m,xs,acc⟩ ⟨hk,hm,hx,hmk,d⟩
 dsimp only at hk hm hx hmk d ⊢
 repeat (first|(refine js ?_;(refine bx ?_;intro x))|refine walk ?_)
 refine Zaf rfl (fun j=>?_) (fun j=>?_)
 ·have Z:k<M:=by have:=of_decide_eq_true j;omega
  obtain⟨q,s⟩:∃ q,allC l least f (k+1)=q:=⟨_,rfl⟩
  have z:acc++ZcA least (f+k) l 0=q:=by rw[<- s,allC,d]
  repeat (first|(refine js ?_;(refine bx ?_;intro x))|refine walk ?_)
  refine Zai [(0,.slice A l.length c),(1,.int .i64 f),(27,.int .i64 N),(28,.int .i64 k),(9,.int .i64 k),(31,.slice A l.length c),(32,.int .i64 l.length)] [] (fun g:IG=>[(8,.slice g.A g.m g.c),(33,.int .i64 g.k)]) (fun g=>[.row (.slice g.A g.m g.c) 91 3 g.m g.xs])
   (fun g=>g.k<=l.length/\g.m=g.acc.length/\g.xs=g.acc.flatMap Zac.enc/\g.m<=k*1000000+g.k/\g.acc++ZcA least (f+k) (l.drop g.k) g.k=q) (fun g=>l.length - g.k) ⟨0,A1,c1,m,xs,acc⟩ SFA SOA ⟨Nat.zero_le _,hm,hx,Nat.le_trans hmk (Nat.le_add_right _ _),by dsimp only;rw[List.drop_zero];exact z⟩ ?_
  clear hm hx hmk d z j
  rintro⟨i,A1,c1,m,xs,acc⟩ ⟨hil,hm,hx,hmk,d⟩
  dsimp only at hil hm hx hmk d ⊢
  repeat (first|(refine js ?_;(refine bx ?_;intro x))|refine walk ?_)
  refine Zaf rfl (fun j=>?_) (fun j=>?_)
  ·simp only[decide_eq_true_eq,Int.ofNat_lt]at j
   have C:=E i _ (List.getElem?_eq_getElem j) (f+(k:Int))
   rw[Zah j,ZcA]at d
   generalize onR least l[i] i (f+(k:Int))=o at *
   cases o with
   | none =>
    simp only[evV,Zac.enc,dEv0,Option.isSome,Option.toList,List.nil_append]at C d
    repeat (first|(refine js ?_;(first|(refine Zab C ?_)|(refine bx ?_;intro x)))|refine walk ?_)
    exact⟨⟨i+1,A1,c1,m,xs,acc⟩,OA,⟨OA,hm,hx,OA,d⟩,SFA,SOA⟩
   | some e =>
    obtain⟨I,H,F⟩:=e
    simp only[evV,Zac.enc,Option.isSome,Option.toList]at C d
    repeat (first|(refine js ?_;(first|(refine Zab C ?_)|(apply ZaF;rfl;rfl;(intro A' c';(focus repeat' constructor));(intro w' _ T;exact ZbD (T.of (by repeat' constructor)));rfl;rfl;(simp only[maxLen];omega);omega;intro A' c' V W X)|(refine bx ?_;intro x)))|refine walk ?_)
    exact⟨⟨i+1,A',c',m+1,xs++[.int .i64 I,.int .i64 H,.int .i64 F],acc++[⟨I,H,F⟩]⟩,OA,⟨OA,by simp[hm],by rw[hx];simp[Zac.enc],OA,by rw[<- d];simp⟩,SFA,SOA⟩
  ·simp only[decide_eq_false_iff_not,Int.ofNat_lt]at j
   rw[List.drop_eq_nil_of_le (by omega),ZcA,List.append_nil]at d
   repeat (first|(refine js ?_;(refine bx ?_;intro x))|refine walk ?_)
   exact⟨⟨k+1,A1,c1,m,xs,acc⟩,OA,⟨OA,hm,hx,OA,d.trans s.symm⟩,SFA,SOA⟩
 ·obtain rfl:k=M:=by have:=of_decide_eq_false j;omega
  rw[u]at d
  subst d hm hx
  repeat (first|(refine js ?_;(first|(apply ZdF;rfl;exact ZsP A1 c1 acc w (by omega);exact .refl _;rintro v O' ⟨rfl,rfl⟩)|(refine bx ?_;intro x)))|refine walk ?_)
  exact ret_2 _ _ [Zlb A1 c1 (Zcu acc)] (.tmp rfl) (.tmp rfl) SOA ⟨A1,c1,by rw[Zfn],rfl⟩
theorem Zz2 (A:Option Addr)(c:Nat)(l:List DRule)(w:World)(b:Glob w)(a:RdSl w A c DRule.enc 11 l)(e:l.length<=1000000)(d:∀ r∈l,-4611686018427387904<=r.save/\r.save<=4611686018427387904) :
  Does Tryz.prog 230 [.slice A l.length c,.int .i64 1850,.int .i64 2550] w (ZCa (Zcu (allC l (Zag l) 1850 701))) :=
 ZwP A c l 1850 2550 701 w b a e d (by omega) (by omega) (by omega) (by omega)
def apV:Option Zac->Value
 | none => .tuple #[.agg (Zac.enc dEv0).toArray,.int .i64 0]
 | some e => .tuple #[.agg (Zac.enc e).toArray,.int .i64 13]
theorem ZoS {l:List Zac}{k:Nat}(h:k+1<l.length):Zcy (l.drop k)=if (l[k+1]'h).nominal - (l[k]'(by omega)).nominal<259200 then some (l[k+1]'h) else Zcy (l.drop (k+1)):=by
 rw[Zah (show k<l.length by omega),Zah h,Zcy]
theorem Zse {l:List Zac}{k:Nat}(h:l.length<=k+1):Zcy (l.drop k)=none:=by
 by_cases a:k<l.length
 ·rw[Zah a,List.drop_eq_nil_of_le h];rfl
 ·rw[List.drop_eq_nil_of_le (by omega)];rfl
theorem ZiJ {l:List Zac}{k:Nat}(h:k<l.length)(j:Nat)(v:Value)(a:(Zac.enc l[k])[j]?=some v):(l.flatMap Zac.enc)[k*3+j]?=some v:=ZaC Zac.len l k _ j v (List.getElem?_eq_getElem h) a
def ZlI (e:Zac):Prop := -200000000000000000<=e.nominal/\e.nominal<=200000000000000000
theorem ZkH (least y:Int)(c:least<=0):∀ (l:List DRule) (i:Nat),(ZcA least y l i).length<=l.length/\∀ e∈ZcA least y l i,ZlI e
 | [],_=>⟨Nat.le_refl _,fun _ h=>by cases h⟩
 | r::l,i=>by
  obtain⟨f,b⟩:=ZkH least y c l (i+1)
  have d:=ZpZ least c r i y
  simp only[ZcA,List.length_append,List.length_cons,List.mem_append]
  generalize onR least r i y=o at *
  cases o with
  | none=>exact⟨by simp only[Option.toList,List.length_nil];omega,fun e a=>by rcases a with h|h;cases h;exact b e h⟩
  | some x=>exact⟨by simp only[Option.toList,List.length_cons,List.length_nil];omega,fun e a=>by
    rcases a with h|h
    ·simp only[Option.toList,List.mem_singleton]at h;subst h;exact d _ rfl
    ·exact b e h⟩
theorem Zo6 (l:List DRule)(least a:Int)(b:least<=0):∀ k,(allC l least a k).length<=k*l.length/\∀ e∈allC l least a k,ZlI e
 | 0=>⟨Nat.zero_le _,fun _ h=>by cases h⟩
 | k+1=>by
  obtain⟨g,c⟩:=Zo6 l least a b k
  obtain⟨i,d⟩:=ZkH least (a+k) b l 0
  simp only[allC,List.length_append,List.mem_append,Nat.succ_mul]
  exact⟨by omega,fun e f=>f.elim (c e) (d e)⟩
theorem Zw6 (l:List DRule)(least a:Int)(b:least<=0)(c:l.length<=1000000):(allC l least a 701).length<=701000000:=by
 have:=(Zo6 l least a b 701).1
 omega
theorem Zzt {G:Prop}(h:G:=by(apply Zds;rfl;rfl;exact hmx)):G:=h
theorem ZnP {G:Prop}(h:G:=by(first|(apply ZaG;rfl;rfl;omega;omega;(intro w' _ hO;exact(Za2 (hO.of (A := .row (.slice A1 s.length c1) 91 3 s.length (s.flatMap Zac.enc)) (by repeat' constructor)) hg1).1))|(apply ZeI;rfl;(focus repeat' constructor);exact hg1)|(apply ZeI;rfl;(focus repeat' constructor);exact hg2)|(apply Zb8;rfl;(focus repeat' constructor);exact hgn;rfl)|(apply Zaw;rfl;rfl;exact hb))):G:=h
theorem Zyi {G:Prop}(h:G:=by first|(apply Qy_y;rfl;exact ZnP)|exact QyA):G:=h
theorem Zsh (A:Option Addr)(c:Nat)(l:List DRule)(w:World)(X:Glob w)(W:RdSl w A c DRule.enc 11 l)(T:l.length<=1000000)(R:∀ r∈l,-4611686018427387904<=r.save/\r.save<=4611686018427387904) :
  Does Tryz.prog 177 [.slice A l.length c] w (fun v O=>v=apV (ZeD l)/\O=[]):=by
 have L:=fun w' (J:Bel w.heap.size w w')=>Zz2 A c l w' (X.up J) (W.up J) T R
 have D:=(Zev l R).2
 have hal:=Zw6 l (Zag l) 1850 D T
 have hok:=(Zo6 l (Zag l) 1850 D 701).2
 rw[<- Znj]
 rw[show((allC l (Zag l) 1850 701).mergeSort fun x y => !ltE y x)=Zcu (allC l (Zag l) 1850 701) from rfl]
 have M:=Zfn (allC l (Zag l) 1850 701)
 have E:∀ e∈Zcu (allC l (Zag l) 1850 701),ZlI e:=fun e Y=>hok e (List.mem_mergeSort.1 Y)
 generalize Zcu (allC l (Zag l) 1850 701)=s at *
 have U:s.length<=701000000:=by omega
 clear hal hok M
 obtain⟨u,t⟩:∃ u,Zcy s=u:=⟨_,rfl⟩
 rw[t]
 have hmx:(if (s.length:Int) - 1<0 then 0 else (s.length:Int) - 1)=((s.length - 1:Nat):Int):=by split <;> omega
 refine Zaa Tryz.func177 rfl rfl rfl rfl ?_
 repeat (first|(apply RL_pu;rfl;exact Zzt)|(apply RD_Q;rfl;rfl;decide +kernel;rfl;rfl;exact QyEvI1)|refine walk1 ?_|(refine jg ?_;(try intro F);(first|(apply Zae (h:=fun w' J _=>L w' J);rfl;rintro v O' ⟨A1,c1,rfl,rfl⟩)|(refine bx ?_;intro f)|(refine stA ?_));first|refine⟨_,EndsA,QFEvI1,?_⟩|refine fin ?_)|(refine jn ?_;(try intro F);(first|(refine bx ?_;intro f)|(refine stA ?_)|(apply Zad;first|exact Zzt|exact PuA));first|refine⟨_,EndsA,QFEvI1,?_⟩|refine fin ?_)|(apply RD_W;rfl;intro f))
 have hn1:s.length - 1<=701000000:=by omega
 obtain⟨H,z⟩:∃ H,f=H:=⟨_,rfl⟩
 rw[z]
 clear z f
 refine Zai [(2,.pointer (some ⟨H,0,none⟩)),(4,.slice A1 s.length c1),(19,.int .i64 (s.length - 1:Nat))] [.row (.slice A1 s.length c1) 91 3 s.length (s.flatMap Zac.enc),.blk H [.int .i64 0,.int .i64 0,.int .i64 0] 91] (fun k:Nat=>[(20,.int .i64 k)]) (fun _=>[]) (fun k=>k<=s.length - 1/\Zcy (s.drop k)=u) (fun k=>s.length - 1 - k) 0 SFA SOA ⟨Nat.zero_le _,t⟩ ?_
 rintro k ⟨hk,q⟩
 repeat (first|refine walk ?_|(refine jn ?_;(try intro F);(first|(refine bx ?_;intro f)|(refine stA ?_)|(apply Zad;exact PuA));refine fin ?_)|(apply RD_W;rfl;intro f))
 refine Zaf rfl (fun K=>?_) (fun K=>?_)
 ·simp only[decide_eq_true_eq,Int.ofNat_lt]at K
  have m:k+1<s.length:=by omega
  rw[ZoS m]at q
  have hg1:=ZiJ m 2 _ rfl
  have hg2:=ZiJ (show k<s.length by omega) 2 _ rfl
  have hgn:∀ j v,(Zac.enc s[k+1])[j]?=some v->(s.flatMap Zac.enc)[(k+1)*3+j]?=some v:=fun j v Z=>ZiJ m j v Z
  have o1:=E _ (List.getElem_mem m)
  have o2:=E _ (List.getElem_mem (show k<s.length by omega))
  generalize s[k+1]=e1 at *
  generalize s[k]=e2 at *
  obtain⟨y1,r1,N⟩:=e1
  obtain⟨y2,r2,Q⟩:=e2
  simp only[Zac.enc,ZlI]at hg1 hg2 hgn o1 o2 q
  have S:(s.length:Int)<=701000000:=by omega
  have hkk:(k:Int)+1<s.length:=by omega
  by_cases I:N - Q<259200
  ·rw[if_pos I]at q
   subst q
   have hb:decide (N - Q<259200)=true:=decide_eq_true I
   repeat (first|(apply RL_pu;rfl;exact ZnP)|(apply RD_Q;rfl;rfl;decide +kernel;rfl;rfl;exact Zyi)|refine walk1 ?_|(refine jn ?_;(try intro F);(first|(refine bx ?_;intro f)|(refine stA ?_)|(apply Zad;first|exact ZnP|exact PuA));first|refine⟨_,EndsA,QFEvI2,?_⟩|refine fin ?_)|(apply RD_W;rfl;intro f))
   exact rtC
  ·rw[if_neg I]at q
   have hb:decide (N - Q<259200)=false:=decide_eq_false I
   repeat (first|(apply RL_pu;rfl;exact ZnP)|(apply RD_Q;rfl;rfl;decide +kernel;rfl;rfl;exact Zyi)|refine walk1 ?_|(refine jn ?_;(try intro F);(first|(refine bx ?_;intro f)|(refine stA ?_)|(apply Zad;first|exact ZnP|exact PuA));first|refine⟨_,EndsA,QFEvI2,?_⟩|refine fin ?_)|(apply RD_W;rfl;intro f))
   exact⟨k+1,OA,⟨OA,q⟩,SFA,SOA⟩
 ·simp only[decide_eq_false_iff_not,Int.ofNat_lt]at K
  rw[Zse (show s.length<=k+1 by omega)]at q
  subst q
  repeat (first|refine walk ?_|(refine jn ?_;(try intro F);(first|(refine bx ?_;intro f)|(refine stA ?_)|(apply Zad;exact PuA));refine fin ?_)|(apply RD_W;rfl;intro f))
  exact rtC
end Go.Proofs.YtpipekfmecikmaaGreatDoor
