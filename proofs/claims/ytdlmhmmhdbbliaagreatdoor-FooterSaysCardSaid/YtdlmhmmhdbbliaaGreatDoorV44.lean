/- Parts of the proof. -/
import Derived.Test.YtdlmhmmhdbbliaaGreatDoorV42
import Derived.LaidMore
import Derived.OpenShut
import Derived.ChangeArms
import Derived.Handed
set_option maxHeartbeats 4000000
set_option linter.unusedVariables false
set_option linter.unusedSimpArgs false
namespace Go.Wk
open Go Go.RowKit Go.ChangeShapes Go.WideShapes Go.ChangeAt
def ZyP (P:Program)(tb:List (String × FuncId))(tok:List UInt8):Option FuncId :=
 if tok=[] then none else (tb.find? fun x=>x.1.toUTF8.data.toList==tok&&P.funcNamed x.1==some x.2).map (·.2)
section
variable {H:Type}
def ZiR (P:Program)(tok:H->Option FuncId):Nat->TypeId->DataW H->Nat->Option Value
 | 0,_,_,_=>none
 | f+1,t,d,j =>
  match P.underlying t,d with
  | some .bool,.lit (.bool b)=>if j=0 then some (.bool b) else none
  | some (.int k),.lit (.int _ n)=>if j=0 then some (.int k n) else none
  | some .string,.lit (.string l)=>if j=0 then some (.string ⟨l.toArray⟩) else none
  | some (.func ..),.nil=>if j=0 then some .nilFunc else none
  | some (.func ..),.held x=>if j=0 then (tok x).map fun g => .func (.func g) #[] #[] else none
  | some (.array n e),.agg ds=>if j / P.cellsOf e<n then (match ds[j / P.cellsOf e]? with|some d'=>ZiR P tok f e d' (j % P.cellsOf e)|none=>none) else none
  | some (.struct fs),.agg ds =>
   match (List.range fs.size).find? fun i=>match fs[i]? with|some x=>decide (x.offset<=j)&&decide (j<x.offset+P.cellsOf x.type)|none=>false with
   | some i=>(match fs[i]?,ds[i]? with|some x,some d'=>ZiR P tok f x.type d' (j - x.offset)|_,_=>none)
   | none=>none
  | _,_=>none
end
theorem Zn1 {P:Program}{tb:List (String × FuncId)}{l:List UInt8}{g:FuncId}{t:TypeId}{v:Value}(h:ZyP P tb l=some g)(hv:funcToken P (t,v)=l):v = .func (.func g) #[] #[]:=by
 unfold ZyP at h
 cases l with
 | nil=>rw[if_pos rfl]at h;cases h
 | cons b r =>
  obtain⟨f,fn,rfl,h1,h2,h3⟩:=funcToken_tells hv
  rw[if_neg (by simp)]at h
  cases hx:tb.find? (fun x=>x.1.toUTF8.data.toList==b::r&&P.funcNamed x.1==some x.2) with
  | none=>rw[hx]at h;cases h
  | some x =>
   rw[hx]at h
   have hp:=List.find?_some hx
   simp only[Bool.and_eq_true,beq_iff_eq]at hp
   have hs:x.1=fn.name:=by
    have:x.1.toUTF8=fn.name.toUTF8:=by
     apply ByteArray.ext
     apply Array.ext'
     rw[hp.1,h3]
    exact String.toByteArray_inj.1 this
   rw[hs,h2]at hp
   have:=hp.2
   simp only[Option.map_some,Option.some.injEq]at h this
   rw[this,h]
theorem Zmk {cs:List Value}{o c j:Nat}{v:Value}(h:((cs.drop o).take c)[j]?=some v):cs[o+j]?=some v:=by
 rw[List.getElem?_take]at h
 split at h
 ·rwa[List.getElem?_drop]at h
 ·cases h
theorem ZiQ {H:Type}{enc:TypeId × Value->H}{tok:H->Option FuncId}{P:Program}{w:World}{base:Nat}{sp:Nat->Bool}{held:Bool}(htok:∀ t v g,tok (enc (t,v))=some g->v = .func (.func g) #[] #[]):∀ (f:Nat) (t:TypeId) (d:DataW H) (j:Nat) (v:Value) (fuel:Nat) (cs:List Value) (p:List MemPlace),ZiR P tok f t d j=some v ->
  DataW.trod enc P w base sp held fuel t cs=some (d,p)->cs[j]?=some v
 | 0,_,_,_,_,_,_,_,h,_=>by cases h
 | f+1,t,d,j,v,fuel,cs,p,h,ht=>by
  unfold ZiR at h
  split at h
  ·rename_i hu
   obtain⟨b',rfl,hx⟩:=DataW.trod_bool hu ht
   simp only[Prod.mk.injEq,DataW.lit.injEq,Lit.bool.injEq]at hx
   split at h
   ·rename_i hj
    subst hj
    simp only[Option.some.injEq]at h
    rw[<- h,hx.1];rfl
   ·cases h
  ·rename_i hu
   obtain⟨n',rfl,hx,_⟩:=DataW.trod_int hu ht
   simp only[Prod.mk.injEq,DataW.lit.injEq,Lit.int.injEq]at hx
   split at h
   ·rename_i hj
    subst hj
    simp only[Option.some.injEq]at h
    rw[<- h,hx.1.2];rfl
   ·cases h
  ·rename_i hu
   obtain⟨s,rfl,hx,_⟩:=DataW.trod_string hu ht
   simp only[Prod.mk.injEq,DataW.lit.injEq,Lit.string.injEq]at hx
   split at h
   ·rename_i hj
    subst hj
    simp only[Option.some.injEq]at h
    rw[<- h,hx.1];simp
   ·cases h
  ·rename_i hu
   split at h
   ·rename_i hj
    subst hj
    cases fuel with
    | zero=>simp[DataW.trod]at ht
    | succ n =>
     unfold DataW.trod at ht
     rw[hu]at ht
     simp only[Option.some.injEq]at h
     subst h
     split at ht <;> simp_all
   ·cases h
  ·rename_i hu
   split at h
   ·rename_i hj
    subst hj
    cases fuel with
    | zero=>simp[DataW.trod]at ht
    | succ n =>
     unfold DataW.trod at ht
     rw[hu]at ht
     rename_i x0
     cases hk:tok x0 with
     | none=>rw[hk]at h;cases h
     | some g =>
      rw[hk]at h
      simp only[Option.map_some,Option.some.injEq]at h
      subst h
      split at ht <;> first|(exfalso;simp_all;done)|skip
      all_goals (split at ht <;> first|(exfalso;simp_all;done)|skip)
      all_goals simp only[Option.some.injEq,Prod.mk.injEq,DataW.held.injEq]at ht
      all_goals (rw[<- ht.1]at hk;rw[htok _ _ _ hk];rfl)
   ·cases h
  ·rename_i n e ds hu
   obtain⟨xs,m,rfl,hx,hlen,hn,hel⟩:=DataW.trod_array hu ht
   simp only[Prod.mk.injEq,DataW.agg.injEq]at hx
   split at h
   ·rename_i hj
    split at h
    ·rename_i d' hd
     rw[hx.1,List.getElem?_map]at hd
     cases hy:xs[j / P.cellsOf e]? with
     | none=>rw[hy]at hd;cases hd
     | some y =>
      rw[hy]at hd
      simp only[Option.map_some,Option.some.injEq]at hd
      have h1:=hel _ hj
      rw[hy]at h1
      have h2:=ZiQ htok f e d' _ v m _ y.2 h (by rw[h1,<- hd])
      have h3:=Zmk h2
      rwa[Nat.mul_comm,Nat.div_add_mod]at h3
    ·cases h
   ·cases h
  ·rename_i fs ds hu
   obtain⟨xs,m,rfl,hx,hlen,hn,hel⟩:=DataW.trod_struct hu ht
   simp only[Prod.mk.injEq,DataW.agg.injEq]at hx
   split at h
   ·rename_i i hi
    split at h
    ·rename_i x d' hf hd
     rw[hx.1,List.getElem?_map]at hd
     cases hy:xs[i]? with
     | none=>rw[hy]at hd;cases hd
     | some y =>
      rw[hy]at hd
      simp only[Option.map_some,Option.some.injEq]at hd
      have h1:=hel i x hf
      rw[hy]at h1
      have h2:=ZiQ htok f x.type d' _ v m _ y.2 h (by rw[h1,<- hd])
      have h3:=Zmk h2
      have hp:=List.find?_some hi
      rw[hf]at hp
      simp only[Bool.and_eq_true,decide_eq_true_eq]at hp
      rwa[show x.offset+(j - x.offset)=j by omega]at h3
    ·cases h
   ·cases h
  ·cases h
theorem ZgC {H:Type}{enc:TypeId × Value->H}{tok:H->Option FuncId}{P:Program}{w:World}{base:Nat}{sp:Nat->Bool}{held:Bool}(htok:∀ t v g,tok (enc (t,v))=some g->v = .func (.func g) #[] #[]){n:String}{d:DataW H}{g:Nat}{t:TypeId}{cells:List Value}{s:Nat}{cs:Array Value}{fu:Nat}{p:List MemPlace}(fuel:Nat)
  (h1:P.globalNamed n=some g) (h3:w.var? P n=some cs) (h4:DataW.trod enc P w base sp held fu t cs.toList=some (d,p)) (hc:(List.range cells.length).map (fun j=>ZiR P tok fuel t d (s+j))=cells.map some):Zal w ⟨g,s,none⟩ cells:=by
 intro j v hj
 have hjl:=(List.getElem?_eq_some_iff.1 hj).1
 have h5:=congrArg (fun l=>l[j]?) hc
 simp only[List.getElem?_map,List.getElem?_range hjl,Option.map_some,hj]at h5
 simp only[Option.some.injEq]at h5
 have h6:=ZiQ htok fuel t _ _ v _ _ _ h5 h4
 rw[Zcd]
 have h7:=World.var?_cell h1 h3 (s+j)
 rw[h7]
 simpa using h6
theorem Zcw {P:Program}{w:World}{n:String}{d:DataW Unit}{g:Nat}{t:TypeId}{cells:List Value}{s:Nat}(tb:List (String × FuncId))(fuel:Nat)(h:funcsAt P w n d)(hg:P.globalNamed n=some g)(ht:(P.globals[g]?).map (·.type)=some t)
  (hc:(List.range cells.length).map (fun j=>ZiR P (ZyP P tb) fuel t d.funcsOut (s+j))=cells.map some):Zal w ⟨g,s,none⟩ cells:=by
 obtain⟨g',t',cs,fu,p,h1,h2,h3,h4⟩:=h
 obtain rfl:=Option.some.inj (hg.symm.trans h1)
 obtain rfl:=Option.some.inj (ht.symm.trans h2)
 exact ZgC (fun _ _ _ hk=>Zn1 hk rfl) fuel h1 h3 h4 hc
theorem Zdu {P:Program}{w:World}:∀ {l:List (String × DataW Unit)} {ps:List MemPlace},DataW.LaidVars P w l ps->∀ {n:String} {d:DataW Unit},(n,d)∈l ->
  ∃ g t cs fuel p,P.globalNamed n=some g/\(P.globals[g]?).map (·.type)=some t/\w.var? P n=some cs/\DataW.trod (fun _=>()) P w 0 (fun _=>true) false fuel t cs.toList=some (d,p)
 | [],_,_,_,_,h=>by cases h
 | (n0,d0)::l,ps,hl,n,d,h=>by
  obtain⟨g,t,cs,fuel,p,q,h1,h2,h3,h4,h5,_⟩:=hl
  rcases List.mem_cons.1 h with he|h
  ·obtain⟨rfl,rfl⟩:=Prod.mk.inj he
   exact⟨g,t,cs,fuel,p,h1,h2,h3,h4⟩
  ·exact Zdu h5 h
theorem ZeR {P:Program}{l:List (String × DataW Unit)}{w:World}(h:laidMetH P l w):laidMet P (l.filter fun x=>x.2.handleName?.isNone) w:=by
 unfold laidMetH at h
 generalize hfl:(l.filter fun x=>x.2.handleName?.isSome)=fl at h
 cases fl with
 | nil =>
  have e:(l.filter fun x=>x.2.handleName?.isNone)=l:=by
   rw[List.filter_eq_self]
   intro x hx
   have:=(List.filter_eq_nil_iff.1 hfl) x hx
   cases hn:x.2.handleName? with
   | none=>rfl
   | some s=>rw[hn]at this;exact absurd rfl this
  rw[e]
  exact h
 | cons a ys=>exact h.1
theorem ZgD {P:Program}{w:World}{l:List (String × DataW Unit)}{n:String}{d:DataW Unit}{g:Nat}{t:TypeId}{cells:List Value}(fuel:Nat)(h:laidMetH P l w)(hm:(n,d)∈l.filter fun x=>x.2.handleName?.isNone)(hg:P.globalNamed n=some g)(ht:(P.globals[g]?).map (·.type)=some t)
  (hc:(List.range cells.length).map (fun j=>ZiR P (fun _:Unit=>none) fuel t d (0+j))=cells.map some):Zal w ⟨g,0,none⟩ cells:=by
 obtain⟨ps,hl,_⟩:=ZeR h
 obtain⟨g',t',cs,fu,p,h1,h2,h3,h4⟩:=Zdu hl hm
 obtain rfl:=Option.some.inj (hg.symm.trans h1)
 obtain rfl:=Option.some.inj (ht.symm.trans h2)
 exact ZgC (fun _ _ _ hk=>by cases hk) fuel h1 h3 h4 hc
def ZAC:TypeDesc->Bool | .interface _=>true|_=>false
theorem Zlf {P:Program}{w:World}{l:List (String × DataW Unit)}{n:String}{d:DataW Unit}{g:Nat}{t:TypeId}(h:laidMetH P l w)(hm:(n,d)∈l.filter fun x=>x.2.handleName?.isNone)(hg:P.globalNamed n=some g)(ht:(P.globals[g]?).map (·.type)=some t)
  (hi:(P.underlying t).map ZAC=some true):∃ ev,w.cell? ⟨g,0,none⟩=some ev/\(ev = .nilIface\/∃ te pe,ev = .iface te pe):=by
 obtain⟨ps,hl,_⟩:=ZeR h
 obtain⟨g',t',cs,fu,p,h1,h2,h3,h4⟩:=Zdu hl hm
 obtain rfl:=Option.some.inj (hg.symm.trans h1)
 obtain rfl:=Option.some.inj (ht.symm.trans h2)
 have h7:=World.var?_cell h1 h3 0
 obtain⟨ms,hu⟩:∃ ms,P.underlying t=some (.interface ms):=by
  cases hd:P.underlying t with
  | none=>rw[hd]at hi;cases hi
  | some td=>cases td <;> first|exact⟨_,rfl⟩|(rw[hd]at hi;simp[ZAC]at hi)
 cases fu with
 | zero=>simp[DataW.trod]at h4
 | succ f =>
  unfold DataW.trod at h4
  rw[hu]at h4
  split at h4 <;> first|(exfalso;simp_all;done)|skip
  ·rename_i hc
   exact⟨.nilIface,by rw[h7,<- Array.getElem?_toList,hc];rfl,.inl rfl⟩
  ·rename_i hc
   exact⟨_,by rw[h7,<- Array.getElem?_toList,hc];rfl,.inr ⟨_,_,rfl⟩⟩
section
variable {H:Type}{enc:TypeId × Value->H}
theorem Zox {C:Checked}{os:Os}{f:FuncId}{fn:Func}{s:ChangeSpec}{conds:List PathCond}{t:TypeId}(laid:List (String × DataW Unit))(own:ownKnob C.prog.godebug=none)(started:os.Started)(noInit:C.prog.inits.idxOf? f=none)(hfn:C.prog.funcs[f]?=some fn)
  (witness:∃ (w:World) (tape:Tape) (i:Input),w.os=os/\(w.forCall tape i).Shaped C.prog/\i.vars=[]/\Input.okWide C.prog (w.forCall tape i) .any w.heap.size f i /\
   ((s.pre enc C.prog fn conds false (w.forCall tape i).memory i.args/\laidMetH C.prog laid (w.forCall tape i).memory)/\sizedMet enc C.prog fn (OpenSpec.ofChange s) false (w.forCall tape i).memory i.args)/\({}:Assume).holds C.prog (lone (Frame.enter C.prog f i.args .normal) [] (w.forCall tape i)))
  (hvars:s.vars=[]) (hres:fn.resultTypes = #[t]) (ht:C.prog.underlying t=some .bool) (hl:laidOutB C.prog=true)
  (hr:fn.params.toList.all (fun t=>C.prog.readableRec t&&decide (t<C.prog.types.size))=true) (hspec:∀ ds:List (DataW H),ds.length=fn.params.toList.length->s.fn H ds={ results:=[.lit (.bool true)],args:=ds })
  (walk:∀ (W:World) (base:Nat) (args:List Value) (ds:List (DataW H)) (p:List MemPlace),(∀ (j:Nat) t v,fn.params.toList[j]?=some t->args[j]?=some v->Value.okWide C.prog W .any base t v)->laidMetH C.prog laid W->W.ShapedOpen C.prog ->
   DataW.TrodAll enc C.prog W 0 (fun _=>true) true fn.params.toList args ds p->Does C.prog f args W (fun v _=>v = .bool true)) :
  ReturnsInHanded {} C os f .any (fun w args=>(s.pre enc C.prog fn conds false w args/\laidMetH C.prog laid w)/\sizedMet enc C.prog fn (OpenSpec.ofChange s) false w args) (s.post enc C.prog fn false true false false):=by
 have hr':∀ t∈fn.params.toList,C.prog.readableRec t=true/\t<C.prog.types.size:=fun t ht=>by
  have:=List.all_eq_true.1 hr t ht
  simpa using this
 refine returnsInHanded_of_calls own started noInit witness ?_
 intro w tape i _ hsh _ hok hpre hholds
 obtain⟨_,_,_,fn',hfn',_,_,_,_,hval⟩:=hok
 have e:fn'=fn:=Option.some.inj (hfn'.symm.trans hfn)
 subst e
 obtain⟨⟨⟨ds,gs,before,hw,hc⟩,hx⟩,hz⟩:=hpre
 have hw':=DataW.Whole.of_heap (w':=w.forCall tape i) (by rfl) hw
 obtain⟨p,q,hA,_⟩:=id hw'
 have hd:=walk (w.forCall tape i) w.heap.size i.args.toList ds p (fun j t v h1 h2=>hval j t v (by simpa using h1) (by simpa using h2)) (laidMetH.of_heap (by rfl) hx) hsh hA
 unfold Does at hd
 rw[Array.toArray_toList]at hd
 refine hd.mono ?_
 rintro e W' ⟨v,O,rfl,hb,_,rfl⟩
 exact ChangeSpec.post_blind (ZwF hvars hres ht hl hr' hspec hw' hb.toBelow)
end
end Go.Wk
