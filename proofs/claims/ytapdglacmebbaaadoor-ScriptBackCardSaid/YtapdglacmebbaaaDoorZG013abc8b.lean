/- Addresses, parts, slices, aggregates: single operations upon a symbolic state. -/
import Derived.Test.YtapdglacmebbaaaDoorZG009bc551
import Derived.Great.BuildSlice
import Derived.Laws.IdiomStrings
import Derived.Laws.Cover4
import Derived.Laws.BytesString
import Derived.Laws.MakeOwn
set_option linter.unusedVariables false
set_option linter.unusedSimpArgs false
set_option linter.constructorNameAsVariable false
set_option linter.all false

namespace Go.Sx
open Go.RowKit
variable[Env]
section
variable{P:Program}{M:Nat->Prop}{w0 w:World}{ρ:Rh}{h:SH}
theorem q27(b o n:Nat):(⟨b,o,none⟩:Addr).add n=⟨b,o+n,none⟩:=add_zero' b o n
theorem pr_drop{n:Nat}{xs:List SV}{x:Value}(k:Nat)(ha:(SV.pr xs).fit n ρ x):∃a,x=.pointer (some a)/\(SV.pr (xs.drop k)).fit n ρ (.pointer (some (a.add k))):=by
 simp only[SV.fit]at ha ⊢;obtain⟨b,o,cs,t,fz,rfl,hmem,vs,hvs,hc⟩:=ha;refine⟨_,rfl,b,o+k,cs,t,fz,by rw[q27],hmem,vs.drop k,q0f k hvs,λj v hv=>?_⟩;rw[List.getElem?_drop]at hv;have:=hc (k+j) v hv
 rwa [<-Nat.add_assoc]at this
def q4s(P:Program)(h:SH)(t:TypeId)(a:SV)(f:Nat):Tr (SV×SH):=
 match P.underlying t with
 |some (.struct fs)=>
  match fs[f]? with
  |some fd=>
   match szOf P fd.type with
   |some (_+1)=>
    match a with
    | .p i o=>.ret (.p i (o+fd.offset),h)
    | .pe i sz e o=>.ret (.pe i sz e (o+fd.offset),h)
    | .pr xs=>.ret (.pr (xs.drop fd.offset),h)
    |_=>.bad 40
   |_=>.bad 41
  |none=>.bad 42
 |_=>.bad 43
theorem fieldAddr_ok{t:TypeId}{a:SV}{x:Value}{f:Nat}(hm:HM M w0 ρ h w)(ha:a.fit h.nx ρ x){K:SV×SH->Prop}(hK:(q4s P h t a f).Holds K):GoodV P M w0 ρ h K (Instr.fieldAt t x f) w:=by
 unfold q4s at hK;split at hK
 .rename_i fs hu;split at hK
  .rename_i fd hfd;split at hK
   .rename_i n hsz;split at hK
    .rename_i i o;simp only[SV.fit]at ha;obtain⟨hi,rfl⟩:=ha;refine GoodV.same hm hK (x:=.pointer (some ⟨(ρ i).blk,(ρ i).off+o+fd.offset,none⟩)) ⟨hi,by rw[Nat.add_assoc]⟩ ?_;simp[Instr.fieldAt,run_underlying hu,hfd,Instr.sureAddr,fieldPlace,q0k hsz,q27]
    .rename_i i sz e o;simp only[SV.fit]at ha;obtain⟨hi,rfl⟩:=ha;refine GoodV.same hm hK (x:=.pointer (some ⟨(ρ i).blk,(ρ i).off+e*sz+o+fd.offset,none⟩)) ⟨hi,by rw[Nat.add_assoc _ o]⟩ ?_;simp[Instr.fieldAt,run_underlying hu,hfd,Instr.sureAddr,fieldPlace,q0k hsz,q27]
    .rename_i xs;obtain⟨a,rfl,ha'⟩:=pr_drop fd.offset ha;refine GoodV.same hm hK ha' ?_;simp[Instr.fieldAt,run_underlying hu,hfd,Instr.sureAddr,fieldPlace,q0k hsz]
    .exact hK.elim
   .exact hK.elim
  .exact hK.elim
 .exact hK.elim
def partS(P:Program)(h:SH)(t:TypeId)(xs:List SV)(o:Nat):Tr (SV×SH):=
 match aggT P t,szOf P t with
 |some true,some n=>let ys:=(xs.drop o).take n;.ret (.agg ys,h)
 |some false,_=>match xs[o]? with
  |some s=>.ret (s,h)
  |none=>.bad 50
 |_,_=>.bad 51
theorem part_ok{t:TypeId}{xs:List SV}{l:List Value}{o:Nat}(hm:HM M w0 ρ h w)(hf:SV.fits h.nx ρ xs l){K:SV×SH->Prop}(hK:(partS P h t xs o).Holds K):GoodV P M w0 ρ h K (part t l.toArray o) w:=by
 unfold partS at hK;split at hK
 .rename_i n hag hsz;refine GoodV.same hm hK (x:=.agg ((l.drop o).take n).toArray) ⟨_,rfl,q0g n (q0f o hf)⟩ ?_;simp only[part,Sem.run_bind,q4m hag,q0k hsz,Result.andThen_ok,if_true,Sem.run_pure];congr 2;apply Array.ext';rw[Array.toList_extract];simp[List.extract]
 .rename_i hag;cases hx:xs[o]? with
  |none=>rw[hx]at hK;exact hK.elim
  |some s=>
   rw[hx]at hK;obtain⟨x,hx',hfx⟩:=q44 hf hx;refine GoodV.same hm hK hfx ?_;simp[part,q4m hag,hx']
 .exact hK.elim
def fieldS(P:Program)(h:SH)(t:TypeId)(a:SV)(f:Nat):Tr (SV×SH):=
 match P.underlying t,a.agg? with
 |some (.struct fs),some xs=>
  match fs[f]? with
  |some fd=>partS P h fd.type xs fd.offset
  |none=>.bad 60
 |_,_=>.bad 61
theorem field_ok{t:TypeId}{a:SV}{x:Value}{f:Nat}(hm:HM M w0 ρ h w)(ha:a.fit h.nx ρ x){K:SV×SH->Prop}(hK:(fieldS P h t a f).Holds K):GoodV P M w0 ρ h K (Instr.field t x f) w:=by
 unfold fieldS at hK;split at hK
 .rename_i fs xs hu hx;obtain⟨l,rfl,hf⟩:=SV.agg_fit hx ha;split at hK
  .rename_i fd hfd;obtain⟨sv,h',ρ',x,w',h1,h2,h3,h4,h5,h6⟩:=part_ok hm hf hK;refine⟨sv,h',ρ',x,w',h1,h2,h3,h4,h5,?_⟩;simp[Instr.field,run_underlying hu,hfd,asAgg,h6]
  .exact hK.elim
 .exact hK.elim
def q3y(P:Program)(h:SH)(t:TypeId)(a ix:SV):Tr (SV×SH):=
 match ix.int? with
 |some (c,_,n)=>
  match P.underlying t with
  |some (.array len e)=>
   match szOf P e with
   |some sz=>
    match a with
    | .p i o=>bif c then idx c len n λj=>.ret (.p i (o+j*sz),h)else .ask (0<=n/\n<(len:Int)) (.ret (.pe i sz n.toNat o,h))
    | .pe i s e' o=>idx c len n λj=>.ret (.pe i s e' (o+j*sz),h)
    | .pr xs=>bif c then idx c len n λj=>.ret (.pr (xs.drop (j*sz)),h)else bif Nat.ble (len*sz) xs.length then .ask (0<=n/\n<(len:Int)) (.ret (.pr (colsL n.toNat 0 sz len sz xs),h))else .bad 69
    |_=>.bad 70
   |none=>.bad 71
  |some (.slice e)=>
   match szOf P e with
   |some sz=>
    match a with
    | .sl i o l _=>bif c then idx c l n λj=>.ret (.p i (o+j*sz),h)else .ask (0<=n/\n<(l:Int)) (.ret (.pe i sz n.toNat o,h))
    | .se i s o l=>bif Nat.beq s sz then .ask (0<=n/\n<(l:Int)) (.ret (.pe i s (o+n.toNat) 0,h))else .bad 72
    | .ow i l=>match h.get i with
     | .row _ s _ _=>bif Nat.beq s sz then .ask (0<=n/\n<(l:Int)) (.ret (.pe i s n.toNat 0,h))else .bad 77
     |_=>.bad 78
    | .rs s l el=>bif Nat.beq s sz then .ask (0<=n/\n<(l:Int)) (.ret (.pr (el n.toNat),h))else .bad 79
    |_=>.bad 73
   |none=>.bad 74
  |_=>.bad 75
 |none=>.bad 76
theorem indexAddr_ok{t:TypeId}{a ix:SV}{x y:Value}(hm:HM M w0 ρ h w)(ha:a.fit h.nx ρ x)(hi:ix.fit h.nx ρ y){K:SV×SH->Prop}(hK:(q3y P h t a ix).Holds K):GoodV P M w0 ρ h K (Instr.indexAt t x y) w:=by
 unfold q3y at hK;split at hK
 .rename_i c q n hint;have hy:=SV.int_fit hint hi;subst hy;split at hK
  .rename_i len e hu;split at hK
   .rename_i sz hsz;split at hK
    .rename_i i o;simp only[SV.fit]at ha;obtain⟨hil,rfl⟩:=ha;cases c with
     |true=>
      simp only[cond_true]at hK;obtain⟨j,hj,rfl,hk⟩:=idx_ok hK;refine GoodV.same hm hk (x:=.pointer (some ⟨(ρ i).blk,(ρ i).off+o+j*sz,none⟩)) ⟨hil,by rw[Nat.add_assoc]⟩ ?_;simp[Instr.indexAt,asIntOf,run_underlying hu,Instr.sureAddr,hj,q0k hsz,q27]
     |false=>
      obtain⟨hb,hk⟩:=hK;refine GoodV.same hm hk (x:=.pointer (some ⟨(ρ i).blk,(ρ i).off+o+n.toNat*sz,none⟩)) ⟨hil,by rw[Nat.add_right_comm]⟩ ?_;simp[Instr.indexAt,asIntOf,run_underlying hu,Instr.sureAddr,hb,q0k hsz,q27]
    .rename_i i s e' o;simp only[SV.fit]at ha;obtain⟨hil,rfl⟩:=ha;obtain⟨j,hj,rfl,hk⟩:=idx_ok hK;refine GoodV.same hm hk (x:=.pointer (some ⟨(ρ i).blk,(ρ i).off+e'*s+o+j*sz,none⟩)) ⟨hil,by rw[Nat.add_assoc _ o]⟩ ?_;simp[Instr.indexAt,asIntOf,run_underlying hu,Instr.sureAddr,hj,q0k hsz,q27]
    .rename_i xs;cases c with
     |true=>
      simp only[cond_true]at hK;obtain⟨j,hj,rfl,hk⟩:=idx_ok hK;obtain⟨a,rfl,ha'⟩:=pr_drop (j*sz) ha;refine GoodV.same hm hk ha' ?_;simp[Instr.indexAt,asIntOf,run_underlying hu,Instr.sureAddr,hj,q0k hsz]
     |false=>
      obtain⟨hc,hK1⟩:=q08 hK;have hc:=Nat.le_of_ble_eq_true hc;obtain⟨hb,hk⟩:=hK1;simp only[SV.fit]at ha;obtain⟨b,o,cs,t',fz,rfl,hmem,vs,hvs,hcc⟩:=ha
      have hle:n.toNat*sz+sz<=len*sz:=by
       have:=Nat.mul_le_mul_right sz (show n.toNat+1<=len by omega);rw[Nat.add_mul,Nat.one_mul]at this;exact this
      have hcols:=colsL_ok (o:=0) (e:=n.toNat) (sz:=sz) (cnt:=len) (k:=sz) hvs (by omega) (by omega);refine GoodV.same hm hk (x:=.pointer (some ⟨b,o+n.toNat*sz,none⟩)) ⟨b,o+n.toNat*sz,cs,t',fz,rfl,hmem,_,hcols,λj v hv=>?_⟩ ?_
      .rw[List.getElem?_take]at hv;split at hv
       .rw[List.getElem?_drop,Nat.zero_add]at hv;have:=hcc _ v hv
        rwa [<-Nat.add_assoc]at this
       .cases hv
      .simp[Instr.indexAt,asIntOf,run_underlying hu,Instr.sureAddr,hb,q0k hsz,q27]
    .exact hK.elim
   .exact hK.elim
  .rename_i e hu;split at hK
   .rename_i sz hsz;split at hK
    .rename_i i o l cp;simp only[SV.fit]at ha;obtain⟨hil,rfl⟩:=ha;cases c with
     |true=>
      simp only[cond_true]at hK;obtain⟨j,hj,rfl,hk⟩:=idx_ok hK;refine GoodV.same hm hk (x:=.pointer (some ⟨(ρ i).blk,(ρ i).off+o+j*sz,none⟩)) ⟨hil,by rw[Nat.add_assoc]⟩ ?_;simp[Instr.indexAt,asIntOf,run_underlying hu,hj,q0k hsz,q27]
     |false=>
      obtain⟨hb,hk⟩:=hK;refine GoodV.same hm hk (x:=.pointer (some ⟨(ρ i).blk,(ρ i).off+o+n.toNat*sz,none⟩)) ⟨hil,by rw[Nat.add_right_comm]⟩ ?_;simp[Instr.indexAt,asIntOf,run_underlying hu,hb,q0k hsz,q27]
    .rename_i i s o l;obtain⟨hs,hK1⟩:=q08 hK;have:=q02 hs;subst this;obtain⟨hb,hk⟩:=hK1;simp only[SV.fit]at ha;obtain⟨hil,a,c,rfl,_,_,hadr⟩:=ha;have:=hadr (by omega);subst this;refine GoodV.same hm hk (x:=.pointer (some ⟨(ρ i).blk,(ρ i).off+o*s+n.toNat*s,none⟩)) ⟨hil,by rw[Nat.add_mul,Nat.add_zero,Nat.add_assoc]⟩ ?_;simp[Instr.indexAt,asIntOf,run_underlying hu,hb,q0k hsz,q27]
    .rename_i i l;split at hK
     .rename_i t' s el m hg;obtain⟨hs,hK1⟩:=q08 hK;have:=q02 hs;subst this;obtain⟨hb,hk⟩:=hK1;simp only[SV.fit]at ha;obtain⟨hil,⟨_,hl0,_⟩|⟨hnl,_,rfl⟩⟩:=ha
      .omega
      have hfit:=hm.ob i;rw[hg]at hfit;rcases hfit.2 with ⟨hnl',_⟩|⟨_,hoff,_⟩
      .rw[hnl]at hnl';cases hnl'
      refine GoodV.same hm hk (x:=.pointer (some ⟨(ρ i).blk,0+n.toNat*s,none⟩)) ⟨hil,by rw[hoff,Nat.add_zero]⟩ ?_;simp[Instr.indexAt,asIntOf,run_underlying hu,hb,q0k hsz,q27]
     .exact hK.elim
    .rename_i s l el;obtain⟨hs,hK1⟩:=q08 hK;have:=q02 hs;subst this;obtain⟨hb,hk⟩:=hK1;simp only[SV.fit]at ha;obtain⟨a,c,rfl,_,_,hadr⟩:=ha;obtain⟨b,o,cs,t',fz,rfl,hmem,hall⟩:=hadr (by omega);obtain⟨vs,_,hvs,hc⟩:=hall n.toNat (by omega);refine GoodV.same hm hk (x:=.pointer (some ⟨b,o+n.toNat*s,none⟩)) ⟨b,o+n.toNat*s,cs,t',fz,rfl,hmem,vs,hvs,λj v hv=>?_⟩ ?_
     .exact hc j v hv
     .simp[Instr.indexAt,asIntOf,run_underlying hu,hb,q0k hsz,q27]
    .exact hK.elim
   .exact hK.elim
  .exact hK.elim
 .exact hK.elim
def indexS(P:Program)(h:SH)(t:TypeId)(a ix:SV):Tr (SV×SH):=
 match ix.int?,P.underlying t with
 |some (c,_,n),some (.array len e)=>
  match szOf P e,a.agg? with
  |some sz,some xs=>bif c then idx c len n λj=>partS P h e xs (j*sz)else
   match aggT P e with
   |some false=>bif Nat.beq sz 1&&Nat.beq xs.length len then .ask (0<=n/\n<(len:Int)) (.ret (selL n.toNat 0 xs,h))else .bad 83
   |_=>.bad 84
  |_,_=>.bad 80
 |some (c,_,n),some .string=>
  match a.str? with
  |some (c',s)=>.ask (0<=n/\n<(s.size:Int)) (.ret (kv (c&&c') (.int .u8 (s.get! n.toNat).toNat),h))
  |none=>.bad 81
 |_,_=>.bad 82
theorem index_ok{t:TypeId}{a ix:SV}{x y:Value}(hm:HM M w0 ρ h w)(ha:a.fit h.nx ρ x)(hi:ix.fit h.nx ρ y){K:SV×SH->Prop}(hK:(indexS P h t a ix).Holds K):GoodV P M w0 ρ h K (Instr.index t x y) w:=by
 unfold indexS at hK;split at hK
 .rename_i c q n len e hint hu;have hy:=SV.int_fit hint hi;subst hy;split at hK
  .rename_i sz xs hsz hx;obtain⟨l,rfl,hf⟩:=SV.agg_fit hx ha;cases c with
   |true=>
    simp only[cond_true]at hK;obtain⟨j,hj,rfl,hk⟩:=idx_ok hK;obtain⟨sv,h',ρ',x,w',h1,h2,h3,h4,h5,h6⟩:=part_ok hm hf hk;refine⟨sv,h',ρ',x,w',h1,h2,h3,h4,h5,?_⟩;simp[Instr.index,asIntOf,run_underlying hu,hj,q0k hsz,h6]
   |false=>
    simp only[cond_false]at hK;split at hK
    .rename_i hag;obtain⟨hc,hb,hk⟩:=q08 hK;simp only[Bool.and_eq_true]at hc;have e1:=q02 hc.1;have e2:=q02 hc.2;have hlt:n.toNat<xs.length:=by omega
     have hx:xs[n.toNat]?=some xs[n.toNat]:=List.getElem?_eq_getElem hlt;obtain⟨y,hy,hfy⟩:=q44 hf hx;refine GoodV.same hm hk (selL_ok (k:=n.toNat) hx (by omega) hfy) ?_;simp[Instr.index,asIntOf,run_underlying hu,hb,q0k hsz,e1,part,q4m hag,hy]
    .exact hK.elim
  .exact hK.elim
 .rename_i c q n hint hu;have hy:=SV.int_fit hint hi;subst hy;split at hK
  .rename_i c' s hs;obtain⟨hb,hk⟩:=hK;have hx:=SV.str_fit hs ha;subst hx;refine GoodV.same hm hk (q3j _ _ _) ?_;have hlt:n.toNat<s.size:=by omega
   have hg:s[n.toNat]?=some (s.get! n.toNat):=by
    rw[getElem?_pos s n.toNat hlt];congr 1;show s.data[n.toNat]=s.data[n.toNat]!;rw[getElem!_pos s.data n.toNat hlt]
   simp[Instr.index,asIntOf,run_underlying hu,hb.1,hg]
  .exact hK.elim
 .exact hK.elim
def q81(h:SH)(a:SV)(j:Nat):Tr (SV×SH):=
 match a with
 | .tup xs=>match xs[j]? with
  |some s=>.ret (s,h)
  |none=>.bad 90
 |_=>.bad 91
theorem extract_ok{a:SV}{x:Value}{j:Nat}(hm:HM M w0 ρ h w)(ha:a.fit h.nx ρ x){K:SV×SH->Prop}(hK:(q81 h a j).Holds K):GoodV P M w0 ρ h K (Instr.extract x j) w:=by
 unfold q81 at hK;split at hK
 .rename_i xs;simp only[SV.fit]at ha;obtain⟨l,rfl,hf⟩:=ha;cases hx:xs[j]? with
  |none=>rw[hx]at hK;exact hK.elim
  |some s=>
   rw[hx]at hK;obtain⟨x,hx',hfx⟩:=q44 hf hx;refine GoodV.same hm hK hfx ?_;simp[Instr.extract,hx']
 .exact hK.elim
def loS(lo:Option SV)(h:Nat)(k:Nat->Tr (SV×SH)):Tr (SV×SH):=
 match lo with
 |none=>k 0
 |some s=>match s.int? with
  |some (c,_,n)=>idx c (h+1) n k
  |none=>.bad 100
def hiS(hi:Option SV)(len cap:Nat)(k:Nat->Tr (SV×SH)):Tr (SV×SH):=
 match hi with
 |none=>bif Nat.ble len cap then k len else .bad 101
 |some s=>match s.int? with
  |some (c,_,n)=>idx c (cap+1) n k
  |none=>.bad 102
def loQ(lo:Option SV)(h:Nat)(k:Nat->Tr (SV×SH)):Tr (SV×SH):=
 match lo with
 |none=>k 0
 |some s=>match s.int? with
  |some (_,_,n)=>.ask (0<=n/\n<=(h:Int)) (k n.toNat)
  |none=>.bad 103
def hiQ(hi:Option SV)(len cap:Nat)(k:Nat->Tr (SV×SH)):Tr (SV×SH):=
 match hi with
 |none=>.ask (len<=cap) (k len)
 |some s=>match s.int? with
  |some (_,_,n)=>.ask (0<=n/\n<=(cap:Int)) (k n.toNat)
  |none=>.bad 104
def optFit(n:Nat)(ρ:Rh)(s:Option SV)(x:Option Value):Prop:=
 match s,x with
 |none,none=>True
 |some s,some x=>s.fit n ρ x
 |_,_=>False
theorem q73(q:IntKind)(i:Int)(j y:Nat)(hj:i=(j:Int))(hy:j<=y)(code:BoundsCode):(Instr.sliceBound (.int q i) y code).run P w=.ok j w:=by
 subst hj;simp[Instr.sliceBound,asIntOf,hy]
theorem q4o{hi:Option SV}{hv:Option Value}{len cap:Nat}(hf:optFit h.nx ρ hi hv){k:Nat->Tr (SV×SH)}{K:SV×SH->Prop}(hK:(hiS hi len cap k).Holds K\/(hiQ hi len cap k).Holds K):
  ∃j,j<=cap/\(k j).Holds K/\((hv=none/\j=len)\/∃q,hv=some (.int q (j:Int))):=by
 unfold hiS hiQ at hK;cases hi with
 |none=>
  cases hv with
  |some _=>exact hf.elim
  |none=>
   rcases hK with hK|hK
   .obtain⟨h1,h2⟩:=q08 hK;exact⟨len,Nat.le_of_ble_eq_true h1,h2,.inl ⟨rfl,rfl⟩⟩
   .exact⟨len,hK.1,hK.2,.inl ⟨rfl,rfl⟩⟩
 |some s=>
  cases hv with
  |none=>exact hf.elim
  |some x=>
   cases hs:s.int? with
   |none=>simp[hs,Tr.Holds]at hK
   |some y=>
    obtain⟨c,q,n⟩:=y;have hx:=SV.int_fit hs hf;simp only[hs]at hK;rcases hK with hK|hK
    .obtain⟨j,hj,e,hk⟩:=idx_ok hK;exact⟨j,by omega,hk,.inr ⟨q,by rw[hx,e]⟩⟩
    .obtain⟨hb,hk⟩:=hK;exact⟨n.toNat,by omega,hk,.inr ⟨q,by rw[hx,Int.toNat_of_nonneg hb.1]⟩⟩
theorem q4n{lo:Option SV}{lv:Option Value}{hh:Nat}(hf:optFit h.nx ρ lo lv){k:Nat->Tr (SV×SH)}{K:SV×SH->Prop}(hK:(loS lo hh k).Holds K\/(loQ lo hh k).Holds K):
  ∃j,j<=hh/\(k j).Holds K/\((lv=none/\j=0)\/∃q,lv=some (.int q (j:Int))):=by
 unfold loS loQ at hK;cases lo with
 |none=>
  cases lv with
  |some _=>exact hf.elim
  |none=>
   rcases hK with hK|hK
   .exact⟨0,Nat.zero_le _,hK,.inl ⟨rfl,rfl⟩⟩
   .exact⟨0,Nat.zero_le _,hK,.inl ⟨rfl,rfl⟩⟩
 |some s=>
  cases lv with
  |none=>exact hf.elim
  |some x=>
   cases hs:s.int? with
   |none=>simp[hs,Tr.Holds]at hK
   |some y=>
    obtain⟨c,q,n⟩:=y;have hx:=SV.int_fit hs hf;simp only[hs]at hK;rcases hK with hK|hK
    .obtain⟨j,hj,e,hk⟩:=idx_ok hK;exact⟨j,by omega,hk,.inr ⟨q,by rw[hx,e]⟩⟩
    .obtain⟨hb,hk⟩:=hK;exact⟨n.toNat,by omega,hk,.inr ⟨q,by rw[hx,Int.toNat_of_nonneg hb.1]⟩⟩
theorem q2e{lv hv:Option Value}{l hh len cap:Nat}(isS:Bool)(hl:l<=hh)(hc:hh<=cap)(h1:(hv=none/\hh=len)\/∃q,hv=some (.int q (hh:Int)))(h2:(lv=none/\l=0)\/∃q,lv=some (.int q (l:Int))):
  (Instr.sliceBounds isS len cap lv hv none).run P w=.ok (l,hh,cap) w:=by
 rcases h1 with ⟨rfl,rfl⟩|⟨q,rfl⟩<;>rcases h2 with ⟨rfl,rfl⟩|⟨q',rfl⟩
 .simp[Instr.sliceBounds]
 .simp[Instr.sliceBounds,q73 q' _ l _ rfl hl]
 .simp[Instr.sliceBounds,q73 q _ hh _ rfl hc]
 .simp[Instr.sliceBounds,q73 q _ hh _ rfl hc,q73 q' _ l _ rfl hl]
def shEl(l:Nat)(el:Nat->List SV):Nat->List SV:=λe=>el (l+e)
def knO:Option SV->Bool
 |none=>true
 |some s=>match s.int? with
  |some (c,_,_)=>c
  |none=>true
def sliceS(P:Program)(h:SH)(t:TypeId)(a:SV)(lo hi:Option SV):Tr (SV×SH):=
 match P.underlying t with
 |some (.array len e)=>
  match szOf P e,a with
  |some sz,.p i o=>hiS hi len len λhh=>loS lo hh λl=>.ret (.sl i (bif Nat.beq len l then o else o+l*sz) (hh-l) (len-l),h)
  |some sz,.pr xs=>bif Nat.beq (len*sz) xs.length&&Nat.ble len 1000 then hiQ hi len len λhh=>loQ lo hh λl=>.ret (.rs sz (hh-l) (shEl l (λe=>(xs.drop (e*sz)).take sz)),h)else .bad 118
  |_,_=>.bad 110
 |some (.slice e)=>
  match szOf P e with
  |some sz=>
   match a with
   | .sl i o len cap=>hiS hi len cap λhh=>loS lo hh λl=>.ret (.sl i (bif Nat.beq cap l then o else o+l*sz) (hh-l) (cap-l),h)
   | .se i s o len=>bif Nat.beq s sz then hiQ hi len len λhh=>loQ lo hh λl=>.ret (.se i s (o+l) (hh-l),h)else .bad 111
   | .ow i len=>match h.get i with
    | .row _ s _ _=>bif Nat.beq s sz then hiQ hi len len λhh=>match lo with
     |none=>.ret (.ow i hh,h)
     |some _=>loQ lo hh λl=>.ret (.se i s l (hh-l),h)else .bad 116
    |_=>.bad 117
   | .rs s len el=>bif Nat.beq s sz then hiQ hi len len λhh=>match lo with
    |none=>.ret (.rs s hh el,h)
    |some _=>loQ lo hh λl=>.ret (.rs s (hh-l) (shEl l el),h)else .bad 119
   | .k (.slice none 0 0)=>hiQ hi 0 0 λhh=>loQ lo hh λ_=>.ret (.k (.slice none 0 0),h)
   |_=>.bad 112
  |none=>.bad 113
 |some .string=>
  match a.str? with
  |some (c,s)=>
   match c&&(knO lo&&knO hi)with
   |true=>hiS hi s.size s.size λhh=>loS lo hh λl=>.ret (.k (.string (s.extract l hh)),h)
   |false=>hiQ hi s.size s.size λhh=>loQ lo hh λl=>.ret (.v (.string (s.extract l hh)),h)
  |none=>.bad 114
 |_=>.bad 115
theorem bif_beq{α:Type}(a b:Nat)(x y:α):(bif Nat.beq a b then x else y)=if a=b then x else y:=by
 by_cases hab:a=b
 .simp[hab]
 .have:Nat.beq a b=false:=by
   cases hb:Nat.beq a b
   .rfl
   .exact absurd (q02 hb) hab
  simp[this,hab]
theorem slice_ok{t:TypeId}{a:SV}{x:Value}{lo hi:Option SV}{lv hv:Option Value}(hm:HM M w0 ρ h w)(ha:a.fit h.nx ρ x)(hlo:optFit h.nx ρ lo lv)(hhi:optFit h.nx ρ hi hv){K:SV×SH->Prop}(hK:(sliceS P h t a lo hi).Holds K):
  GoodV P M w0 ρ h K (Instr.sliceAt t x lv hv none) w:=by
 unfold sliceS at hK;split at hK
 .rename_i len e hu;split at hK
  .rename_i sz i o hsz;simp only[SV.fit]at ha;obtain⟨hil,rfl⟩:=ha;obtain⟨hh,hhc,hK1,h1⟩:=q4o hhi (.inl hK);obtain⟨l,hl,hk,h2⟩:=q4n hlo (.inl hK1);rw[bif_beq]at hk;refine GoodV.same hm hk (x:=.slice (some ⟨(ρ i).blk,(ρ i).off+if len=l then o else o+l*sz,none⟩) (hh-l) (len-l)) ⟨hil,rfl⟩ ?_;simp only[Instr.sliceAt,Sem.run_bind,run_underlying hu,Result.andThen_ok,Instr.sureAddr,Sem.run_pure,q2e (P:=P) (w:=w) false hl hhc h1 h2,q0k hsz];by_cases hcl:len=l
   .simp[hcl]
   .simp[hcl,q27,Nat.add_assoc]
  .rename_i sz xs hsz;obtain⟨hxl,hK⟩:=q08 hK;simp only[Bool.and_eq_true]at hxl;have hxl2:=Nat.le_of_ble_eq_true hxl.2;have hxl:=q02 hxl.1;obtain⟨hh,hhc,hK1,h1⟩:=q4o hhi (.inr hK);obtain⟨l,hl,hk,h2⟩:=q4n hlo (.inr hK1);simp only[SV.fit]at ha;obtain⟨b,o,cs,t',fz,rfl,hmem,vs,hvs,hc⟩:=ha;have hvl:=q0a hvs;refine GoodV.same hm hk (x:=.slice (some ⟨b,o+if len=l then 0 else l*sz,none⟩) (hh-l) (len-l)) ⟨_,_,rfl,by omega,by unfold maxLen;omega,λhpos=>⟨_,_,cs,t',fz,rfl,hmem,λe he=>⟨(vs.drop ((l+e)*sz)).take sz,?_,q0g _ (q0f _ hvs),λj v hv=>?_⟩⟩⟩ ?_
   .have:(l+e)*sz+sz<=len*sz:=by
     have:=Nat.mul_le_mul_right sz (show l+e+1<=len by omega);rw[Nat.add_mul,Nat.one_mul]at this;exact this
    simp;omega
   .rw[if_neg (by omega)];rw[List.getElem?_take]at hv;split at hv
    .rw[List.getElem?_drop]at hv;have:=hc _ v hv;rw[Nat.add_mul]at this;simpa [Nat.add_assoc]using this
    .cases hv
   .simp only[Instr.sliceAt,Sem.run_bind,run_underlying hu,Result.andThen_ok,Instr.sureAddr,Sem.run_pure,q2e (P:=P) (w:=w) false hl hhc h1 h2,q0k hsz];by_cases hcl:len=l
    .simp[hcl]
    .simp[hcl,q27]
  .exact hK.elim
 .rename_i e hu;split at hK
  .rename_i sz hsz;split at hK
   .rename_i i o len cap;simp only[SV.fit]at ha;obtain⟨hil,rfl⟩:=ha;obtain⟨hh,hhc,hK1,h1⟩:=q4o hhi (.inl hK);obtain⟨l,hl,hk,h2⟩:=q4n hlo (.inl hK1);rw[bif_beq]at hk;refine GoodV.same hm hk (x:=.slice (some ⟨(ρ i).blk,(ρ i).off+if cap=l then o else o+l*sz,none⟩) (hh-l) (cap-l)) ⟨hil,rfl⟩ ?_;simp only[Instr.sliceAt,Instr.slice,Sem.run_bind,run_underlying hu,Result.andThen_ok,Sem.run_pure,q2e (P:=P) (w:=w) true hl hhc h1 h2,q0k hsz];by_cases hcl:cap=l
    .simp[hcl]
    .simp[hcl,q27,Nat.add_assoc]
   .rename_i i s o len;obtain⟨hs,hK0⟩:=q08 hK;have:=q02 hs;subst this;simp only[SV.fit]at ha;obtain⟨hil,a,c,rfl,hlc,hcm,hadr⟩:=ha;obtain⟨hh,hhc,hK1,h1⟩:=q4o hhi (.inr hK0);obtain⟨l,hl,hk,h2⟩:=q4n hlo (.inr hK1);refine GoodV.same hm hk (x:=.slice (if c=l then a else a.map (·.add (l*s))) (hh-l) (c-l)) ⟨hil,_,_,rfl,by omega,by omega,λhpos=>?_⟩ ?_
    .rw[if_neg (by omega),hadr (by omega)];simp[q27,Nat.add_mul,Nat.add_assoc]
    .simp only[Instr.sliceAt,Instr.slice,Sem.run_bind,run_underlying hu,Result.andThen_ok,Sem.run_pure,q2e (P:=P) (w:=w) true hl (Nat.le_trans hhc hlc) h1 h2,q0k hsz]
   .rename_i i len;split at hK
    .rename_i t' s el m hg;obtain⟨hs,hK0⟩:=q08 hK;have:=q02 hs;subst this;have hfit:=hm.ob i;rw[hg]at hfit;obtain⟨hh,hhc,hK1,h1⟩:=q4o hhi (.inr hK0)
     have core:∃l s',l<=hh/\K (s',h)/\((lv=none/\l=0)\/∃q,lv=some (.int q (l:Int)))/\(s'=.se i s l (hh-l)\/(l=0/\s'=.ow i hh)):=by
      cases lo with
      |none=>
       cases lv with
       |some _=>exact hlo.elim
       |none=>exact⟨0,_,Nat.zero_le _,hK1,.inl ⟨rfl,rfl⟩,.inr ⟨rfl,rfl⟩⟩
      |some lo=>
       obtain⟨l,q1,q2,q3⟩:=q4n hlo (.inr hK1);exact⟨l,_,q1,q2,q3,.inl rfl⟩
     obtain⟨l,s',hl,hk,h2,hs'⟩:=core;simp only[SV.fit]at ha;obtain⟨hil,⟨hnl,hl0,ad,rfl⟩|⟨hnl,hlc,rfl⟩⟩:=ha
     .subst hl0;have e1:hh=0:=by omega
      have e2:l=0:=by omega
      subst e1;subst e2;refine GoodV.same hm hk (x:=.slice ad 0 0) ?_ ?_
      .rcases hs' with rfl|⟨_,rfl⟩
       .exact⟨hil,_,_,rfl,Nat.le_refl _,Nat.zero_le _,λhpos=>by omega⟩
       .exact⟨hil,.inl ⟨hnl,rfl,_,rfl⟩⟩
      simp only[Instr.sliceAt,Instr.slice,Sem.run_bind,run_underlying hu,Result.andThen_ok,Sem.run_pure,q2e (P:=P) (w:=w) true (Nat.le_refl 0) (Nat.le_refl 0) h1 h2,q0k hsz];simp
     .rcases hfit.2 with ⟨hnl',_⟩|⟨_,hoff,cc,fz,hob,_,hcs,hmc,hcm,_⟩
      .rw[hnl]at hnl';cases hnl'
      .refine GoodV.same hm hk (x:=.slice (if(ρ i).cap=l then some ⟨(ρ i).blk,0,none⟩else(some (⟨(ρ i).blk,0,none⟩:Addr)).map (·.add (l*s))) (hh-l) ((ρ i).cap-l)) ?_ ?_
       .rcases hs' with rfl|⟨hl0,rfl⟩
        .refine⟨hil,_,_,rfl,by omega,by omega,λhpos=>?_⟩;rw[if_neg (by omega)];simp[q27,hoff]
        .subst hl0;refine⟨hil,.inr ⟨hnl,by omega,?_⟩⟩;simp[q27]
       .simp only[Instr.sliceAt,Instr.slice,Sem.run_bind,run_underlying hu,Result.andThen_ok,Sem.run_pure,q2e (P:=P) (w:=w) true hl (Nat.le_trans hhc hlc) h1 h2,q0k hsz]
    .exact hK.elim
   .rename_i s len el;obtain⟨hs,hK0⟩:=q08 hK;have:=q02 hs;subst this;obtain⟨hh,hhc,hK1,h1⟩:=q4o hhi (.inr hK0)
    have core:∃l,l<=hh/\K (.rs s (hh-l) (shEl l el),h)/\((lv=none/\l=0)\/∃q,lv=some (.int q (l:Int))):=by
     cases lo with
     |none=>
      cases lv with
      |some _=>exact hlo.elim
      |none=>exact⟨0,Nat.zero_le _,by rw[Nat.sub_zero,show shEl 0 el=el from funext λe=>by simp[shEl]];exact hK1,.inl ⟨rfl,rfl⟩⟩
     |some lo=>exact q4n hlo (.inr hK1)
    obtain⟨l,hl,hk,h2⟩:=core;simp only[SV.fit]at ha;obtain⟨a,c,rfl,hlc,hcm,hadr⟩:=ha;refine GoodV.same hm hk (x:=.slice (if c=l then a else a.map (·.add (l*s))) (hh-l) (c-l)) ⟨_,_,rfl,by omega,by omega,λhpos=>?_⟩ ?_
    .obtain⟨b,o,cs,t',fz,rfl,hmem,hall⟩:=hadr (by omega);refine⟨b,o+l*s,cs,t',fz,?_,hmem,λe he=>?_⟩
     .rw[if_neg (by omega)];simp[q27]
     .obtain⟨vs,k1,k2,k3⟩:=hall (l+e) (by omega);refine⟨vs,k1,k2,λj v hv=>?_⟩;have:=k3 j v hv;rw[Nat.add_mul]at this;simpa [Nat.add_assoc]using this
    .simp only[Instr.sliceAt,Instr.slice,Sem.run_bind,run_underlying hu,Result.andThen_ok,Sem.run_pure,q2e (P:=P) (w:=w) true hl (Nat.le_trans hhc hlc) h1 h2,q0k hsz]
   .simp only[SV.fit]at ha;subst ha;obtain⟨hh,hhc,hK1,h1⟩:=q4o hhi (.inr hK);obtain⟨l,hl,hk,h2⟩:=q4n hlo (.inr hK1);have e1:hh=0:=by omega
    have e2:l=0:=by omega
    subst e1;subst e2;refine GoodV.same hm hk (x:=.slice none 0 0) (by simp[SV.fit]) ?_;simp only[Instr.sliceAt,Instr.slice,Sem.run_bind,run_underlying hu,Result.andThen_ok,Sem.run_pure,q2e (P:=P) (w:=w) true hl hhc h1 h2,q0k hsz];simp
   .exact hK.elim
  .exact hK.elim
 .rename_i hu;split at hK
  .rename_i c s hs;have hx:=SV.str_fit hs ha;subst hx;split at hK
   .obtain⟨hh,hhc,hK1,h1⟩:=q4o hhi (.inl hK);obtain⟨l,hl,hk,h2⟩:=q4n hlo (.inl hK1);refine GoodV.same hm hk (x:=.string (s.extract l hh)) (by simp[SV.fit]) ?_;simp[Instr.sliceAt,Instr.slice,run_underlying hu,q2e (P:=P) (w:=w) false hl hhc h1 h2]
   .obtain⟨hh,hhc,hK1,h1⟩:=q4o hhi (.inr hK);obtain⟨l,hl,hk,h2⟩:=q4n hlo (.inr hK1);refine GoodV.same hm hk (x:=.string (s.extract l hh)) (by simp[SV.fit]) ?_;simp[Instr.sliceAt,Instr.slice,run_underlying hu,q2e (P:=P) (w:=w) false hl hhc h1 h2]
  .exact hK.elim
 .exact hK.elim
def slicey:SV->Bool
 | .rs .. | .ow .. | .se .. | .sl .. | .k (.slice ..)=>true
 |_=>false
theorem qa8{s:SV}{x:Value}{n:Nat}(hs:slicey s=true)(hf:s.fit n ρ x):∃a l c,x=.slice a l c:=by
 unfold slicey at hs;split at hs
 .obtain⟨a,c,rfl,_⟩:=hf;exact⟨_,_,_,rfl⟩
 .obtain⟨_,⟨_,_,a,rfl⟩|⟨_,_,rfl⟩⟩:=hf<;>exact⟨_,_,_,rfl⟩
 .obtain⟨_,a,c,rfl,_⟩:=hf;exact⟨_,_,_,rfl⟩
 .obtain⟨_,rfl⟩:=hf;exact⟨_,_,_,rfl⟩
 .simp only[SV.fit]at hf;exact⟨_,_,_,hf⟩
 .cases hs
def zeroK:SV->Bool
 | .k (.int _ n)=>decide (n=0)
 |_=>false
theorem zeroK_fit{s:SV}{x:Value}{n:Nat}(hs:zeroK s=true)(hf:s.fit n ρ x):∃q,x=.int q 0:=by
 unfold zeroK at hs;split at hs
 .rename_i q m;have:=of_decide_eq_true hs;subst this;exact⟨q,by simpa [SV.fit]using hf⟩
 .cases hs
theorem run_bound0(q:IntKind)(y:Nat)(code:BoundsCode):(Instr.sliceBound (.int q 0) y code).run P w=.ok 0 w:=q73 q 0 0 y rfl (Nat.zero_le y) code
def slice3S(P:Program)(h:SH)(t:TypeId)(a:SV)(lo:Option SV)(hi mx:SV):Tr (SV×SH):=
 match P.underlying t with
 |some (.slice e)=>
  match szOf P e with
  |some sz=>bif slicey a&&(zeroK hi&&(zeroK mx&&(match lo with
   |none=>true
   |some s=>zeroK s)))then .ret (.ow h.nx 0,h.push (.row e sz (.fn λ_=>[]) 0))else .bad 127
  |none=>.bad 125
 |_=>.bad 126
theorem slice3_ok{t:TypeId}{a hi mx:SV}{x hv mv:Value}{lo:Option SV}{lv:Option Value}(hm:HM M w0 ρ h w)(ha:a.fit h.nx ρ x)(hlo:optFit h.nx ρ lo lv)(hhi:hi.fit h.nx ρ hv)(hmx:mx.fit h.nx ρ mv){K:SV×SH->Prop}(hK:(slice3S P h t a lo hi mx).Holds K):
  GoodV P M w0 ρ h K (Instr.sliceAt t x lv (some hv) (some mv)) w:=by
 unfold slice3S at hK;split at hK
 .rename_i e hu;split at hK
  .rename_i sz hsz;obtain⟨hc,hK⟩:=q08 hK;simp only[Bool.and_eq_true]at hc;obtain⟨c1,c2,c3,c4⟩:=hc;obtain⟨b,l,c,rfl⟩:=qa8 c1 ha;obtain⟨q1,rfl⟩:=zeroK_fit c2 hhi;obtain⟨q2,rfl⟩:=zeroK_fit c3 hmx
   have hr:(Instr.sliceBounds true l c lv (some (.int q1 0)) (some (.int q2 0))).run P w=.ok (0,0,0) w:=by
    cases lo with
    |none=>
     cases lv with
     |some _=>exact hlo.elim
     |none=>simp[Instr.sliceBounds,run_bound0]
    |some s=>
     cases lv with
     |none=>exact hlo.elim
     |some v=>
      obtain⟨q3,rfl⟩:=zeroK_fit c4 hlo;simp[Instr.sliceBounds,run_bound0]
   refine⟨_,_,upd ρ h.nx ⟨0,0,0,true⟩,.slice b 0 0,w,hK,Nat.le_succ _,q0r _ _ _,hm.learn ⟨Nat.zero_le _,.inl ⟨rfl,rfl⟩⟩ (λh=>by cases h),⟨Nat.lt_succ_self _,.inl ⟨?_,rfl,_,rfl⟩⟩,?_⟩
   .simp[upd]
   .simp only[Instr.sliceAt,Instr.slice,Sem.run_bind,run_underlying hu,Result.andThen_ok,Sem.run_pure,hr,q0k hsz];simp
  .exact hK.elim
 .exact hK.elim
def fillS(place:Nat->Option (Nat×Nat))(cells:List SV):List (Nat×SV)->Option (List SV)
 | []=>some cells
 |(i,v)::rest=>
  match place i with
  |none=>none
  |some (off,size)=>
   bif (v.one||v.aggy)&&Nat.beq v.cells.length size&&Nat.ble (off+size) cells.length then fillS place (splice cells off v.cells) rest
   else none
theorem foldl_set(off:Nat):∀(cs:List Value)(i:Nat)(l:List Value),off+i+cs.length<=l.length->
  (cs.zipIdx i).foldl (λ(a:Array Value)(x:Value×Nat)=>a.setIfInBounds (off+x.2) x.1) l.toArray=(l.take (off+i)++cs++l.drop (off+i+cs.length)).toArray
 | [],i,l,_=>by simp
 |c::cs,i,l,hl=>by
  simp only[List.zipIdx_cons,List.foldl_cons,List.setIfInBounds_toArray];have hi:off+i<l.length:=by simp at hl;omega
  rw[foldl_set off cs (i+1) (l.set (off+i) c) (by simp at hl ⊢;omega)];have e:=list_seg_step l (off+i) c cs (by simp at hl ⊢;omega);exact congrArg List.toArray (by simpa [Nat.add_assoc]using e)
theorem fill_ok{place:Nat->Option (Nat×Nat)}{n:Nat}:∀{parts:List (Nat×SV)}{vparts:List (Nat×Value)}{cells cells':List SV}{l:List Value},fillS place cells parts=some cells'->SV.fits n ρ cells l->
  parts.map (·.1)=vparts.map (·.1)->SV.fits n ρ (parts.map (·.2)) (vparts.map (·.2))->∃l',Instr.fill place l.toArray vparts=some (List.toArray l')/\SV.fits n ρ cells' l'
 | [],[],cells,cells',l,hfl,hf,_,_=>by
  simp only[fillS,Option.some.injEq]at hfl;subst hfl;exact⟨l,rfl,hf⟩
 |(i,v)::parts,(i',x)::vparts,cells,cells',l,hfl,hf,h1,h2=>by
  simp only[List.map_cons,List.cons.injEq]at h1;obtain⟨rfl,h1⟩:=h1;simp only[List.map_cons,SV.fits]at h2;simp only[fillS]at hfl;cases hp:place i with
  |none=>simp[hp]at hfl
  |some os=>
   obtain⟨off,size⟩:=os;rw[hp]at hfl;simp only at hfl;cases hc:((v.one||v.aggy)&&Nat.beq v.cells.length size&&Nat.ble (off+size) cells.length)with
   |false=>simp[hc]at hfl
   |true=>
    rw[hc]at hfl;simp only[cond_true]at hfl;simp only[Bool.and_eq_true,Bool.or_eq_true]at hc;obtain⟨⟨c1,c2⟩,c3⟩:=hc;have hlen:=q02 c2;have hle:=Nat.le_of_ble_eq_true c3;have hvf:=q40 c1 h2.1;have hl1:=q0a hvf;have hl2:=q0a hf
    have hsp:SV.fits n ρ (splice cells off v.cells) (l.take off++x.cells.toList++l.drop (off+x.cells.toList.length)):=by
     unfold splice;rw[hl1];exact q0j (q0j (q0g off hf) hvf) (q0f _ hf)
    obtain⟨l',hl',hf'⟩:=fill_ok hfl hsp h1 h2.2;refine⟨l',?_,hf'⟩;simp only[Instr.fill,hp];have hxs:x.cells.size=size:=by rw[<-Array.length_toList,<-hl1,hlen]
    rw[if_neg (by simp[hxs];omega)];have hfold:=foldl_set off x.cells.toList 0 l (by rw[<-hl1,hlen];omega)
    have e1:x.cells.zipIdx.foldl (λcs(c,j)=>cs.setIfInBounds (off+j) c) l.toArray=(x.cells.toList.zipIdx 0).foldl (λ(a:Array Value)(x:Value×Nat)=>a.setIfInBounds (off+x.2) x.1) l.toArray:=by
     rw[<-Array.foldl_toList,Array.toList_zipIdx]
    rw[e1,hfold];simpa using hl'
 | [],_::_,_,_,_,_,_,h1,_=>by simp at h1
 |_::_,[],_,_,_,_,_,h1,_=>by simp at h1
def placesT(P:Program)(fs:List Field):Option (List (Nat×Nat)):=fs.mapM (λf=>(P.info? f.type).map λi=>(f.offset,i.size))
def buildS(P:Program)(h:SH)(t:TypeId)(parts:List (Nat×SV)):Tr (SV×SH):=
 match P.underlying t,zeroT P t with
 |some (.struct fs),some z=>
  match placesT P fs.toList with
  |some pl=>match fillS (pl[·]?) (z.cells.toList.map .k) parts with
   |some cs=>.ret (.agg cs,h)
   |none=>.bad 120
  |none=>.bad 121
 |some (.array _ e),some z=>
  match szOf P e with
  |some sz=>match fillS (λi=>some (i*sz,sz)) (z.cells.toList.map .k) parts with
   |some cs=>.ret (.agg cs,h)
   |none=>.bad 122
  |none=>.bad 123
 |_,_=>.bad 124
theorem build_ok{t:TypeId}{parts:List (Nat×SV)}{vparts:List (Nat×Value)}(hm:HM M w0 ρ h w)(h1:parts.map (·.1)=vparts.map (·.1))(h2:SV.fits h.nx ρ (parts.map (·.2)) (vparts.map (·.2))){K:SV×SH->Prop}
  (hK:(buildS P h t parts).Holds K):GoodV P M w0 ρ h K (Instr.build t vparts.toArray) w:=by
 unfold buildS at hK
 have hz?:∀z,zeroT P t=some z->∃i,P.info? t=some i/\i.zero=some z:=by
  intro z hz;unfold zeroT at hz;cases hi:P.info? t with
  |none=>simp[hi]at hz
  |some i=>simp[hi]at hz;exact⟨i,rfl,hz⟩
 split at hK
 .rename_i fs z hu hz;split at hK
  .rename_i pl hpl;split at hK
   .rename_i cs hfl;obtain⟨i,hi,hiz⟩:=hz? z hz;obtain⟨l',hl',hf'⟩:=fill_ok hfl (q6v z.cells.toList) h1 h2;refine GoodV.same hm hK (x:=.agg l'.toArray) ⟨l',rfl,hf'⟩ (run_build w t _ _ ?_);unfold placesT at hpl;unfold Program.built;rw[hi,hu];simp only[hiz,hpl];have:(λi:Nat=>pl.toArray[i]?)=(λi:Nat=>pl[i]?):=by funext i;simp
    rw[this];simpa using hl'
   .exact hK.elim
  .exact hK.elim
 .rename_i n e z hu hz;split at hK
  .rename_i sz hsz;split at hK
   .rename_i cs hfl;obtain⟨i,hi,hiz⟩:=hz? z hz;obtain⟨l',hl',hf'⟩:=fill_ok hfl (q6v z.cells.toList) h1 h2;refine GoodV.same hm hK (x:=.agg l'.toArray) ⟨l',rfl,hf'⟩ (run_build w t _ _ ?_);unfold szOf at hsz;cases hie:P.info? e with
    |none=>simp[hie]at hsz
    |some ie=>
     simp[hie]at hsz;unfold Program.built;rw[hi,hu];simp only[hiz,hie,hsz];simpa using hl'
   .exact hK.elim
  .exact hK.elim
 .exact hK.elim
end
end Go.Sx

namespace Go.Sx
open Go.RowKit
variable[Env]
section
variable{P:Program}{M:Nat->Prop}{w0 w:World}{ρ:Rh}{h:SH}
def GoodP(P:Program)(ρ:Rh)(n:Nat)(K:SV->Prop)(s:Sem Value):Prop:=∃sv x,K sv/\sv.fit n ρ x/\∀w,s.run P w=.ok x w
theorem GoodP.mk'{n:Nat}{K:SV->Prop}{s:Sem Value}{sv:SV}{x:Value}(hk:K sv)(hf:sv.fit n ρ x)(hr:∀w,s.run P w=.ok x w):GoodP P ρ n K s:=⟨sv,x,hk,hf,hr⟩
def iAnd(q:IntKind)(x y:Int):Int:=q.wrap ((BitVec.ofInt q.bits x&&&BitVec.ofInt q.bits y).toNat:Int)
def iOr(q:IntKind)(x y:Int):Int:=q.wrap ((BitVec.ofInt q.bits x|||BitVec.ofInt q.bits y).toNat:Int)
def iXor(q:IntKind)(x y:Int):Int:=q.wrap ((BitVec.ofInt q.bits x^^^BitVec.ofInt q.bits y).toNat:Int)
def iAndNot(q:IntKind)(x y:Int):Int:=q.wrap ((BitVec.ofInt q.bits x&&& ~~~(BitVec.ofInt q.bits y)).toNat:Int)
def iShl(q:IntKind)(x y:Int):Int:=q.wrap (x*2^(min y.toNat q.bits))
def iShr(q:IntKind)(x y:Int):Int:=x.fdiv (2^(min y.toNat q.bits))
def intS(op:BinOp)(c:Bool)(q:IntKind)(x y:Int):Tr SV:=
 match op with
 | .add=>.ret (kv c (.int q (q.wrap (x+y))))
 | .sub=>.ret (kv c (.int q (q.wrap (x-y))))
 | .mul=>.ret (kv c (.int q (q.wrap (x*y))))
 | .quo=>.ask (y≠0) (.ret (kv c (.int q (q.wrap (x.tdiv y)))))
 | .rem=>.ask (y≠0) (.ret (kv c (.int q (x.tmod y))))
 | .eql=>.ret (kv c (.bool (x==y)))
 | .neq=>.ret (kv c (.bool (x !=y)))
 | .lss=>.ret (kv c (.bool (decide (x<y))))
 | .leq=>.ret (kv c (.bool (decide (x<=y))))
 | .gtr=>.ret (kv c (.bool (decide (x>y))))
 | .geq=>.ret (kv c (.bool (decide (x>=y))))
 | .and=>.ret (kv c (.int q (iAnd q x y)))
 | .or=>.ret (kv c (.int q (iOr q x y)))
 | .xor=>.ret (kv c (.int q (iXor q x y)))
 | .andNot=>.ret (kv c (.int q (iAndNot q x y)))
 |_=>.bad 200
def shiftS(op:BinOp)(c c':Bool)(q:IntKind)(x y:Int):Tr SV:=
 match op with
 | .shl=>bif c'&&decide (0<=y)then .ret (kv (c&&c') (.int q (iShl q x y)))else .ask (0<=y) (.ret (kv (c&&c') (.int q (iShl q x y))))
 | .shr=>bif c'&&decide (0<=y)then .ret (kv (c&&c') (.int q (iShr q x y)))else .ask (0<=y) (.ret (kv (c&&c') (.int q (iShr q x y))))
 |_=>.bad 201
theorem q2b(op:BinOp)(t:TypeId)(xo yo:Operand)(q:IntKind)(x:Int)(b:Value)(w:World):(eqGuard op t xo yo (.int q x) b).run P w=.ok () w:=by
 unfold eqGuard;split<;>simp
theorem int_ok{op:BinOp}{c:Bool}{q:IntKind}{x y:Int}{n:Nat}{K:SV->Prop}(hK:(intS op c q x y).Holds K)(t:TypeId)(xo yo:Operand):
  GoodP P ρ n K (do eqGuard op t xo yo (.int q x) (.int q y);binOp op t (.int q x) (.int q y)):=by
 cases op<;>simp only[intS,Tr.Holds]at hK
 case quo=>exact .mk' hK.2 (q3j _ _ _) (λw=>by simp[q2b,binOp,Op.intDiv,hK.1])
 case rem=>exact .mk' hK.2 (q3j _ _ _) (λw=>by simp[q2b,binOp,Op.intDiv,hK.1])
 case and=>exact .mk' hK (q3j _ _ _) (λw=>by simp[q2b,binOp,Op.intBits,iAnd])
 case or=>exact .mk' hK (q3j _ _ _) (λw=>by simp[q2b,binOp,Op.intBits,iOr])
 case xor=>exact .mk' hK (q3j _ _ _) (λw=>by simp[q2b,binOp,Op.intBits,iXor])
 case andNot=>exact .mk' hK (q3j _ _ _) (λw=>by simp[q2b,binOp,Op.intBits,iAndNot])
 all_goals exact .mk' hK (q3j _ _ _) (λw=>by simp[q2b,binOp,Op.intArith,Op.intCmp])
theorem shift_ok{op:BinOp}{c c':Bool}{q q':IntKind}{x y:Int}{n:Nat}{K:SV->Prop}(hK:(shiftS op c c' q x y).Holds K)(t:TypeId)(xo yo:Operand):
  GoodP P ρ n K (do eqGuard op t xo yo (.int q x) (.int q' y);binOp op t (.int q x) (.int q' y)):=by
 have key:∀(v:Int),((bif c'&&decide (0<=y)then Tr.ret (kv (c&&c') (.int q v))else .ask (0<=y) (.ret (kv (c&&c') (.int q v)))).Holds K)->0<=y/\K (kv (c&&c') (.int q v)):=λv h=>by
  cases hb:(c'&&decide (0<=y))with
  |true=>
   rw[hb]at h;simp only[Bool.and_eq_true,decide_eq_true_eq]at hb;exact⟨hb.2,h⟩
  |false=>
   rw[hb]at h;exact h
 cases op<;>simp only[shiftS]at hK
 case shl=>
  obtain⟨h1,h2⟩:=key _ hK;exact .mk' h2 (q3j _ _ _) (λw=>by simp[q2b,binOp,Op.shift,iShl,if_neg (show¬y<0 by omega)])
 case shr=>
  obtain⟨h1,h2⟩:=key _ hK;exact .mk' h2 (q3j _ _ _) (λw=>by simp[q2b,binOp,Op.shift,iShr,if_neg (show¬y<0 by omega)])
 all_goals exact hK.elim
def partV(P:Program)(t:TypeId)(xs:List SV)(o:Nat):Option SV:=
 match aggT P t,szOf P t with
 |some true,some n=>some (.agg ((xs.drop o).take n))
 |some false,_=>xs[o]?
 |_,_=>none
theorem q43{t:TypeId}{xs:List SV}{l:List Value}{o n:Nat}{s:SV}(hs:partV P t xs o=some s)(hf:SV.fits n ρ xs l):∃x,s.fit n ρ x/\∀w,(part t l.toArray o).run P w=.ok x w:=by
 unfold partV at hs;split at hs
 .rename_i k hag hsz;simp only[Option.some.injEq]at hs;subst hs;refine⟨.agg ((l.drop o).take k).toArray,⟨_,rfl,q0g k (q0f o hf)⟩,λw=>?_⟩;simp only[part,Sem.run_bind,q4m hag,q0k hsz,Result.andThen_ok,if_true,Sem.run_pure];congr 2;apply Array.ext';rw[Array.toList_extract];simp[List.extract]
 .rename_i hag;obtain⟨x,hx',hfx⟩:=q44 hf hs;exact⟨x,hfx,λw=>by simp[part,q4m hag,hx']⟩
 .cases hs
def conj:List Bool->Bool
 | []=>true
 | [b]=>b
 |b::r=>b&&conj r
theorem conj_cons(b:Bool)(r:List Bool):conj (b::r)=(b&&conj r):=by cases r<;>simp[conj]
theorem q58:∀(a b:List Bool),conj (a++b)=(conj a&&conj b)
 | [],b=>by simp[conj]
 |x::a,b=>by rw[List.cons_append,conj_cons,conj_cons,q58 a b,Bool.and_assoc]
def flatM{α:Type}(f:α->Option (List Bool)):List α->Option (List Bool)
 | []=>some []
 |x::r=>match f x,flatM f r with
  |some a,some b=>some (a++b)
  |_,_=>none
def eqV(P:Program):Nat->TypeId->SV->SV->Option (List Bool)
 |0,_,_,_=>none
 |d+1,t,a,b=>
  match P.underlying t with
  |some .bool=>match a.bool?,b.bool? with
   |some (_,x),some (_,y)=>some [x==y]
   |_,_=>none
  |some (.int _)=>match a.int?,b.int? with
   |some (_,q,x),some (_,q',y)=>bif decide (q=q')then some [x==y]else none
   |_,_=>none
  |some .string=>match a.str?,b.str? with
   |some (_,x),some (_,y)=>some [decide (x=y)]
   |_,_=>none
  |some (.struct fs)=>match a.agg?,b.agg? with
   |some xs,some ys=>bif P.stoodInHeld t then none else
    flatM (λf:Field=>bif f.name== "_" then none else match partV P f.type xs f.offset,partV P f.type ys f.offset with
     |some y1,some y2=>eqV P d f.type y1 y2
     |_,_=>none) fs.toList
   |_,_=>none
  |some (.array n e)=>match a.agg?,b.agg?,szOf P e with
   |some xs,some ys,some sz=>flatM (λi=>match partV P e xs (i*sz),partV P e ys (i*sz)with
    |some y1,some y2=>eqV P d e y1 y2
    |_,_=>none) (List.range n)
   |_,_,_=>none
  |_=>none
theorem qa4(a b:ByteArray):(a==b)=decide (a=b):=by
 by_cases e:a=b
 .subst e;rw[decide_eq_true rfl,beq_toListBytes];simp
 .rw[decide_eq_false e,beq_toListBytes,ByteArray.toList_eq,ByteArray.toList_eq]
  have:a.data.toList≠b.data.toList:=by
   intro he;apply e;cases a;cases b;simp at he;rw[he]
  simpa using this
theorem eqV_ok{n:Nat}:∀(d:Nat)(k:Nat)(t:TypeId)(a b:SV)(x y:Value)(bs:List Bool),eqV P d t a b=some bs->a.fit n ρ x->b.fit n ρ y->
  ∀w,(Op.equalIn (d+k) t x y).run P w=.ok (conj bs) w
 |0,_,_,_,_,_,_,_,h,_,_=>by simp[eqV]at h
 |d+1,k,t,a,b,x,y,bs,hh,ha,hb=>by
  intro w;rw[show d+1+k=(d+k)+1 by omega];unfold eqV at hh;split at hh
  .rename_i hu;split at hh
   .rename_i _ y1 _ y2 h1 h2;simp only[Option.some.injEq]at hh;subst hh;rw[SV.bool_fit h1 ha,SV.bool_fit h2 hb];simp[Op.equalIn,run_underlying hu,conj]
   .cases hh
  .rename_i hu;split at hh
   .rename_i _ q y1 _ q' y2 h1 h2;cases hq:decide (q=q')with
    |false=>simp[hq]at hh
    |true=>
     have hqq:=of_decide_eq_true hq;simp only[hq,cond_true,Option.some.injEq]at hh;subst hh;subst hqq;rw[SV.int_fit h1 ha,SV.int_fit h2 hb];simp[Op.equalIn,run_underlying hu,conj]
   .cases hh
  .rename_i hu;split at hh
   .rename_i _ y1 _ y2 h1 h2;simp only[Option.some.injEq]at hh;subst hh;rw[SV.str_fit h1 ha,SV.str_fit h2 hb];simp[Op.equalIn,run_underlying hu,conj,qa4]
   .cases hh
  .rename_i fs hu;split at hh
   .rename_i xs ys h1 h2;obtain⟨l,rfl,hl⟩:=SV.agg_fit h1 ha;obtain⟨m,rfl,hm⟩:=SV.agg_fit h2 hb;cases hst:P.stoodInHeld t with
    |true=>simp[hst]at hh
    |false=>
     simp only[hst,cond_false]at hh;have hfo:P.fieldsOf t=fs:=by simp[Program.fieldsOf,hu]
     rw[run_equalIn_struct w (d+k) t _ _ (by rw[hfo];exact hu) hst,hfo];generalize fs.toList=fl at hh;clear hu hfo
     induction fl generalizing bs w with
     |nil=>simp[flatM]at hh;subst hh;simp[Op.eqFields,conj]
     |cons f fl ih=>
      simp only[flatM]at hh;split at hh
      .rename_i b1 b2 hb1 hb2;simp only[Option.some.injEq]at hh;subst hh
       have hname:(f.name== "_")=false:=by
        cases hn:(f.name== "_")with
        |false=>rfl
        |true=>simp[hn]at hb1
       simp only[hname,cond_false]at hb1;split at hb1
       .rename_i y1 y2 hu1 hv1;obtain⟨a1,hfa,hra⟩:=q43 hu1 hl;obtain⟨a2,hfb,hrb⟩:=q43 hv1 hm;have e1:=eqV_ok d k f.type y1 y2 a1 a2 b1 hb1 hfa hfb;simp only[Op.eqFields,ne_eq,beq_eq_false_iff_ne.1 hname,not_false_eq_true,if_true,Sem.run_bind,hra,hrb,e1,Result.andThen_ok,q58];cases hc:conj b1 with
        |false=>simp
        |true=>simpa using ih b2 w hb2
       .cases hb1
      .cases hh
   .cases hh
  .rename_i len e hu;split at hh
   .rename_i xs ys sz h1 h2 hsz;obtain⟨l,rfl,hl⟩:=SV.agg_fit h1 ha;obtain⟨m,rfl,hm⟩:=SV.agg_fit h2 hb
    have hie:∃i,P.info? e=some i:=by
     unfold szOf at hsz;cases hi:P.info? e with
     |none=>simp[hi]at hsz
     |some i=>exact⟨i,rfl⟩
    obtain⟨i,hi⟩:=hie
    have hcs:P.cellsOf e=sz:=by
     have r1:=run_sizeOf w hi;rw[q0k hsz]at r1;simpa using r1.symm
    rw[run_equalIn_array w (d+k) _ _ hu hi,hcs];generalize List.range len=il at hh;clear hu
    induction il generalizing bs w with
    |nil=>simp[flatM]at hh;subst hh;simp[Op.eqItems,conj]
    |cons f fl ih=>
     simp only[flatM]at hh;split at hh
     .rename_i b1 b2 hb1 hb2;simp only[Option.some.injEq]at hh;subst hh;split at hb1
      .rename_i y1 y2 hu1 hv1;obtain⟨a1,hfa,hra⟩:=q43 hu1 hl;obtain⟨a2,hfb,hrb⟩:=q43 hv1 hm;have e1:=eqV_ok d k e y1 y2 a1 a2 b1 hb1 hfa hfb;simp only[Op.eqItems,Sem.run_bind,hra,hrb,e1,Result.andThen_ok,q58];cases hc:conj b1 with
       |false=>simp
       |true=>simpa using ih b2 w hb2
      .cases hb1
     .cases hh
   .cases hh
  .cases hh
def strS(op:BinOp)(c:Bool)(x y:ByteArray):Tr SV:=
 match op with
 | .add=>.ask (x.size+y.size<=9223372036854775807) (.ret (kv c (.string (x++y))))
 | .eql=>.ret (kv c (.bool (decide (x=y))))
 | .neq=>.ret (kv c (.bool (!decide (x=y))))
 | .lss=>.ret (kv c (.bool (Op.bytesLess x.toList y.toList)))
 | .leq=>.ret (kv c (.bool (Op.bytesLess x.toList y.toList||decide (x=y))))
 | .gtr=>.ret (kv c (.bool (!(Op.bytesLess x.toList y.toList||decide (x=y)))))
 | .geq=>.ret (kv c (.bool (!Op.bytesLess x.toList y.toList)))
 |_=>.bad 210
theorem q8d(op:BinOp)(t:TypeId)(xo yo:Operand)(x:ByteArray)(b:Value)(w:World):(eqGuard op t xo yo (.string x) b).run P w=.ok () w:=by
 unfold eqGuard;split<;>simp
theorem qbc(op:BinOp)(t:TypeId)(xo yo:Operand)(x:Bool)(b:Value)(w:World):(eqGuard op t xo yo (.bool x) b).run P w=.ok () w:=by
 unfold eqGuard;split<;>simp
theorem str_ok{op:BinOp}{c:Bool}{x y:ByteArray}{n:Nat}{K:SV->Prop}(hK:(strS op c x y).Holds K)(t:TypeId)(xo yo:Operand):
  GoodP P ρ n K (do eqGuard op t xo yo (.string x) (.string y);binOp op t (.string x) (.string y)):=by
 have he:(x.toList==y.toList)=decide (x=y):=by rw[<-beq_toListBytes,qa4]
 cases op<;>simp only[strS,Tr.Holds]at hK
 case add=>
  refine .mk' hK.2 (q3j _ _ _) (λw=>?_);have hmax:IntKind.i64.max=9223372036854775807:=rfl;have hle:=hK.1;simp only[Sem.run_bind,q8d,Result.andThen_ok,binOp,Op.stringOp,hmax];rw[if_neg (by omega)];simp
 all_goals first
  |exact hK.elim
  |exact .mk' hK (q3j _ _ _) (λw=>by simp[q8d,binOp,Op.stringOp,he])
def slN:SV->Option (Option Bool×Nat)
 | .k (.slice a _ _)=>some (some a.isNone,0)
 | .sl ..=>some (some false,0)
 | .rs _ l _=>some (none,l)
 | .se _ _ _ l=>some (none,l)
 | .ow _ l=>some (none,l)
 |_=>none
def mpN:SV->Option (Option Bool×Nat)
 | .k (.map a)=>some (some a.isNone,0)
 | .mp _=>some (some false,0)
 | .rm _ _ m _ _ _=>some (none,m)
 |_=>none
def ptN:SV->Option (Option Bool×Nat)
 | .k (.pointer a)=>some (some a.isNone,0)
 | .p .. | .pe .. | .pr ..=>some (some false,0)
 |_=>none
theorem slN_ok{n:Nat}{s:SV}{x:Value}{o:Option Bool}{l:Nat}(h:slN s=some (o,l))(hf:s.fit n ρ x):∃a m c,x=.slice a m c/\(∀b,o=some b->a.isNone=b)/\(a.isNone=true->o=none->l=0):=by
 unfold slN at h;split at h<;>try cases h
 .simp only[SV.fit]at hf;exact⟨_,_,_,hf,by simp,by simp⟩
 .obtain⟨_,rfl⟩:=hf;exact⟨_,_,_,rfl,by simp,by simp⟩
 .obtain⟨a,c,rfl,_,_,h4⟩:=hf;refine⟨_,_,_,rfl,by simp,λha _=>?_⟩;rcases Nat.eq_zero_or_pos l with h|h
  .exact h
  .obtain⟨b,o,_,_,_,rfl,_⟩:=h4 h;cases ha
 .obtain⟨_,a,c,rfl,_,_,h4⟩:=hf;refine⟨_,_,_,rfl,by simp,λha _=>?_⟩;rcases Nat.eq_zero_or_pos l with h|h
  .exact h
  .rw[h4 h]at ha;cases ha
 .rcases hf.2 with ⟨_,h,a,rfl⟩|⟨_,_,rfl⟩
  .exact⟨_,_,_,rfl,by simp,λ_ _=>h⟩
  .exact⟨_,_,_,rfl,by simp,by simp⟩
theorem mpN_ok{n:Nat}{s:SV}{x:Value}{o:Option Bool}{l:Nat}(h:mpN s=some (o,l))(hf:s.fit n ρ x):∃a,x=.map a/\(∀b,o=some b->a.isNone=b)/\(a.isNone=true->o=none->l=0):=by
 unfold mpN at h;split at h<;>try cases h
 .simp only[SV.fit]at hf;exact⟨_,hf,by simp,by simp⟩
 .obtain⟨_,rfl⟩:=hf;exact⟨_,rfl,by simp,by simp⟩
 .rcases hf with ⟨rfl,h⟩|⟨b,es,clk,rfl,_⟩
  .exact⟨_,rfl,by simp,λ_ _=>h⟩
  .exact⟨_,rfl,by simp,by simp⟩
theorem ptN_ok{n:Nat}{s:SV}{x:Value}{o:Option Bool}{l:Nat}(h:ptN s=some (o,l))(hf:s.fit n ρ x):∃a,x=.pointer a/\(∀b,o=some b->a.isNone=b)/\(a.isNone=true->o=none->l=0):=by
 unfold ptN at h;split at h<;>try cases h
 .simp only[SV.fit]at hf;exact⟨_,hf,by simp,by simp⟩
 .obtain⟨_,rfl⟩:=hf;exact⟨_,rfl,by simp,by simp⟩
 .obtain⟨_,rfl⟩:=hf;exact⟨_,rfl,by simp,by simp⟩
 .obtain⟨b,o,_,_,_,rfl,_⟩:=hf;exact⟨_,rfl,by simp,by simp⟩
def nilAns(neg:Bool):Option Bool×Nat->Tr SV
 |(some b,_)=>.ret (.k (.bool (neg !=b)))
 |(none,l)=>.all λcs=>.giv (cs.isEmpty=false->l=0) (.ret (.v (.bool (neg !=!cs.isEmpty))))
theorem nilAns_ok{n:Nat}{neg z:Bool}{o:Option Bool}{l:Nat}{K:SV->Prop}(hK:(nilAns neg (o,l)).Holds K)(h1:∀b,o=some b->z=b)(h2:z=true->o=none->l=0):∃sv,K sv/\sv.fit n ρ (.bool (neg !=z)):=by
 cases o with
 |some b=>
  rw[h1 b rfl];exact⟨_,hK,rfl⟩
 |none=>
  cases z with
  |false=>exact⟨_,hK [] (by simp),rfl⟩
  |true=>exact⟨_,hK [0] (λ_=>h2 rfl rfl),rfl⟩
def isEq:BinOp->Option Bool
 | .eql=>some false
 | .neq=>some true
 |_=>none
def nilAll(P:Program)(op:BinOp)(t:TypeId)(a b:SV):Tr SV:=
 match isEq op,b,P.underlying t with
 |some neg,.k (.slice none 0 0),some (.slice _)=>match slN a with
  |some o=>nilAns neg o
  |none=>.bad 225
 |some neg,.k (.map none),some (.map _ _)=>match mpN a with
  |some o=>nilAns neg o
  |none=>.bad 226
 |some neg,.k (.pointer none),some (.pointer _)=>match ptN a with
  |some o=>nilAns neg o
  |none=>.bad 227
 |_,_,_=>.bad 224
def binS(P:Program)(op:BinOp)(t:TypeId)(a b:SV):Tr SV:=
 match a.int?,b.int? with
 |some (c,q,x),some (c',q',y)=>match op with
  | .shl| .shr=>shiftS op c c' q x y
  |_=>bif decide (q=q')then intS op (c&&c') q x y else .bad 220
 |_,_=>
  match a.str?,b.str? with
  |some (c,x),some (c',y)=>strS op (c&&c') x y
  |_,_=>
   match a.bool?,b.bool?,P.underlying t with
   |some (c,x),some (c',y),some .bool=>match op with
    | .eql=>.ret (kv (c&&c') (.bool (x==y)))
    | .neq=>.ret (kv (c&&c') (.bool (!(x==y))))
    |_=>.bad 221
   |_,_,_=>
    match a.agg?,b.agg? with
    |some _,some _=>bif P.eqGuardType P.depth t then .bad 222 else
     match eqV P 50 t a b,op with
     |some bs,.eql=>.ret (.v (.bool (conj bs)))
     |some bs,.neq=>.ret (.v (.bool (!conj bs)))
     |_,_=>.bad 223
    |_,_=>nilAll P op t a b
theorem qa9{t e:TypeId}(d:Nat)(w:World)(c:Option Addr)(m k:Nat)(hu:P.underlying t=some (.slice e)):(Op.equalIn (d+1) t (.slice c m k) (.slice none 0 0)).run P w=.ok c.isNone w:=by
 cases c<;>simp[Op.equalIn,run_underlying hu]
theorem run_equalIn_map{t e f:TypeId}(d:Nat)(w:World)(c:Option Nat)(hu:P.underlying t=some (.map e f)):(Op.equalIn (d+1) t (.map c) (.map none)).run P w=.ok c.isNone w:=by
 cases c<;>simp[Op.equalIn,run_underlying hu]
theorem run_equalIn_ptr{t e:TypeId}(d:Nat)(w:World)(c:Option Addr)(hu:P.underlying t=some (.pointer e)):(Op.equalIn (d+1) t (.pointer c) (.pointer none)).run P w=.ok c.isNone w:=by
 cases c<;>simp[Op.equalIn,run_underlying hu]
theorem q74{op:BinOp}{neg:Bool}(h:isEq op=some neg)(w:World)(t:TypeId)(xo yo:Operand){x y:Value}{z:Bool}(hg:∀op,(eqGuard op t xo yo x y).run P w=.ok () w)(he:(Op.equal t x y).run P w=.ok z w)(hx:binOp .eql t x y=(do pure (.bool (<-Op.equal t x y))))(hy:binOp .neq t x y=(do pure (.bool (!(<-Op.equal t x y))))):
  (do eqGuard op t xo yo x y;binOp op t x y:Sem Value).run P w=.ok (.bool (neg !=z)) w:=by
 unfold isEq at h;split at h<;>cases h
 .simp[hg,hx,he]
 .simp[hg,hy,he]
theorem nilAll_ok{op:BinOp}{t:TypeId}{a b:SV}{x y:Value}{n:Nat}{K:SV->Prop}(ha:a.fit n ρ x)(hb:b.fit n ρ y)(hK:(nilAll P op t a b).Holds K)(xo yo:Operand):
  GoodP P ρ n K (do eqGuard op t xo yo x y;binOp op t x y):=by
 unfold nilAll at hK;split at hK
 .rename_i neg _ ho hu;split at hK
  .rename_i o hs;obtain⟨o,l⟩:=o;simp only[SV.fit]at hb;subst hb;obtain⟨c,m,d,rfl,h1,h2⟩:=slN_ok hs ha;obtain⟨sv,h3,h4⟩:=nilAns_ok (ρ:=ρ) (n:=n) hK h1 h2;refine⟨sv,_,h3,h4,λw=>q74 ho w t xo yo (λop=>by unfold eqGuard;split<;>simp) ?_ rfl rfl⟩;exact qa9 9999 w c m d hu
  .exact hK.elim
 .rename_i neg _ _ ho hu;split at hK
  .rename_i o hs;obtain⟨o,l⟩:=o;simp only[SV.fit]at hb;subst hb;obtain⟨c,rfl,h1,h2⟩:=mpN_ok hs ha;obtain⟨sv,h3,h4⟩:=nilAns_ok (ρ:=ρ) (n:=n) hK h1 h2;refine⟨sv,_,h3,h4,λw=>q74 ho w t xo yo (λop=>by unfold eqGuard;split<;>simp) ?_ rfl rfl⟩;exact run_equalIn_map 9999 w c hu
  .exact hK.elim
 .rename_i neg _ ho hu;split at hK
  .rename_i o hs;obtain⟨o,l⟩:=o;simp only[SV.fit]at hb;subst hb;obtain⟨c,rfl,h1,h2⟩:=ptN_ok hs ha;obtain⟨sv,h3,h4⟩:=nilAns_ok (ρ:=ρ) (n:=n) hK h1 h2;refine⟨sv,_,h3,h4,λw=>q74 ho w t xo yo (λop=>by unfold eqGuard;split<;>simp) ?_ rfl rfl⟩;exact run_equalIn_ptr 9999 w c hu
  .exact hK.elim
 .exact hK.elim
theorem bin_ok{op:BinOp}{t:TypeId}{a b:SV}{x y:Value}{n:Nat}{K:SV->Prop}(ha:a.fit n ρ x)(hb:b.fit n ρ y)(hK:(binS P op t a b).Holds K)(xo yo:Operand):
  GoodP P ρ n K (do eqGuard op t xo yo x y;binOp op t x y):=by
 unfold binS at hK;split at hK
 .rename_i c q y1 c' q' y2 h1 h2;rw[SV.int_fit h1 ha,SV.int_fit h2 hb];split at hK
  .exact shift_ok hK t xo yo
  .exact shift_ok hK t xo yo
  .cases hq:decide (q=q')with
   |false=>rw[hq]at hK;exact hK.elim
   |true=>
    have:=of_decide_eq_true hq;subst this;rw[hq]at hK;exact int_ok hK t xo yo
 .split at hK
  .rename_i c y1 c' y2 h1 h2;rw[SV.str_fit h1 ha,SV.str_fit h2 hb];exact str_ok hK t xo yo
  .split at hK
   .rename_i c y1 c' y2 h1 h2 hu;rw[SV.bool_fit h1 ha,SV.bool_fit h2 hb];cases op<;>simp only[Tr.Holds]at hK
    case eql=>exact .mk' hK (q3j _ _ _) (λw=>by simp[qbc,binOp,run_equal_bool w t _ _ hu])
    case neq=>exact .mk' hK (q3j _ _ _) (λw=>by simp[qbc,binOp,run_equal_bool w t _ _ hu])
   .split at hK
    .rename_i xs ys h1 h2;cases hg:P.eqGuardType P.depth t with
     |true=>rw[hg]at hK;exact hK.elim
     |false=>
      rw[hg]at hK;simp only[cond_false]at hK;split at hK
      .rename_i bs hbs;have hr:=eqV_ok 50 9950 t a b x y bs hbs ha hb;obtain⟨l,rfl,_⟩:=SV.agg_fit h1 ha;obtain⟨m,rfl,_⟩:=SV.agg_fit h2 hb;refine .mk' hK (x:=.bool (conj bs)) (by simp[SV.fit]) (λw=>?_);simp only[Sem.run_bind,run_eqGuard_agg w _ _ _ _ _ _ hg,Result.andThen_ok,run_eql_struct,hr w]
      .rename_i bs hbs;have hr:=eqV_ok 50 9950 t a b x y bs hbs ha hb;obtain⟨l,rfl,_⟩:=SV.agg_fit h1 ha;obtain⟨m,rfl,_⟩:=SV.agg_fit h2 hb;refine .mk' hK (x:=.bool (!conj bs)) (by simp[SV.fit]) (λw=>?_);simp only[Sem.run_bind,run_eqGuard_agg w _ _ _ _ _ _ hg,Result.andThen_ok,run_neq_struct,hr w]
      .exact hK.elim
    .exact nilAll_ok ha hb hK xo yo
def unS(op:UnOp)(a:SV):Tr SV:=
 match op with
 | .not=>match a.bool? with
  |some (c,b)=>.ret (kv c (.bool (!b)))
  |none=>.bad 230
 | .neg=>match a.int? with
  |some (c,q,n)=>.ret (kv c (.int q (q.wrap (0-n))))
  |none=>.bad 231
 |_=>.bad 232
theorem un_ok{op:UnOp}{a:SV}{x:Value}{n:Nat}{K:SV->Prop}(ha:a.fit n ρ x)(hK:(unS op a).Holds K):GoodP P ρ n K (Op.unary op x):=by
 unfold unS at hK;split at hK
 .split at hK
  .rename_i c b h1;rw[SV.bool_fit h1 ha];exact .mk' hK (q3j _ _ _) (λw=>by simp[Op.unary])
  .exact hK.elim
 .split at hK
  .rename_i c q m h1;rw[SV.int_fit h1 ha];exact .mk' hK (q3j _ _ _) (λw=>by simp[Op.unary,Op.intArith])
  .exact hK.elim
 .exact hK.elim
def convS(P:Program)(src dst:TypeId)(a:SV):Tr SV:=
 match P.underlying src,P.underlying dst with
 |some (.int _),some (.int q)=>match a.int? with
  |some (c,_,n)=>.ret (kv c (.int q (q.wrap n)))
  |none=>.bad 240
 |some .string,some .string=>match a.str? with
  |some _=>.ret a
  |none=>.bad 241
 |_,_=>.bad 242
theorem conv_ok{src dst:TypeId}{a:SV}{x:Value}{n:Nat}{K:SV->Prop}(ha:a.fit n ρ x)(hK:(convS P src dst a).Holds K):GoodP P ρ n K (convert src dst x):=by
 unfold convS at hK;split at hK
 .rename_i h1 h2;split at hK
  .rename_i c q m h3;rw[SV.int_fit h3 ha];exact .mk' hK (q3j _ _ _) (λw=>by simp[convert,run_underlying h1,run_underlying h2,Conv.intToInt])
  .exact hK.elim
 .rename_i h1 h2;split at hK
  .rename_i z h3;obtain⟨c,b⟩:=z;have hx:=SV.str_fit h3 ha;refine .mk' (x:=x) hK ha (λw=>by rw[hx];simp[convert,run_underlying h1,run_underlying h2])
  .exact hK.elim
 .exact hK.elim
end
end Go.Sx

namespace Go.Sx
open Go.RowKit
variable[Env]
section
variable{P:Program}{M:Nat->Prop}{w0 w:World}{ρ:Rh}{h:SH}
def lenS(P:Program)(t:TypeId)(a:SV):Tr SV:=
 match P.underlying t with
 |some .string=>match a.str? with
  |some (c,s)=>.ret (kv c (.int .i64 (s.size:Int)))
  |none=>.bad 300
 |some (.array n _)=>.ret (.k (.int .i64 (n:Int)))
 |some (.slice _)=>match a with
  | .sl _ _ l _=>.ret (.k (.int .i64 (l:Int)))
  | .se _ _ _ l=>.ret (.v (.int .i64 (l:Int)))
  | .rs _ l _=>.ret (.v (.int .i64 (l:Int)))
  | .ow _ l=>.ret (.v (.int .i64 (l:Int)))
  | .k (.slice _ l _)=>.ret (.k (.int .i64 (l:Int)))
  |_=>.bad 301
 |_=>.bad 302
theorem len_ok{t ty:TypeId}{ts:List TypeId}{a:SV}{x:Value}{n:Nat}{K:SV->Prop}(ha:a.fit n ρ x)(hK:(lenS P t a).Holds K):GoodP P ρ n K (Builtin.len_ (t::ts).toArray ty #[x]):=by
 unfold lenS at hK;split at hK
 .rename_i hu;split at hK
  .rename_i c s hs;rw[SV.str_fit hs ha];exact .mk' hK (q3j _ _ _) (λw=>by simp[Builtin.len_,run_underlying hu,goInt])
  .exact hK.elim
 .rename_i hu;exact .mk' hK (x:=goInt _) (by simp[SV.fit,goInt];rfl) (λw=>by simp[Builtin.len_,run_underlying hu])
 .rename_i hu;split at hK
  .simp only[SV.fit]at ha;obtain⟨_,rfl⟩:=ha;exact .mk' hK (x:=goInt _) (by simp[SV.fit,goInt];rfl) (λw=>by simp[Builtin.len_,run_underlying hu])
  .simp only[SV.fit]at ha;obtain⟨_,a,c,rfl,_⟩:=ha;exact .mk' hK (x:=goInt _) (by simp[SV.fit,goInt];rfl) (λw=>by simp[Builtin.len_,run_underlying hu])
  .simp only[SV.fit]at ha;obtain⟨a,c,rfl,_⟩:=ha;exact .mk' hK (x:=goInt _) (by simp[SV.fit,goInt];rfl) (λw=>by simp[Builtin.len_,run_underlying hu])
  .simp only[SV.fit]at ha;obtain⟨_,⟨_,rfl,a,rfl⟩|⟨_,_,rfl⟩⟩:=ha
   .exact .mk' hK (x:=goInt 0) (by simp[SV.fit,goInt]) (λw=>by simp[Builtin.len_,run_underlying hu])
   .exact .mk' hK (x:=goInt _) (by simp[SV.fit,goInt];rfl) (λw=>by simp[Builtin.len_,run_underlying hu])
  .simp only[SV.fit]at ha;subst ha;exact .mk' hK (x:=goInt _) (by simp[SV.fit,goInt];rfl) (λw=>by simp[Builtin.len_,run_underlying hu])
  .exact hK.elim
 .exact hK.elim
def ints?:List SV->Option (List (Bool×IntKind×Int))
 | []=>some []
 |s::r=>match s.int?,ints? r with
  |some x,some y=>some (x::y)
  |_,_=>none
def minS(mx:Bool):List SV->Tr SV
 | []=>.bad 310
 |s::r=>match s.int?,ints? r with
  |some (c,q,n),some l=>.ret (kv (l.foldl (λb x=>b&&x.1) c) (.int q (l.foldl (λa x=>bif mx then(if x.2.2>a then x.2.2 else a)else(if x.2.2<a then x.2.2 else a)) n)))
  |_,_=>.bad 311
theorem min_ok{as:List SV}{xs:List Value}{n:Nat}{K:SV->Prop}{mx:Bool}(ha:SV.fits n ρ as xs)(hK:(minS mx as).Holds K)(ats:Array TypeId)(ty:TypeId):
  GoodP P ρ n K (bif mx then Builtin.max_ ats ty xs.toArray else Builtin.min_ ats ty xs.toArray):=by
 cases as with
 |nil=>exact hK.elim
 |cons s r=>
  simp only[minS]at hK;split at hK
  .rename_i c q i l h1 h2;obtain⟨x,ys,rfl,hx,hr⟩:=q03 ha;have hx':=SV.int_fit h1 hx;subst hx';refine .mk' hK (q3j _ _ _) (λw=>?_)
   have key:∀(r:List SV)(ys:List Value)(l:List (Bool×IntKind×Int))(i:Int),SV.fits n ρ r ys->ints? r=some l->
     (ys.foldlM (bif mx then Builtin.max2 else Builtin.min2) (.int q i)).run P w=.ok (.int q (l.foldl (λa x=>bif mx then(if x.2.2>a then x.2.2 else a)else(if x.2.2<a then x.2.2 else a)) i)) w:=by
    intro r
    induction r with
    |nil=>
     intro ys l i hf hl;have:=q0b hf;subst this;simp only[ints?,Option.some.injEq]at hl;subst hl;simp
    |cons s r ih=>
     intro ys l i hf hl;obtain⟨y,zs,rfl,hy,hz⟩:=q03 hf;simp only[ints?]at hl;split at hl
     .rename_i p m h3 h4;obtain⟨c',q',j⟩:=p;simp only[Option.some.injEq]at hl;subst hl;rw[SV.int_fit h3 hy];simp only[List.foldlM_cons,Sem.run_bind,List.foldl_cons];cases mx
      .simp only[cond_false,Builtin.min2,Sem.run_pure,Result.andThen_ok];exact ih zs m _ hz h4
      .simp only[cond_true,Builtin.max2,Sem.run_pure,Result.andThen_ok];exact ih zs m _ hz h4
     .cases hl
   have:=key r ys l i hr h2;cases mx
   .simpa [Builtin.min_]using this
   .simpa [Builtin.max_]using this
  .exact hK.elim
def copyS(P:Program)(h:SH)(t:TypeId)(d s:SV):Tr (SV×SH):=
 match P.underlying t with
 |some (.slice e)=>
  match szOf P e,d,s with
  |some sz,.sl i o dl _,.sl j p sl _=>
   match h.get i,h.get j with
   | .cells xs t',.cells ys _=>
    let n:=Nat.min sl dl
    let zs:=(ys.drop p).take (n*sz)
    bif Nat.beq zs.length (n*sz)&&Nat.ble (o+n*sz) xs.length&&zs.all SV.one then .ret (.k (.int .i64 (n:Int)),h.setCs i o zs)
    else .bad 320
   |_,_=>.bad 321
  |some _,.sl _ _ _ _,.k (.slice none 0 0)=>.ret (.k (.int .i64 0),h)
  |_,_,_=>.bad 322
 |_=>.bad 323
theorem copy_ok{t:TypeId}{ts:List TypeId}{ty:TypeId}{d s:SV}{x y:Value}(hm:HM M w0 ρ h w)(hd:d.fit h.nx ρ x)(hs:s.fit h.nx ρ y){K:SV×SH->Prop}(hK:(copyS P h t d s).Holds K):
  GoodV P M w0 ρ h K (Builtin.copy_ (t::ts).toArray ty #[x,y]) w:=by
 unfold copyS at hK;split at hK
 .rename_i e hu;split at hK
  .rename_i sz i o dl _ j p sl _ hsz;split at hK
   .rename_i xs t' ys t'' hgi hgj;obtain⟨hc,hK1⟩:=q08 hK;simp only[Bool.and_eq_true]at hc;obtain⟨⟨c1,c2⟩,c3⟩:=hc;have hlen:=q02 c1;have hle:=Nat.le_of_ble_eq_true c2;simp only[SV.fit]at hd hs;obtain⟨hi,rfl⟩:=hd;obtain⟨hj,rfl⟩:=hs;have hfj:=hm.ob j;rw[hgj]at hfj;obtain⟨_,hzj,l,hob,hfl⟩:=hfj;have hf:=q0g (Nat.min sl dl*sz) (q0f p hfl);obtain⟨w',hm',hr⟩:=q92 (P:=P) hgi hm hf hlen hle c3;have hll:=q0a hf
    have hl:=run_loadCells_list (P:=P) w ⟨(ρ j).blk,(ρ j).off+p,none⟩ ((l.drop p).take (Nat.min sl dl*sz)) (λq v hv=>by
     rw[add_zero',hzj,Nat.zero_add,cells_at hob];rw[List.getElem?_take]at hv;split at hv
     .rwa [List.getElem?_drop]at hv
     .cases hv)
    rw[<-hll,hlen]at hl;refine⟨_,_,ρ,.int .i64 ((Nat.min sl dl:Nat):Int),w',hK1,Nat.le_of_eq (SH.setCs_nx _ _ _ _).symm,Agree.refl _ _,hm.setCs hgi (by rw[hlen];exact hle) hm',by simp[SV.fit],?_⟩;simp only[Builtin.copy_,List.getElem?_toArray,List.getElem?_cons_zero,List.getElem?_cons_succ,Sem.run_bind,run_underlying hu,Result.andThen_ok,Builtin.lenOf,Sem.run_pure,Builtin.firstCells,q0k hsz,hl,hr,goInt]
   .exact hK.elim
  .rename_i sz i o dl _ hsz;simp only[SV.fit]at hd hs;obtain⟨hi,rfl⟩:=hd;subst hs;refine GoodV.same hm hK (x:=.int .i64 0) (by simp[SV.fit]) ?_;simp[Builtin.copy_,run_underlying hu,Builtin.lenOf,Builtin.firstCells,q0k hsz,goInt,storeCells]
  .exact hK.elim
 .exact hK.elim
def q2k(b:ByteArray):Nat->List SV:=λe=>[.v (.int .u8 (b.get! e).toNat)]
def tyOk(P:Program)(t t':TypeId)(s:SV):Bool:=
 match s with
 | .k (.string _)| .v (.string _)=>match P.underlying t' with
  |some .string=>true
  |_=>false
 |_=>Nat.beq t t'
def chunks(f:Nat->List SV):Nat->Nat->ElE
 |_,0=>.fn λ_=>[]
 |b,1=>.fn λ_=>f b
 |b,k+2=>.app 1 (.fn λ_=>f b) (chunks f (b+1) (k+1))
theorem chunks_at(f:Nat->List SV):∀(k b e:Nat),e<k->(chunks f b k).at e=f (b+e)
 |0,_,_,h=>by omega
 |1,b,e,h=>by
  have:e=0:=by omega
  subst this;rfl
 |k+2,b,e,h=>by
  simp only[chunks,ElE.at];by_cases he:e<1
  .rw[if_pos he,show e=0 by omega];rfl
  .rw[if_neg he,chunks_at f (k+1) (b+1) (e-1) (by omega)];congr 1;omega
def srcS(h:SH)(sz:Nat):SV->Option (Nat×ElE×Prop)
 | .sl j o k _=>match h.get j with
  | .cells xs _=>bif Nat.ble (o+k*sz) xs.length&&xs.all SV.one then some (k,chunks (λe=>(xs.drop (o+e*sz)).take sz) 0 k,True)else none
  |_=>none
 | .se j s o k=>bif Nat.beq s sz then match h.get j with
  | .row _ s' el m=>bif Nat.beq s' sz then some (k,.sh o el,(o+k<=m/\∀e,e<k->(el (o+e)).all SV.one=true))else none
  |_=>none else none
 | .ow j k=>match h.get j with
  | .row _ s' el m=>bif Nat.beq s' sz then some (k,el,(k<=m/\∀e,e<k->(el e).all SV.one=true))else none
  |_=>none
 | .rs s k el=>bif Nat.beq s sz then some (k,.fn el,∀e,e<k->(el e).all SV.one=true)else none
 | .k (.slice none 0 0)=>some (0,.fn (λ_=>[]),True)
 | .k (.string b)=>bif Nat.beq sz 1 then some (b.size,.fn (q2k b),True)else none
 | .v (.string b)=>bif Nat.beq sz 1 then some (b.size,.fn (q2k b),True)else none
 |_=>none
theorem q4q{α:Type}{c:Bool}{a:Option α}{x:α}(h:(bif c then a else none)=some x):c=true/\a=some x:=by cases c<;>simp_all
def Src(n:Nat)(ρ:Rh)(w:World)(sz k:Nat)(el:ElE)(x:Value):Prop:=
 (∃b:ByteArray,x=.string b/\sz=1/\k=b.size/\el=.fn (q2k b))\/∃a c,x=.slice a k c/\(k=0\/∃b,a=some b/\∀e,e<k->∃l,l.length=sz/\SV.fits n ρ (el e) l/\(el e).all SV.one=true/\∀j v,l[j]?=some v->w.cell? (b.add (e*sz+j))=some v)
theorem src_ok(hm:HM M w0 ρ h w){sz:Nat}{s:SV}{x:Value}(hs:s.fit h.nx ρ x){k:Nat}{el:ElE}{p:Prop}(hsrc:srcS h sz s=some (k,el,p))(hp:p):Src h.nx ρ w sz k el x:=by
 cases s with
 |sl j o k' cp=>
  simp only[srcS]at hsrc;obtain⟨hj,rfl⟩:=hs;split at hsrc
  .rename_i xs t' hg;obtain⟨hc,hsrc⟩:=q4q hsrc;simp only[Bool.and_eq_true]at hc;have hle:=Nat.le_of_ble_eq_true hc.1;simp only[Option.some.injEq,Prod.mk.injEq]at hsrc;obtain⟨rfl,rfl,rfl⟩:=hsrc;have hf:=hm.ob j;rw[hg]at hf;obtain⟨_,hz,l,hob,hfl⟩:=hf;have hll:=q0a hfl;refine .inr ⟨_,_,rfl,.inr ⟨_,rfl,λe he=>?_⟩⟩;rw[show(chunks (λe=>(xs.drop (o+e*sz)).take sz) 0 k').at e=(xs.drop (o+e*sz)).take sz by rw[chunks_at _ _ _ _ he,Nat.zero_add]];refine⟨(l.drop (o+e*sz)).take sz,?_,q0g _ (q0f _ hfl),?_,λq v hv=>?_⟩
   .have:e*sz+sz<=k'*sz:=by
     have:=Nat.mul_le_mul_right sz (show e+1<=k' by omega);rw[Nat.add_mul,Nat.one_mul]at this;exact this
    simp;omega
   .rw[List.all_eq_true];intro s' hs';exact List.all_eq_true.1 hc.2 s' (List.mem_of_mem_drop (List.mem_of_mem_take hs'))
   .rw[add_zero',hz,Nat.zero_add,cells_at hob];rw[List.getElem?_take]at hv;split at hv
    .rw[List.getElem?_drop]at hv;rw[<-Nat.add_assoc];exact hv
    .cases hv
  .cases hsrc
 |se j s' o k'=>
  simp only[srcS]at hsrc;obtain⟨hb,hsrc⟩:=q4q hsrc;have:=q02 hb;subst this;obtain⟨hj,a,c,rfl,hlc,_,hadr⟩:=hs;have hf:=hm.ob j;split at hsrc
  .rename_i t' s'' el' m hg;obtain⟨hb2,hs2⟩:=q4q hsrc;have:=q02 hb2;subst this;simp only[Option.some.injEq,Prod.mk.injEq]at hs2;obtain⟨rfl,rfl,rfl⟩:=hs2;rw[hg]at hf;refine .inr ⟨_,_,rfl,?_⟩;by_cases hk:k'=0
   .exact .inl hk
   .refine .inr ⟨_,hadr (by omega),λe he=>?_⟩;rcases hf.2 with ⟨_,hf⟩|⟨_,hoff,cc,fz,hob,_,_,_,_,hall⟩
    .omega
    .obtain⟨l,h1,h2,h3⟩:=hall (o+e) (by omega);refine⟨l,h1,h2,hp.2 e he,λq v hv=>?_⟩;rw[add_zero',hoff];simp only[World.cell?,hob];have:=h3 q v hv;rw[Nat.add_mul]at this;simpa [Nat.add_assoc]using this
  .cases hsrc
 |rs s' k' el'=>
  have hsrc:(bif Nat.beq s' sz then some (k',ElE.fn el',∀e,e<k'->(el' e).all SV.one=true)else none)=some (k,el,p):=hsrc;obtain⟨hb,hs2⟩:=q4q hsrc;have:=q02 hb;subst this;simp only[Option.some.injEq,Prod.mk.injEq]at hs2;obtain⟨rfl,rfl,rfl⟩:=hs2;obtain⟨a,c,rfl,hlc,_,hadr⟩:=hs;refine .inr ⟨_,_,rfl,?_⟩;by_cases hk:k'=0
  .exact .inl hk
  .obtain⟨b,o,cs,t',fz,rfl,hmem,hall⟩:=hadr (by omega);have hob:=hm.fz _ _ hmem;refine .inr ⟨_,rfl,λe he=>?_⟩;obtain⟨l,h1,h2,h3⟩:=hall e he;refine⟨l,h1,h2,hp e he,λq v hv=>?_⟩;rw[add_zero'];simp only[World.cell?,hob];have:=h3 q v hv;simpa [Nat.add_assoc]using this
 |ow j k'=>
  simp only[srcS]at hsrc;obtain⟨hj,hs⟩:=hs;have hf:=hm.ob j;split at hsrc
  .rename_i t' s'' el' m hg;obtain⟨hb2,hs2⟩:=q4q hsrc;have:=q02 hb2;subst this;simp only[Option.some.injEq,Prod.mk.injEq]at hs2;obtain⟨rfl,rfl,rfl⟩:=hs2;rw[hg]at hf;rcases hs with ⟨_,rfl,a,rfl⟩|⟨hnl,hlc,rfl⟩
   .exact .inr ⟨_,_,rfl,.inl rfl⟩
   .refine .inr ⟨_,_,rfl,?_⟩;by_cases hk:k'=0
    .exact .inl hk
    .refine .inr ⟨_,rfl,λe he=>?_⟩;rcases hf.2 with ⟨_,hf⟩|⟨_,hoff,cc,fz,hob,_,_,_,_,hall⟩
     .omega
     .obtain⟨l,h1,h2,h3⟩:=hall e (by omega);refine⟨l,h1,h2,hp.2 e he,λq v hv=>?_⟩;rw[add_zero'];simp only[World.cell?,hob];have:=h3 q v hv;simpa [Nat.add_assoc]using this
  .cases hsrc
 |k y=>
  simp only[SV.fit]at hs;subst hs;cases x with
  |slice a l c=>
   cases a with
   |some _=>simp[srcS]at hsrc
   |none=>
    cases l with
    |succ _=>simp[srcS]at hsrc
    |zero=>
     cases c with
     |succ _=>simp[srcS]at hsrc
     |zero=>
      simp only[srcS,Option.some.injEq,Prod.mk.injEq]at hsrc;obtain⟨rfl,rfl,rfl⟩:=hsrc;exact .inr ⟨_,_,rfl,.inl rfl⟩
  |string b=>
   simp only[srcS]at hsrc;obtain⟨hb,hs2⟩:=q4q hsrc;simp only[Option.some.injEq,Prod.mk.injEq]at hs2;obtain⟨rfl,rfl,rfl⟩:=hs2;exact .inl ⟨b,rfl,q02 hb,rfl,rfl⟩
  |_=>simp[srcS]at hsrc
 |v y=>
  simp only[SV.fit]at hs;subst hs;cases x with
  |string b=>
   simp only[srcS]at hsrc;obtain⟨hb,hs2⟩:=q4q hsrc;simp only[Option.some.injEq,Prod.mk.injEq]at hs2;obtain⟨rfl,rfl,rfl⟩:=hs2;exact .inl ⟨b,rfl,q02 hb,rfl,rfl⟩
  |_=>simp[srcS]at hsrc
 |_=>simp[srcS]at hsrc
def dstS(h:SH)(e sz:Nat):SV->Option (Nat×Nat×ElE×Prop)
 | .ow i l=>match h.get i with
  | .row t s el m=>bif Nat.beq t e&&Nat.beq s sz then some (i,l,el,l<=m)else none
  |_=>none
 | .k (.slice none 0 0)=>some (h.nx,0,.fn (λ_=>[]),True)
 |_=>none
def appendS(P:Program)(h:SH)(t:TypeId)(t':TypeId)(d s:SV):Tr (SV×SH):=
 match P.underlying t with
 |some (.slice e)=>
  match P.info? e with
  |some i=>
   match i.zero with
   |some z=>
    bif tyOk P t t' s&&Nat.beq z.cells.size i.size&&Nat.blt 0 i.size then
     match dstS h e i.size d,srcS h i.size s with
     |some (o,l,el,p),some (k,el',q)=>
      .ask (p/\q/\l+k<=maxLen/\(l+k)*i.bytes<=140737488355328) (.ret (.ow h.nx (l+k),(h.set o .dead).push (.row e i.size (.app l el el') (l+k))))
     |_,_=>.bad 330
    else .bad 331
   |none=>.bad 332
  |none=>.bad 333
 |_=>.bad 334
def RowIs(w:World)(e sz:Nat)(L:Lc)(n:Nat)(xs:List Value):Prop:=
 xs.length=n*sz/\((L.nl=true/\n=0)\/(L.nl=false/\L.off=0/\∃c fz,w.heap[L.blk]?=some (.cells c e fz)/\OkFz fz c.size/\c.size=L.cap*sz/\n<=L.cap/\L.cap<=maxLen/\c.toList.take (n*sz)=xs))
def OwV(L:Lc)(n:Nat)(x:Value):Prop:=(L.nl=true/\n=0/\∃a,x=.slice a 0 0)\/(L.nl=false/\x=.slice (some ⟨L.blk,0,none⟩) n L.cap)
structure News(P:Program)(w:World)(t':TypeId)(sz m:Nat)(y:Value)(news:List Value):Prop where
 ty:P.underlying t'=some .string\/∃e',P.underlying t'=some (.slice e')
 len:∀w',(Builtin.lenOf y).run P w'=.ok m w'
 at0:(Builtin.firstCells sz m y).run P w=.ok news.toArray w
 at1:(Builtin.firstCells sz m y).run P w.drew=.ok news.toArray w.drew
theorem append_core{t t' ty e:TypeId}{i:TypeInfo}{z:Value}(ht:P.underlying t=some (.slice e))(hi:P.info? e=some i)(hz:i.zero=some z)(hzs:z.cells.size=i.size)
  {L:Lc} {n:Nat} {xs:List Value} (hrow:RowIs w e i.size L n xs) {x y:Value} (hx:OwV L n x) {m:Nat} {news:List Value} (hl:news.length=m*i.size)
  (hN:News P w t' i.size m y news) (h1:∀u∈news,u.oneCell'=true)
  (h63:n+m<=maxLen) (hbytes:(n+m)*i.bytes<=140737488355328) :
  ∃L' y' w' row,(Builtin.append_ #[t,t'] ty #[x,y]).run P w=.ok y' w'/\OwV L' (n+m) y'/\w.grownBy w' row/\(∀b,row=some b->L.nl=false/\b=L.blk)/\
   (L'.nl=false->w.heap.size<=L'.blk\/(L.nl=false/\L'.blk=L.blk))/\RowIs w' e i.size L' (n+m) (xs++news):=by
 have hxl:=hrow.1;have hlen:(xs++news).length=(n+m)*i.size:=by rw[List.length_append,hxl,hl,Nat.add_mul]
 have hmax:n+m<=9223372036854775807:=by simp only[maxLen]at h63;omega
 obtain⟨base,cap,hxe,hbase⟩:∃base cap,x=.slice base n cap/\((L.nl=true/\n=0/\cap=0)\/(L.nl=false/\base=some ⟨L.blk,0,none⟩/\cap=L.cap)):=by
  rcases hx with ⟨h,rfl,a,rfl⟩|⟨h,rfl⟩
  .exact⟨a,0,rfl,.inl ⟨h,rfl,rfl⟩⟩
  .exact⟨_,_,rfl,.inr ⟨h,rfl,rfl⟩⟩
 have hcap:(L.nl=true/\n=0/\cap=0)\/(L.nl=false/\base=some ⟨L.blk,0,none⟩/\cap=L.cap/\L.off=0/\∃c fz,w.heap[L.blk]?=some (.cells c e fz)/\OkFz fz c.size/\c.size=L.cap*i.size/\n<=L.cap/\L.cap<=maxLen/\c.toList.take (n*i.size)=xs):=by
  rcases hbase with h|⟨hnl,hb,hc⟩
  .exact .inl h
  .rcases hrow.2 with ⟨hnl',_⟩|⟨_,hoff,c,h⟩
   .rw[hnl]at hnl';cases hnl'
   .exact .inr ⟨hnl,hb,hc,hoff,c,h⟩
 subst hxe;by_cases hroom:n+m<=cap
 .rcases hcap with ⟨hnl,rfl,rfl⟩|⟨hnl,rfl,rfl,hoff,cc,fz,hob,hfz,hcs,hnc,hcm,htake⟩
  .have hm0:m=0:=by omega
   subst hm0;have hn:news=[]:=List.eq_nil_of_length_eq_zero (by simpa using hl);subst hn;refine⟨L,.slice base 0 0,w,none,?_,.inl ⟨hnl,rfl,_,rfl⟩,⟨rfl,rfl,rfl,Nat.le_refl _,λ_ _ _=>rfl⟩,by simp,λh=>(by rw[hnl]at h;cases h),by simpa using hrow⟩;have h0:=hN.at0;rcases hN.ty with hd|⟨e',hd⟩<;>cases base<;>simp[Builtin.append_,run_underlying ht,run_underlying hd,q0k (show szOf P e=some i.size by simp[szOf,hi]),hN.len,h0,storeCells]
  .have hfit:n*i.size+news.length<=cc.size:=by rw[hl,hcs,<-Nat.add_mul];exact Nat.mul_le_mul_right _ hroom
   have hst:=q2r P L.blk (n*i.size) e fz news 0 cc w hob hfz (by simpa using hfit) h1;simp only[Nat.add_zero]at hst
   have hr:(Builtin.append_ #[t,t'] ty #[.slice (some ⟨L.blk,0,none⟩) n L.cap,y]).run P w=.ok (.slice (some ⟨L.blk,0,none⟩) (n+m) L.cap) (w.setRow L.blk (cc.toList.take (n*i.size)++news++cc.toList.drop (n*i.size+news.length)).toArray):=by
    have h0:=hN.at0;rcases hN.ty with hd|⟨e',hd⟩<;>simp[Builtin.append_,run_underlying ht,run_underlying hd,q0k (show szOf P e=some i.size by simp[szOf,hi]),hN.len,hroom,h0,Addr.add_lit,hst]
   refine⟨L,_,_,some L.blk,hr,.inr ⟨hnl,rfl⟩,⟨rfl,rfl,rfl,by simp,λk _ hk=>setRow_other w L.blk _ k (λe=>hk (by rw[e]))⟩,λb' hb'=>⟨hnl,by injection hb' with hb';exact hb'.symm⟩,λ_=>.inr ⟨hnl,rfl⟩,hlen,.inr ⟨hnl,hoff,_,_,setRow_heap w L.blk cc _ e _ hob,?_,?_,hroom,hcm,?_⟩⟩
   .intro q hq;refine hfz q ?_;simp only[List.size_toArray,List.length_append,List.length_take,List.length_drop,Array.length_toList]at hq;omega
   .simp only[List.size_toArray,List.length_append,List.length_take,List.length_drop,Array.length_toList];omega
   .rw[htake,<-hlen];exact List.take_left
 .have hge:=grownCap_ge w (n+m) cap e;have hcm':=grownCap_le_maxLen w (n+m) cap e h63
  have hold:(Builtin.firstCells i.size n (.slice base n cap)).run P w.drew=.ok xs.toArray w.drew:=by
   rcases hcap with ⟨hnl,rfl,rfl⟩|⟨hnl,rfl,rfl,hoff,cc,fz,hob,hfz,hcs,hnc,hcm,htake⟩
   .have hx0:xs=[]:=List.eq_nil_of_length_eq_zero (by simpa using hxl);subst hx0;cases base with
    |none=>exact run_firstCells_none _ _ _ _ _
    |some b=>exact run_firstCells_some w.drew i.size 0 b 0 0 [] (by simp) (by simp)
   .exact run_firstCells_some w.drew i.size n _ n L.cap xs hxl λj u hu=>by
     rw[add_zero',Nat.zero_add];have hob':w.drew.heap[L.blk]?=some (.cells cc e fz):=hob;simp only[World.cell?,hob'];rw[<-htake,List.getElem?_take]at hu;split at hu
     .simpa using hu
     .cases hu
  have hfit:=growslice_fits (bytes:=i.bytes) (show cap<n+m by omega) hbytes
  have hr:(Builtin.append_ #[t,t'] ty #[.slice base n cap,y]).run P w=.ok (.slice (some ⟨w.heap.size,0,none⟩) (n+m) (grownCap w (n+m) cap e)) (w.drew.alloc (.cells (xs.toArray++news.toArray++Builtin.zeroCells z.cells (grownCap w (n+m) cap e-(n+m))) e)):=by
   have h63':¬(9223372036854775807<((n:Int)+(m:Int))):=by omega
   have h48':¬(281474976710656<Builtin.nextslicecap (n+m) cap*i.bytes):=by omega
   rcases hN.ty with hd|⟨e',hd⟩<;>simp[Builtin.append_,run_underlying ht,run_underlying hd,sizeOf,typeInfo,zeroValue,hi,hz,hN.len,hroom,h63',h48',Question.forced,hN.at1,hold,newRow,grownCap]<;>(congr 2;apply Array.ext';simp[List.append_assoc])
  refine⟨⟨w.heap.size,0,grownCap w (n+m) cap e,false⟩,_,_,none,hr,.inr ⟨rfl,rfl⟩,⟨rfl,rfl,rfl,by simp,λq hq _=>Below.heap_alloc w.drew _ q hq⟩,by simp,λ_=>.inl (Nat.le_refl _),hlen,.inr ⟨rfl,rfl,_,_,heap_alloc_new w.drew _,okFz0 _,?_,hge,hcm',?_⟩⟩
  .simp only[Array.size_append,List.size_toArray,size_zeroCells,hzs,hxl,hl,<-Nat.add_mul];congr 1;omega
  .simp only[Array.toList_append,List.append_assoc];rw[<-List.append_assoc,<-hlen];exact List.take_left
theorem gather{n sz k:Nat}{el:Nat->List SV}{b:Addr}(hall:∀e,e<k->∃l,l.length=sz/\SV.fits n ρ (el e) l/\(el e).all SV.one=true/\∀j v,l[j]?=some v->w.cell? (b.add (e*sz+j))=some v):
  ∃news:List Value,news.length=k*sz/\(∀j v,news[j]?=some v->w.cell? (b.add j)=some v)/\(∀v∈news,v.oneCell'=true)/\
   ∀e,e<k->∃l,l.length=sz/\SV.fits n ρ (el e) l/\∀j v,l[j]?=some v->news[e*sz+j]?=some v:=by
 induction k with
 |zero=>exact⟨[],by simp,by simp,by simp,λe he=>by omega⟩
 |succ k ih=>
  obtain⟨news,h1,h2,h3,h4⟩:=ih λe he=>hall e (by omega);obtain⟨l,l1,l2,l3,l4⟩:=hall k (by omega);refine⟨news++l,by rw[List.length_append,h1,l1,Nat.add_mul,Nat.one_mul],λj v hv=>?_,λv hv=>?_,λe he=>?_⟩
  .rw[List.getElem?_append]at hv;split at hv
   .exact h2 j v hv
   .have:=l4 (j-news.length) v hv;rw[h1]at this
    rwa [show k*sz+(j-k*sz)=j by omega]at this
  .rcases List.mem_append.1 hv with hv|hv
   .exact h3 v hv
   .exact q4g l2 l3 v hv
  .by_cases hek:e<k
   .obtain⟨l',a1,a2,a3⟩:=h4 e hek;refine⟨l',a1,a2,λj v hv=>?_⟩;have:=a3 j v hv;have hlt:=(List.getElem?_eq_some_iff.1 this).1;rw[List.getElem?_append_left hlt];exact this
   .have:e=k:=by omega
    subst this;refine⟨l,l1,l2,λj v hv=>?_⟩;rw[List.getElem?_append_right (by omega),h1,Nat.add_sub_cancel_left];exact hv
theorem dst_ok{e sz:Nat}(hm:HM M w0 ρ h w){d:SV}{x:Value}(hd:d.fit h.nx ρ x){o l:Nat}{el:ElE}{p:Prop}(hdst:dstS h e sz d=some (o,l,el,p))(hp:p):
  ∃L xs,OwV L l x/\RowIs w e sz L l xs/\(L.nl=false->(h.get o).own (ρ o)/\L.blk=(ρ o).blk)/\
   ∀i,i<l->∃c,c.length=sz/\SV.fits h.nx ρ (el i) c/\∀j v,c[j]?=some v->xs[i*sz+j]?=some v:=by
 cases d with
 |ow i l'=>
  simp only[dstS]at hdst;split at hdst
  .rename_i t s el' m hg;obtain⟨hc,hdst2⟩:=q4q hdst;simp only[Bool.and_eq_true]at hc;have e1:=q02 hc.1;have e2:=q02 hc.2;subst e1;subst e2;simp only[Option.some.injEq,Prod.mk.injEq]at hdst2;obtain⟨rfl,rfl,rfl,rfl⟩:=hdst2;obtain⟨hi,hx⟩:=hd;have hf:=hm.ob i;rw[hg]at hf;rcases hx with ⟨hnl,hl0,ad,rfl⟩|⟨hnl,hlc,rfl⟩
   .subst hl0;exact⟨ρ i,[],.inl ⟨hnl,rfl,_,rfl⟩,⟨by simp,.inl ⟨hnl,rfl⟩⟩,(λh=>by rw[hnl]at h;cases h),λi hi=>by omega⟩
   .rcases hf.2 with ⟨hnl',_⟩|⟨_,hoff,c,fz,hob,hfz,hcs,hmc,hcm,hall⟩
    .rw[hnl]at hnl';cases hnl'
    have hle:l'*s<=c.size:=by rw[hcs];exact Nat.mul_le_mul_right s hlc
    refine⟨ρ i,c.toList.take (l'*s),.inr ⟨hnl,rfl⟩,⟨by simp;omega,.inr ⟨hnl,hoff,c,fz,hob,hfz,hcs,hlc,hcm,rfl⟩⟩,λ_=>⟨by rw[hg];exact hnl,rfl⟩,λk hk=>?_⟩;obtain⟨cl,c1,c2,c3⟩:=hall k (by omega);refine⟨cl,c1,c2,λj v hv=>?_⟩;have h3:=c3 j v hv;have hj:j<s:=by rw[<-c1];exact(List.getElem?_eq_some_iff.1 hv).1
    have:k*s+s<=l'*s:=by
     have:=Nat.mul_le_mul_right s (show k+1<=l' by omega);rw[Nat.add_mul,Nat.one_mul]at this;exact this
    rw[List.getElem?_take,if_pos (by omega)];simpa using h3
  .cases hdst
 |k y=>
  simp only[SV.fit]at hd;subst hd;cases x with
  |slice a l' c=>
   cases a with
   |some _=>simp[dstS]at hdst
   |none=>
    cases l' with
    |succ _=>simp[dstS]at hdst
    |zero=>
     cases c with
     |succ _=>simp[dstS]at hdst
     |zero=>
      simp only[dstS,Option.some.injEq,Prod.mk.injEq]at hdst;obtain⟨rfl,rfl,rfl,rfl⟩:=hdst;exact⟨⟨0,0,0,true⟩,[],.inl ⟨rfl,rfl,_,rfl⟩,⟨by simp,.inl ⟨rfl,rfl⟩⟩,(λh=>by cases h),λi hi=>by omega⟩
  |_=>simp[dstS]at hdst
 |_=>simp[dstS]at hdst
theorem append_ok{t t':TypeId}{ty:TypeId}{d s:SV}{x y:Value}(hm:HM M w0 ρ h w)(hd:d.fit h.nx ρ x)(hs:s.fit h.nx ρ y){K:SV×SH->Prop}(hK:(appendS P h t t' d s).Holds K):
  GoodV P M w0 ρ h K (Builtin.append_ #[t,t'] ty #[x,y]) w:=by
 unfold appendS at hK;split at hK
 .rename_i e ht;split at hK
  .rename_i i hi;split at hK
   .rename_i z hz;obtain⟨hc,hK1⟩:=q08 hK;simp only[Bool.and_eq_true]at hc;obtain⟨⟨c1,c2⟩,c3⟩:=hc;have hzs:=q02 c2;have hsz:0<i.size:=by simpa [Nat.blt_eq]using c3
    split at hK1
    .rename_i o l el p k el' q hdst hsrc;obtain⟨⟨hp,hq,h63,hby⟩,hk⟩:=hK1;obtain⟨L,xs,hxo,hrow,hLo,hels⟩:=dst_ok hm hd hdst hp;have hsr:=src_ok hm hs hsrc hq
     have hgat:∃news:List Value,news.length=k*i.size/\News P w t' i.size k y news/\(∀v∈news,v.oneCell'=true)/\
       ∀e,e<k->∃l,l.length=i.size/\SV.fits h.nx ρ (el' e) l/\∀j v,l[j]?=some v->news[e*i.size+j]?=some v:=by
      rcases hsr with ⟨b,rfl,hs1,rfl,rfl⟩|⟨a,c,rfl,hsr⟩
      .have ht':P.underlying t'=some .string:=by
        have hsb:s=.k (.string b)\/s=.v (.string b):=by
         cases s<;>simp[srcS]at hsrc
         case k x=>simp only[SV.fit]at hs;exact .inl (by rw[hs])
         case v x=>simp only[SV.fit]at hs;exact .inr (by rw[hs])
         case sl=>obtain⟨_,h⟩:=hs;cases h
         case se=>obtain⟨_,_,_,h,_⟩:=hs;cases h
         case rs=>obtain⟨_,_,h,_⟩:=hs;cases h
         case ow=>obtain⟨_,⟨_,_,_,h⟩|⟨_,_,h⟩⟩:=hs<;>cases h
        have h1:(match P.underlying t' with
         |some .string=>true
         |_=>false)=true:=by rcases hsb with rfl|rfl<;>exact c1
        split at h1
        .assumption
        .cases h1
       have hget:∀q:Nat,(b.data.toList.map λx=>Value.int .u8 x.toNat)[q]?=if q<b.size then some (.int .u8 (b.get! q).toNat)else none:=λq=>by
        rw[List.getElem?_map];by_cases hq:q<b.size
        .rw[if_pos hq,List.getElem?_eq_getElem (by simpa using hq)]
         have hg:b.get! q=b.data.toList[q]'(by simpa using hq):=by
          show b.data[q]! =_;rw[getElem!_pos b.data q hq];simp
         rw[hg];rfl
        .rw[if_neg hq,List.getElem?_eq_none (by simp;exact Nat.le_of_not_lt hq)];rfl
       have hfc:∀w':World,(Builtin.firstCells i.size b.size (.string b)).run P w'=.ok (b.data.toList.map λx=>Value.int .u8 x.toNat).toArray w':=λw'=>by
        have he:b.extract 0 b.size=b:=by
         have:=ByteArray.extract_zero_size (b:=b);exact this
        simp only[Builtin.firstCells,he,Sem.run_pure];congr 1;apply Array.ext';simp
       refine⟨b.data.toList.map λx=>Value.int .u8 x.toNat,?_,⟨.inl ht',λw'=>by simp[Builtin.lenOf],hfc _,hfc _⟩,λv hv=>?_,λe he=>⟨[.int .u8 (b.get! e).toNat],by simp[hs1],?_,λj v hv=>?_⟩⟩
       .rw[hs1];simp;try rfl
       .obtain⟨x,_,rfl⟩:=List.mem_map.1 hv;rfl
       .exact⟨rfl,trivial⟩
       .cases j with
        |zero=>rw[hs1,Nat.mul_one,Nat.add_zero,hget,if_pos he];simpa using hv
        |succ j=>simp at hv
      .have e1:t=t':=by
        have h2:tyOk P t t' s=Nat.beq t t':=by
         cases s<;>first
          |rfl
          |(simp only[SV.fit]at hs;subst hs;rfl)
        rw[h2]at c1;exact q02 c1
       subst e1;have hty:P.underlying t=some .string\/∃e',P.underlying t=some (.slice e'):=.inr ⟨_,ht⟩;rcases hsr with rfl|⟨b,rfl,hall⟩
       .refine⟨[],by simp,⟨hty,λw'=>by simp[Builtin.lenOf],?_,?_⟩,by simp,λe he=>by omega⟩
        .cases a with
         |none=>exact run_firstCells_none _ _ _ _ _
         |some b=>exact run_firstCells_some w i.size 0 b 0 c [] (by simp) (by simp)
        .cases a with
         |none=>exact run_firstCells_none _ _ _ _ _
         |some b=>exact run_firstCells_some w.drew i.size 0 b 0 c [] (by simp) (by simp)
       .obtain⟨news,n1,n2,n3,n4⟩:=gather hall;exact⟨news,n1,⟨hty,λw'=>by simp[Builtin.lenOf],run_firstCells_some w i.size k b k c news n1 n2,run_firstCells_some w.drew i.size k b k c news n1 (by simpa using n2)⟩,n3,n4⟩
     obtain⟨news,n1,n2,n3,n4⟩:=hgat;obtain⟨L',y',w',row,hr,hyo,hg,hrow1,hfresh,hrow2⟩:=append_core (ty:=ty) ht hi hz hzs hrow hxo n1 n2 n3 h63 hby;have hxl:=hrow.1
     have hElsAll:∀cc:Array Value,cc.toList.take ((l+k)*i.size)=xs++news->Els h.nx ρ 0 i.size (ElE.app l el el') (l+k) cc:=by
      intro cc htake e he
      have hget:∀q v,(xs++news)[q]?=some v->cc[0+q]?=some v:=by
       intro q v hv;rw[<-htake,List.getElem?_take]at hv;split at hv
       .simpa using hv
       .cases hv
      by_cases hel:e<l
      .obtain⟨cl,k1,k2,k3⟩:=hels e hel;refine⟨cl,k1,by simp only[ElE.at,if_pos hel];exact k2,λj v hv=>?_⟩;have h3:=k3 j v hv;rw[Nat.add_assoc];refine hget _ _ ?_;rw[List.getElem?_append_left (List.getElem?_eq_some_iff.1 h3).1];exact h3
      .obtain⟨cl,k1,k2,k3⟩:=n4 (e-l) (by omega);refine⟨cl,k1,by simp only[ElE.at,if_neg hel];exact k2,λj v hv=>?_⟩;have h3:=k3 j v hv;rw[Nat.add_assoc];refine hget _ _ ?_;have hmul:e*i.size=l*i.size+(e-l)*i.size:=by rw[<-Nat.add_mul];congr 1;omega
       rw[List.getElem?_append_right (by omega),hxl,hmul]
       rwa [show l*i.size+(e-l)*i.size+j-l*i.size=(e-l)*i.size+j by omega]
     have hfit:(SO.row e i.size (.app l el el') (l+k)).fit h.nx ρ L' w'.heap[L'.blk]?:=by
      refine⟨h63,?_⟩;rcases hrow2.2 with ⟨h1,h2⟩|⟨h1,h2,cc,fz,h3,h3',h4,h5,h6,h7⟩
      .exact .inl ⟨h1,h2⟩
      .exact .inr ⟨h1,h2,cc,fz,h3,h3',h4,h5,h6,hElsAll cc h7⟩
     have hm':HM M w0 (upd ρ h.nx L') ((h.set o .dead).push (.row e i.size (.app l el el') (l+k))) w':=by
      refine hm.move (i:=o) hg (λb hb=>?_) hfit (λho=>?_)
      .obtain⟨hnl,rfl⟩:=hrow1 b hb;exact hLo hnl
      .rcases hfresh ho with hf|⟨hnl,hb⟩
       .exact .inl hf
       .obtain⟨z1,z2⟩:=hLo hnl;exact .inr ⟨z1,hb.trans z2⟩
     refine⟨_,_,_,y',w',hk,Nat.le_succ _,q0r _ _ _,hm',?_,hr⟩;refine⟨Nat.lt_succ_self _,?_⟩;have hu:upd ρ h.nx L' h.nx=L':=by simp[upd]
     rw[hu];rcases hyo with ⟨h1,h2,a,h3⟩|⟨h1,h3⟩
     .exact .inl ⟨h1,h2,a,h3⟩
     .rcases hrow2.2 with ⟨h1',_⟩|⟨_,_,_,_,_,_,_,h5,_⟩
      .rw[h1]at h1';cases h1'
      .exact .inr ⟨h1,h5,h3⟩
    .exact hK1.elim
   .exact hK.elim
  .exact hK.elim
 .exact hK.elim
end
end Go.Sx

namespace Go.Sx
open Go.RowKit
variable[Env]
def intOf(q:IntKind)(l:List SV):Option Int:=
 match l with
 | [s]=>match s.int? with
  |some (_,q',n)=>bif decide (q=q')then some n else none
  |none=>none
 |_=>none
def intAt(q:IntKind)(l:List SV):Int:=(intOf q l).getD 0
def intsOf(q:IntKind)(k:Nat)(el:Nat->List SV):List Int:=(List.range k).map λe=>intAt q (el e)
def strOf(l:List Int):ByteArray:=⟨(l.map λn=>UInt8.ofNat n.toNat).toArray⟩
def runesAt(s:ByteArray):Nat->Nat->List Int
 |0,_=>[]
 |k+1,i=>bif Nat.blt i s.size then((Utf8.decode s i).1:Int)::runesAt s k (i+(Utf8.decode s i).2)else []
def runesOf(s:ByteArray):List Int:=runesAt s s.size 0
def runeEl(l:List Int):Nat->List SV:=λe=>[.v (.int .i32 (l.getD e 0))]
section
variable{P:Program}{M:Nat->Prop}{w0 w:World}{ρ:Rh}{h:SH}
theorem intOf_fit{q:IntKind}{l:List SV}{n:Int}{xs:List Value}{m:Nat}(h:intOf q l=some n)(hf:SV.fits m ρ l xs):xs=[.int q n]:=by
 unfold intOf at h;split at h
 .rename_i s;split at h
  .rename_i c q' k hs;cases hq:decide (q=q')with
   |false=>rw[hq]at h;cases h
   |true=>
    rw[hq]at h;have:=of_decide_eq_true hq;subst this;simp only[cond_true,Option.some.injEq]at h;subst h;obtain⟨x,r,rfl,hx,hr⟩:=q03 hf;have:=q0b hr;subst this;rw[SV.int_fit hs hx]
  .cases h
 .cases h
theorem ints_load{q:IntKind}{k:Nat}{el:Nat->List SV}{b:Addr}(hall:∀e,e<k->∃l,l.length=1/\SV.fits h.nx ρ (el e) l/\(el e).all SV.one=true/\∀j v,l[j]?=some v->w.cell? (b.add (e*1+j))=some v)
  (hi:∀e,e<k->(intOf q (el e)).isSome=true):(loadCells b k).run P w=.ok ((intsOf q k el).map (Value.int q)).toArray w:=by
 have hl:((intsOf q k el).map (Value.int q)).length=k:=by simp[intsOf]
 have:=run_loadCells_list (P:=P) w b ((intsOf q k el).map (Value.int q)) λj v hv=>by
  have hj:j<k:=by have:=(List.getElem?_eq_some_iff.1 hv).1;omega
  obtain⟨l,h1,h2,h3,h4⟩:=hall j hj;cases hn:intOf q (el j)with
  |none=>have:=hi j hj;rw[hn]at this;cases this
  |some n=>
   have he:=intOf_fit hn h2;subst he;have:=h4 0 (.int q n) rfl;rw[Nat.mul_one,Nat.add_zero]at this;rw[this];simp only[intsOf,List.map_map,List.getElem?_map,List.getElem?_range hj,Option.map_some,Function.comp_apply,intAt,hn,Option.getD_some]at hv;exact hv
 rw[hl]at this;exact this
theorem strOf_foldl(ns:List Int):ns.foldl (λr n=>r.push (UInt8.ofNat n.toNat)) ByteArray.empty=strOf ns:=by
 have key:∀(ns:List Int)(r:ByteArray),ns.foldl (λr n=>r.push (UInt8.ofNat n.toNat)) r=⟨r.data++(ns.map λn=>UInt8.ofNat n.toNat).toArray⟩:=by
  intro ns
  induction ns with
  |nil=>intro r;simp
  |cons n ns ih=>intro r;rw[List.foldl_cons,ih];simp[ByteArray.push]
 rw[key];have he0:ByteArray.empty.data=#[]:=rfl;rw[he0];simp[strOf]
def litK:SV->Bool
 | .sl ..=>true
 |_=>false
def askAll(a:SV)(k:Nat)(f:Nat->Bool)(t:Tr (SV×SH)):Tr (SV×SH):=bif litK a&&(List.range k).all f then t else .ask (∀e,e<k->f e=true) t
theorem qbf{a:SV}{k:Nat}{f:Nat->Bool}{t:Tr (SV×SH)}{K:SV×SH->Prop}(h:(askAll a k f t).Holds K):(∀e,e<k->f e=true)/\t.Holds K:=by
 unfold askAll at h;cases hb:litK a&&(List.range k).all f with
 |true=>
  rw[hb]at h;rw[Bool.and_eq_true]at hb;exact⟨λe he=>List.all_eq_true.1 hb.2 e (List.mem_range.2 he),h⟩
 |false=>rw[hb]at h;exact h
def convH(P:Program)(h:SH)(src dst:TypeId)(a:SV):Tr (SV×SH):=
 match P.underlying src,P.underlying dst with
 |some .string,some (.slice e)=>match P.underlying e,szOf P e,a.str? with
  |some (.int .u8),some 1,some (_,s)=>.ask (s.size<=maxLen) (.ret (.ow h.nx s.size,h.push (.row e 1 (.fn (q2k s)) s.size)))
  |some (.int .i32),some 1,some (_,s)=>.ask ((runesOf s).length<=70368744177664) (.ret (.ow h.nx (runesOf s).length,h.push (.row e 1 (.fn (runeEl (runesOf s))) (runesOf s).length)))
  |_,_,_=>.bad 250
 |some (.slice e),some .string=>match P.underlying e,srcS h 1 a with
  |some (.int .u8),some (k,el,p)=>bif slicey a then .ask p (askAll a k (λe=>(intOf .u8 (el e)).isSome) (.ret (.v (.string (strOf (intsOf .u8 k el))),h)))else .bad 251
  |some (.int .i32),some (k,el,p)=>bif slicey a then .ask p (askAll a k (λe=>(intOf .i32 (el e)).isSome) (.ret (.v (.string (runesBytes (intsOf .i32 k el))),h)))else .bad 252
  |_,_=>.bad 253
 |some (.int _),some .string=>match a.int? with
  |some (_,_,n)=>.ret (.v (.string (Utf8.encode n)),h)
  |none=>.bad 254
 |_,_=>(convS P src dst a).bind λs=>.ret (s,h)
theorem qat(s:ByteArray):∀(k i:Nat)(acc:Array Value),Conv.runesFrom s k i acc=acc++((runesAt s k i).map (Value.int .i32)).toArray
 |0,i,acc=>by simp[Conv.runesFrom,runesAt]
 |k+1,i,acc=>by
  unfold Conv.runesFrom runesAt;by_cases hi:i<s.size
  .rw[if_pos hi,show Nat.blt i s.size=true from Nat.ble_eq_true_of_le hi];simp only[cond_true];rw[qat s k];apply Array.ext';simp
  .have:Nat.blt i s.size=false:=by
    cases hb:Nat.blt i s.size with
    |false=>rfl
    |true=>exact absurd (Nat.le_of_ble_eq_true hb) hi
   rw[if_neg hi,this];simp
theorem q97(s:ByteArray):Conv.runesFrom s s.size 0 #[]=((runesOf s).map (Value.int .i32)).toArray:=by
 rw[qat];simp[runesOf]
theorem newRow_drew{e:TypeId}{el:Nat->List SV}{n cap:Nat}{c:Array Value}{fz:Nat×Nat}(hm:HM M w0 ρ h w)(hfz:OkFz fz c.size)(hc:c.size=cap*1)(hn:n<=cap)(hcap:cap<=maxLen)(hel:Els h.nx ρ 0 1 el n c):
  HM M w0 (upd ρ h.nx ⟨w.heap.size,0,cap,false⟩) (h.push (.row e 1 (.fn el) n)) (w.drew.alloc (.cells c e fz))/\(SV.ow h.nx n).fit (h.push (.row e 1 (.fn el) n)).nx (upd ρ h.nx ⟨w.heap.size,0,cap,false⟩) (.slice (some ⟨w.heap.size,0,none⟩) n cap):=by
 refine⟨?_,Nat.lt_succ_self _,.inr ⟨by simp[upd],by simp[upd];exact hn,by simp[upd]⟩⟩;have hg:w.grownBy (w.drew.alloc (.cells c e fz)) none:=⟨rfl,rfl,rfl,by simp,λq hq _=>Below.heap_alloc w.drew _ q hq⟩;have hdead:(h.set h.nx .dead).nx=h.nx:=rfl
 have hm1:=hm.move (i:=h.nx) hg (λb hb=>by cases hb) (so:=.row e 1 (.fn el) n) (L:=⟨w.heap.size,0,cap,false⟩)
  ⟨by omega,.inr ⟨rfl,rfl,c,fz,heap_alloc_new w.drew _,hfz,hc,hn,hcap,hel⟩⟩ (λ_=>.inl (Nat.le_refl _))
 refine hm1.same rfl λj=>?_;rw[SH.get_push,SH.get_push,hdead,SH.get_set];split<;>rfl
theorem convH_ok{src dst:TypeId}{a:SV}{x:Value}(hm:HM M w0 ρ h w)(ha:a.fit h.nx ρ x){K:SV×SH->Prop}(hK:(convH P h src dst a).Holds K):GoodV P M w0 ρ h K (convert src dst x) w:=by
 unfold convH at hK;split at hK
 .rename_i e hs hd;split at hK
  .rename_i _ _ s he hsz hst;obtain⟨hle,hK⟩:=hK;rw[SV.str_fit hst ha];have hr:=run_bytes_of_string (P:=P) w src dst e s hs hd he;have hge:=grownCap_ge w s.size 0 e;have hcm:=grownCap_le_maxLen w s.size 0 e hle
   have hsize:(bytesRow s (grownCap w s.size 0 e)).size=grownCap w s.size 0 e:=by
    unfold bytesRow;simp only[Array.size_append,Array.size_map,Array.size_replicate];show s.size+_=_;omega
   obtain⟨hm',hf'⟩:=newRow_drew (e:=e) (el:=q2k s) (n:=s.size) (cap:=grownCap w s.size 0 e) (c:=bytesRow s (grownCap w s.size 0 e))
    (fz:=((bytesRow s (grownCap w s.size 0 e)).size,(bytesRow s (grownCap w s.size 0 e)).size+1)) hm (λi hi h=>by simp at h;omega) (by rw[hsize,Nat.mul_one]) hge hcm (λk hk=>⟨[.int .u8 (s.get! k).toNat],rfl,⟨rfl,trivial⟩,λj v hv=>by
     cases j with
     |zero=>
      have h1:=bytesRow_at s (grownCap w s.size 0 e) k hk;have hg:s.get! k=s.data[k]'hk:=by show s.data[k]! =_;rw[getElem!_pos s.data k hk]
      simp only[Nat.mul_one,Nat.add_zero,Nat.zero_add];rw[h1,<-hg];simpa using hv
     |succ j=>simp at hv⟩)
   exact⟨_,_,_,_,_,hK,Nat.le_succ _,q0r _ _ _,hm',hf',hr⟩
  .rename_i _ _ s he hsz hst;obtain⟨hle,hK⟩:=hK;rw[SV.str_fit hst ha];have hlen:(Conv.runesFrom s s.size 0 #[]).size=(runesOf s).length:=by rw[q97];simp
   have hr:=run_runes_of_string (P:=P) w src dst e s hs hd he (by rw[hlen];exact hle);rw[hlen,q97]at hr;have hge:=grownCap_ge w (runesOf s).length 0 e;have hcm:=grownCap_le_maxLen w (runesOf s).length 0 e (by unfold maxLen;omega)
   obtain⟨hm',hf'⟩:=newRow_drew (e:=e) (el:=runeEl (runesOf s)) (n:=(runesOf s).length) (cap:=grownCap w (runesOf s).length 0 e) (c:=((runesOf s).map (Value.int .i32)).toArray++Array.replicate (grownCap w (runesOf s).length 0 e-(runesOf s).length) (.int .i32 0))
    (fz:=(0,0)) hm (okFz0 _) (by simp;omega) hge hcm (λk hk=>⟨[.int .i32 ((runesOf s).getD k 0)],rfl,⟨rfl,trivial⟩,λj v hv=>by
     cases j with
     |zero=>
      simp only[Nat.mul_one,Nat.add_zero,Nat.zero_add];rw[Array.getElem?_append_left (by simpa using hk)];simp only[List.getElem?_toArray,List.getElem?_map,List.getElem?_eq_getElem hk,Option.map_some];simp only[List.getElem?_cons_zero,List.getD_eq_getElem?_getD,List.getElem?_eq_getElem hk,Option.getD_some]at hv;exact hv
     |succ j=>simp at hv⟩)
   exact⟨_,_,_,_,_,hK,Nat.le_succ _,q0r _ _ _,hm',hf',hr⟩
  .exact hK.elim
 .rename_i e hs hd;split at hK
  .rename_i k el p he hsrc;obtain⟨hsl,hK⟩:=q08 hK;obtain⟨hp,hK⟩:=hK;obtain⟨hall,hK⟩:=qbf hK;obtain⟨b0,l0,c0,rfl⟩:=qa8 hsl ha;rcases src_ok hm ha hsrc hp with ⟨b,hb,_⟩|⟨a',c,hx,hor⟩
   .cases hb
   .simp only[Value.slice.injEq]at hx;obtain⟨rfl,rfl,rfl⟩:=hx;refine GoodV.same hm hK (x:=.string (strOf (intsOf .u8 l0 el))) (by simp[SV.fit]) ?_;have hcv:(convert src dst (.slice b0 l0 c0)).run P w=(Conv.bytesToString (.slice b0 l0 c0)).run P w:=by simp[convert,run_underlying hs,run_underlying hd,run_underlying he]
    rw[hcv];cases b0 with
    |none=>
     rcases hor with rfl|⟨b,hb,_⟩
     .simp[Conv.bytesToString,intsOf,strOf];rfl
     .cases hb
    |some b0=>
     have hl:(loadCells b0 l0).run P w=.ok ((intsOf .u8 l0 el).map (Value.int .u8)).toArray w:=by
      rcases hor with rfl|⟨b,hb,hb2⟩
      .exact run_loadCells_list (P:=P) w b0 [] (by simp)
      .injection hb with hb
       subst hb;exact ints_load hb2 hall
     rw[run_bytesToString w b0 l0 c0 _ hl,strOf_foldl]
  .rename_i k el p he hsrc;obtain⟨hsl,hK⟩:=q08 hK;obtain⟨hp,hK⟩:=hK;obtain⟨hall,hK⟩:=qbf hK;obtain⟨b0,l0,c0,rfl⟩:=qa8 hsl ha;rcases src_ok hm ha hsrc hp with ⟨b,hb,_⟩|⟨a',c,hx,hor⟩
   .cases hb
   .simp only[Value.slice.injEq]at hx;obtain⟨rfl,rfl,rfl⟩:=hx;refine GoodV.same hm hK (x:=.string (runesBytes (intsOf .i32 l0 el))) (by simp[SV.fit]) ?_;have hcv:(convert src dst (.slice b0 l0 c0)).run P w=(Conv.runesToString (.slice b0 l0 c0)).run P w:=by simp[convert,run_underlying hs,run_underlying hd,run_underlying he]
    rw[hcv];cases b0 with
    |none=>
     rcases hor with rfl|⟨b,hb,_⟩
     .simp[Conv.runesToString,intsOf,runesBytes];try rfl
     .cases hb
    |some b0=>
     have hl:(loadCells b0 l0).run P w=.ok ((intsOf .i32 l0 el).map (Value.int .i32)).toArray w:=by
      rcases hor with rfl|⟨b,hb,hb2⟩
      .exact run_loadCells_list (P:=P) w b0 [] (by simp)
      .injection hb with hb
       subst hb;exact ints_load hb2 hall
     rw[run_runesToString w b0 l0 c0 _ hl]
  .exact hK.elim
 .rename_i hs hd;split at hK
  .rename_i c q n hn;rw[SV.int_fit hn ha];exact GoodV.same hm hK (x:=.string (Utf8.encode n)) (by simp[SV.fit]) (by simp[convert,run_underlying hs,run_underlying hd,Conv.intToString])
  .exact hK.elim
 .obtain⟨sv,x',h1,h2,h3⟩:=conv_ok ha (Tr.holds_bind hK);exact GoodV.same hm h1 h2 (h3 w)
def zeroEl(z:Value):Nat->List SV:=λ_=>z.cells.toList.map .k
def q7u(P:Program)(h:SH)(t:TypeId)(l c:SV):Tr (SV×SH):=
 match P.underlying t with
 |some (.slice e)=>match P.info? e with
  |some i=>match i.zero with
   |some z=>match l.int?,c.int? with
    |some (_,_,n),some (_,_,m)=>bif Nat.beq z.cells.size i.size&&Nat.blt 0 i.size then
     .ask (0<=n/\n<=m/\m<=(maxLen:Int)/\(i.bytes:Int)*m<=140737488355328) (.ret (.ow h.nx n.toNat,h.push (.row e i.size (.fn (zeroEl z)) m.toNat)))else .bad 260
    |_,_=>.bad 261
   |none=>.bad 262
  |none=>.bad 263
 |_=>.bad 264
theorem makeSlice_ok{t:TypeId}{l c:SV}{x y:Value}(hm:HM M w0 ρ h w)(hl:l.fit h.nx ρ x)(hc:c.fit h.nx ρ y){K:SV×SH->Prop}(hK:(q7u P h t l c).Holds K):GoodV P M w0 ρ h K (Instr.makeSlice t x y) w:=by
 unfold q7u at hK;split at hK
 .rename_i e ht;split at hK
  .rename_i i hi;split at hK
   .rename_i z hz;split at hK
    .rename_i _ q n _ q' m hn hm';obtain⟨hb,hK⟩:=q08 hK;obtain⟨⟨h0,h1,h2,h3⟩,hK⟩:=hK;simp only[Bool.and_eq_true]at hb;have hzs:=q02 hb.1;have hsz:0<i.size:=by simpa [Nat.blt_eq]using hb.2
     rw[SV.int_fit hn hl,SV.int_fit hm' hc];have hml:m.toNat<=maxLen:=by omega
     have hr:=run_make (P:=P) w t e i z ht hi hz q q' n m h0 h1 (by omega) (by unfold maxLen at h2;omega);refine⟨_,_,upd ρ h.nx ⟨w.heap.size,0,m.toNat,false⟩,_,_,hK,Nat.le_succ _,q0r _ _ _,hm.push ⟨hml,.inr ⟨rfl,rfl,_,_,rfl,okFz0 _,size_madeCells _ _,Nat.le_refl _,hml,λk hk=>?_⟩⟩,⟨Nat.lt_succ_self _,.inr ⟨by simp[upd],by simp[upd];omega,by simp[upd]⟩⟩,hr⟩;refine⟨z.cells.toList,by simp[hzs],q6v _,λj v hv=>?_⟩;have hj:j<z.cells.size:=by simpa using(List.getElem?_eq_some_iff.1 hv).1
     have hlt:0+k*i.size+j<m.toNat*i.size:=by
      have:=Nat.mul_le_mul_right i.size (show k+1<=m.toNat by omega);rw[Nat.add_mul,Nat.one_mul]at this;omega
     unfold madeCells;rw[Array.getElem?_map,Array.getElem?_range,if_pos hlt];simp only[Option.map_some];rw[hzs,Nat.zero_add,Nat.mul_comm,Nat.mul_add_mod,Nat.mod_eq_of_lt (by omega)];rw[<-hv];rw[getElem!_pos z.cells j hj];simp[hj]
    .exact hK.elim
   .exact hK.elim
  .exact hK.elim
 .exact hK.elim
def ptrS:SV->Bool
 | .p .. | .pe .. | .pr .. | .k (.pointer (some _))| .v (.pointer (some _))=>true
 |_=>false
theorem ptrS_fit{s:SV}{x:Value}{n:Nat}(hs:ptrS s=true)(hf:s.fit n ρ x):∃a,x=.pointer (some a):=by
 unfold ptrS at hs;split at hs
 .obtain⟨_,rfl⟩:=hf;exact⟨_,rfl⟩
 .obtain⟨_,rfl⟩:=hf;exact⟨_,rfl⟩
 .obtain⟨b,o,_,_,_,rfl,_⟩:=hf;exact⟨_,rfl⟩
 .simp only[SV.fit]at hf;exact⟨_,hf⟩
 .simp only[SV.fit]at hf;exact⟨_,hf⟩
 .cases hs
def rangeS(P:Program)(h:SH)(t:TypeId)(a:SV):Tr (SV×SH):=
 match P.underlying t,a.str? with
 |some .string,some (_,s)=>.ret (.p h.nx 0,h.push (.obj (.stringIter s 0)))
 |_,_=>.bad 270
theorem rangeS_ok{t:TypeId}{a:SV}{x:Value}(hm:HM M w0 ρ h w)(ha:a.fit h.nx ρ x){K:SV×SH->Prop}(hK:(rangeS P h t a).Holds K):GoodV P M w0 ρ h K (Instr.range t x) w:=by
 unfold rangeS at hK;split at hK
 .rename_i _ s ht hs;rw[SV.str_fit hs ha];refine⟨_,_,upd ρ h.nx ⟨w.heap.size,0,0,false⟩,.pointer (some ⟨w.heap.size,0,none⟩),w.alloc (.stringIter s 0),hK,Nat.le_succ _,q0r _ _ _,hm.push ⟨rfl,rfl,rfl⟩,?_,?_⟩
  .simp[SV.fit,SH.push,upd]
  .simp[Instr.range,run_underlying ht]
 .exact hK.elim
def nextS(h:SH)(a:SV)(str:Bool):Tr (SV×SH):=
 match a,str with
 | .p i 0,true=>match h.get i with
  | .obj (.stringIter s pos)=>.br (decide (pos<s.size)) (.ret (.tup [.k (.bool true),.v (.int .i64 (pos:Int)),.v (.int .i32 ((Utf8.decode s pos).1:Int))],h.set i (.obj (.stringIter s (pos+(Utf8.decode s pos).2))))) (.ret (.tup [.k (.bool false)],h))
  |_=>.bad 271
 |_,_=>.bad 272
theorem nextS_ok{ty:TypeId}{a:SV}{x:Value}{str:Bool}(hm:HM M w0 ρ h w)(ha:a.fit h.nx ρ x){K:SV×SH->Prop}(hK:(nextS h a str).Holds K):GoodV P M w0 ρ h K (Instr.next x str ty) w:=by
 unfold nextS at hK;split at hK
 .rename_i i;split at hK
  .rename_i s pos hg;obtain⟨hil,rfl⟩:=ha;have hob:=hm.ob i;have hown:(h.get i).own (ρ i):=by rw[hg];trivial
   rw[hg]at hob;obtain⟨hnl,hz,hob⟩:=hob;have hlt:(ρ i).blk<w.heap.size:=(Array.getElem?_eq_some_iff.1 hob).1;by_cases hp:pos<s.size
   .have hK:=hK.1 (decide_eq_true hp);refine⟨_,_,ρ,.tuple #[.bool true,goInt pos,.int .i32 ((Utf8.decode s pos).1:Int)],{ w with heap:=w.heap.setIfInBounds (ρ i).blk (.stringIter s (pos+(Utf8.decode s pos).2))},hK,Nat.le_refl _,Agree.refl _ _,?_,?_,?_⟩
    .refine hm.setOwn hown trivial rfl rfl rfl (by simp) (λj hj=>?_) (o:=.stringIter s (pos+(Utf8.decode s pos).2)) ?_ ⟨hnl,hz,rfl⟩
     .simp only[Array.getElem?_setIfInBounds];rw[if_neg (λe=>hj e.symm)]
     .simp[hlt]
    .exact⟨_,rfl,by simp[SV.fits,SV.fit,goInt]⟩
    .simp[Instr.next,getObj,setObj,Sem.run,hob,hz,hp,goInt]
   .have hK:=hK.2 (decide_eq_false hp);refine GoodV.same hm hK (x:=.tuple #[.bool false]) ⟨_,rfl,by simp[SV.fits,SV.fit]⟩ ?_;simp[Instr.next,getObj,Sem.run,hob,hz,hp]
  .exact hK.elim
 .exact hK.elim
end
end Go.Sx

namespace Go.Sx
open Go.RowKit
variable[Env]
def clearS(P:Program)(h:SH)(t:TypeId)(a:SV):Tr (SV×SH):=
 match P.underlying t with
 |some (.slice e)=>
  match zeroT P e with
  |some z=>match a with
   | .se i sz o l=>match h.get i with
    | .row t' sz' el m=>bif Nat.beq sz sz'&&(Nat.beq z.cells.size sz&&z.cells.toList.all Value.oneCell')then .ask (o+l=m) (.ret (.tup [],h.set i (.row t' sz el o)))else .bad 671
    |_=>.bad 672
   |_=>.bad 673
  |none=>.bad 674
 |_=>.bad 675
section
variable{P:Program}{M:Nat->Prop}{w0 w:World}{ρ:Rh}{h:SH}
theorem zero_one{z:Array Value}{n:Nat}(h1:z.toList.all Value.oneCell'=true)(hz:0<z.size):∀v∈(Builtin.zeroCells z n).toList,v.oneCell'=true:=by
 intro v hv;simp only[Builtin.zeroCells,Array.toList_map,List.mem_map]at hv;obtain⟨i,_,rfl⟩:=hv;have hlt:i%z.size<z.size:=Nat.mod_lt _ hz;rw[getElem!_pos z _ hlt];rw[List.all_eq_true]at h1;exact h1 _ (by rw[<-Array.getElem_toList];exact List.getElem_mem _)
theorem clear_ok{t ty:TypeId}{a:SV}{x:Value}(hm:HM M w0 ρ h w)(ha:a.fit h.nx ρ x){K:SV×SH->Prop}(hK:(clearS P h t a).Holds K):GoodV P M w0 ρ h K (Builtin.clear_ #[t] ty #[x]) w:=by
 unfold clearS at hK;split at hK
 .rename_i e ht;split at hK
  .rename_i z hz;split at hK
   .rename_i i sz o l;split at hK
    .rename_i t' sz' el m hg;obtain⟨hc,hK1⟩:=q08 hK;simp only[Bool.and_eq_true]at hc;obtain⟨c1,c2,c3⟩:=hc;have e1:=q02 c1;subst e1;have hzs:=q02 c2;obtain⟨hlm,hK2⟩:=hK1;obtain⟨hil,ad,c,rfl,hlc,hcm,hadr⟩:=ha;have hob:=hm.ob i;rw[hg]at hob;have hrun0:∀w:World,(zeroValue e).run P w=.ok z w:=q71 hz;by_cases hl0:l=0
     .subst hl0
      have hr:(Builtin.clear_ #[t] ty #[.slice ad 0 c]).run P w=.ok (.tuple #[]) w:=by
       cases ad<;>simp[Builtin.clear_,run_underlying ht]
      refine⟨.tup [],_,ρ,_,w,hK2,Nat.le_refl _,Agree.refl _ _,?_,⟨[],rfl,trivial⟩,hr⟩;have:m=o:=by omega
      subst this;have hs:h.set i (.row t' sz el m)=h.set i (h.get i):=by rw[hg]
      exact hm.same rfl λj=>by
       rw[SH.get_set];by_cases hji:j=i
       .subst hji;rw[if_pos rfl,hg]
       .rw[if_neg hji]
     .have had:=hadr (by omega);subst had;obtain⟨hmx,⟨_,h0⟩|⟨hnl,hoff,cs,fz,hob,hfz,hcs,hmc,hcap,hall⟩⟩:=hob
      .omega
      have hown:(h.get i).own (ρ i):=by rw[hg];exact hnl
      have hpos:0<sz\/sz=0:=by omega
      have hlen:(Builtin.zeroCells z.cells l).toList.length=l*sz:=by simp[Builtin.zeroCells,hzs]
      have hlen':(Builtin.zeroCells z.cells l).size=l*sz:=by simpa using hlen
      have hone:∀v∈(Builtin.zeroCells z.cells l).toList,v.oneCell'=true:=by
       rcases hpos with hp|hp
       .exact zero_one c3 (by omega)
       .intro v hv;have:(Builtin.zeroCells z.cells l).toList=[]:=List.length_eq_zero_iff.1 (by rw[hlen,hp,Nat.mul_zero]);rw[this]at hv;cases hv
      have hb:o*sz+l*sz<=cs.size:=by
       rw[hcs,<-Nat.add_mul];exact Nat.mul_le_mul_right _ (by omega)
      have hst:=q2r P (ρ i).blk (o*sz) t' fz (Builtin.zeroCells z.cells l).toList 0 cs w hob hfz (by rw[hlen];omega) hone
      have hr:(Builtin.clear_ #[t] ty #[.slice (some ⟨(ρ i).blk,(ρ i).off+o*sz,none⟩) l c]).run P w=.ok (.tuple #[]) (w.setRow (ρ i).blk (cs.toList.take (o*sz+0)++(Builtin.zeroCells z.cells l).toList++cs.toList.drop (o*sz+0+(Builtin.zeroCells z.cells l).toList.length)).toArray):=by
       rw[hoff,Nat.zero_add];obtain⟨l',rfl⟩:∃l',l=l'+1:=⟨l-1,by omega⟩;simp[Builtin.clear_,hst,run_underlying ht,hrun0]
      refine⟨.tup [],_,ρ,_,_,hK2,Nat.le_refl _,Agree.refl _ _,?_,⟨[],rfl,trivial⟩,hr⟩;refine hm.setOwn hown hnl rfl rfl rfl (by simp[World.setRow]) (λj hj=>setRow_other _ _ _ _ hj) (setRow_heap w _ _ _ _ _ hob) ⟨by omega,.inr ⟨hnl,hoff,_,fz,rfl,?_,?_,by omega,hcap,λk hk=>?_⟩⟩
      .intro q hq;refine hfz q ?_;simp only[List.size_toArray,List.length_append,List.length_take,List.length_drop,Array.length_toList]at hq;omega
      .rw[<-hcs];simp only[List.size_toArray,List.length_append,List.length_take,List.length_drop,Array.length_toList];omega
      .obtain⟨v,q1,q2,q3⟩:=hall k (by omega);refine⟨v,q1,q2,λj y hy=>?_⟩;have:=q3 j y hy;have hj:j<sz:=by rw[<-q1];exact(List.getElem?_eq_some_iff.1 hy).1
       have hlt:0+k*sz+j<o*sz:=by
        have:=Nat.mul_le_mul_right sz (show k+1<=o by omega);rw[Nat.add_mul,Nat.one_mul]at this;omega
       rw[List.getElem?_toArray,List.append_assoc,List.getElem?_append_left (by rw[List.length_take,Array.length_toList];omega),List.getElem?_take,if_pos (by omega)];simpa using this
    .exact hK.elim
   .exact hK.elim
  .exact hK.elim
 .exact hK.elim
end
end Go.Sx
