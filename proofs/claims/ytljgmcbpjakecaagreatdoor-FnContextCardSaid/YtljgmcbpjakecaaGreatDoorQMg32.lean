/- Parts of the proof: Mk9 Md1 Md2 Md3 Md4 Me1. -/
import Derived.Test.YtljgmcbpjakecaaGreatDoorQMg31
section
/- Groups of hunks as the reference makes them; the text all in one. -/
open Go Go.Dn
namespace R.G
set_option linter.unusedVariables false
theorem rows_S1 (k:Int)(lines:TX)(hl:lines.length≤1000):f_S_l6Rows k lines=some ((rowsK k lines,()),()):=by
 have hf:=fix_fold (B:=fun d=>b_S_l6Rows_3 d.1 d.2.1 d.2.2.1 d.2.2.2.1 d.2.2.2.2.1) lines (fun(a:RW) s=>a++[((k,(s,())):PV Y_impl_Row)]) (fun a i=>(k,a,lines,(lines.length:Int),(i:Int),())) (fun a=>(a,())) (fun i a=>a.length=i)
  (fun i hi a hI=>by
    refine⟨by simp[hI],?_⟩
    show b_S_l6Rows_3 k a lines lines.length i=_
    unfold b_S_l6Rows_3
    rw[decide_eq_true (by omega:(i:Int)<(lines.length:Int)),cond_true,inB_lt hi,cond_true,toNat_cast,getD_of hi,roomB_ok (by simp only[List.length_cons,List.length_nil];omega),cond_true,wrap64 (x:=(i:Int)+1) (by omega) (by omega)]
    rfl)
  (fun a _=>by
    show b_S_l6Rows_3 k a lines lines.length lines.length=_
    unfold b_S_l6Rows_3
    rw[decide_eq_false (Int.lt_irrefl _),cond_false]) [] rfl
 rw[foldl_row] at hf
 unfold f_S_l6Rows
 rw[show w_S_l6Rows_3 (k,[],lines,(lines.length:Int),0,())=_ from hf.1]
 rfl
theorem more_fold {l:TX}:∀(s:HK) (a:St3),(s.foldl (stepR l) a).2.2=s.foldl (fun(m:Int) (x:PV Y_impl_Hunk)=>m+((List.length x.2.2.1:Int) -x.2.1)) a.2.2
 |[],a=>rfl
 |x::s,a=>by rw[List.foldl_cons,List.foldl_cons,more_fold s];rfl
theorem cut_seg {h:HK}{i j:Nat}(hij:i≤j)(hj:j≤h.length):cutL (i:Int) (j:Int) h=segL h i (j -i):=by
 unfold cutL segL
 rw[toNat_cast,toNat_cast,List.drop_take]
theorem one_S {l:TX}{h:HK}{w m:Int}{i:Nat}(hl:l.length≤40)(hg:hunksP (l.length:Int) h=true)(hw0:0≤w)(hw1:w≤20)(hi:i<h.length)(hm0: -10000≤m)(hm1:m≤10000):
 f_S_l6One l (segL h i (lastF h w 20 i+1 -i)) w m=some ((grp l h w i (lastF h w 20 i+1 -i) m,()),()):=by
 obtain⟨_,_,h20,_⟩:=hunk_facts hg
 obtain⟨l1,l2⟩:=lastF_lt h w 20 i hi
 have hG:=gOk hl hg hw0 hi
 have hn:i+(lastF h w 20 i+1 -i)≤h.length:=by omega
 have ho:=segOk hl hg hn
 have hsl:=segL_len hn
 have hr:=res_at (l:=l) (w:=w) (m:=m) hn (by omega)
 rw[show i+(lastF h w 20 i+1 -i) -1=lastF h w 20 i from by omega] at hr
 obtain⟨e1,e2,e3,e4,e5,e6⟩:=hG.e1 (lastF h w 20 i) l2
 obtain⟨_,_,f3,f4,f5,f6⟩:=hG.e1 i hi
 obtain⟨w1,_⟩:=wrap3 e3 e4 e5 e6 hw0 hw1
 obtain⟨_,w2⟩:=wrap3 f3 f4 f5 f6 hw0 hw1
 have hga0:=hG.a0
 have hga1:=hG.a1
 generalize hS:segL h i (lastF h w 20 i+1 -i)=s at*
 have hs0:s.getD 0 H0=h.getD i H0:=by rw[←hS,segL_at hn (by omega),Nat.add_zero]
 have hsn:s.getD (s.length -1) H0=h.getD (lastF h w 20 i) H0:=by
  rw[←hS,segL_len hn,segL_at hn (by omega),show i+(lastF h w 20 i+1 -i -1)=lastF h w 20 i from by omega]
 generalize hz:((0,(0,(([]:PV S_impl_Row),()))):PV Y_impl_Group)=z
 have hf:=fix_fold (B:=fun d=>b_S_l6One_6 d.1 d.2.1 d.2.2.1 d.2.2.2.1 d.2.2.2.2.1 d.2.2.2.2.2.1 d.2.2.2.2.2.2.1 d.2.2.2.2.2.2.2.1 d.2.2.2.2.2.2.2.2.1) s (stepR l)
  (fun a k=>(l,w,z,h.getD (lastF h w 20 i) H0,(at0 h w i,(at0 h w i+m,(a.1,()))),a.2.1,s,(s.length:Int),(k:Int),())) (fun a=>(l,w,z,h.getD (lastF h w 20 i) H0,(at0 h w i,(at0 h w i+m,(a.1,()))),a.2.1,())) (SegI l s m)
  (fun k hk a hI=>by
    have hx:s[k]=s.getD k H0:=(getD_of hk).symm
    have nx:=seg_next ho hk hI
    rw[hx]
    refine⟨nx,?_⟩
    obtain⟨q1,q2,q3,q4,q5⟩:=ho.at_ k hk
    have z1:=hI.rows
    have z2:=hI.at0
    have z4:=hI.next hk
    show b_S_l6One_6 l w z (h.getD (lastF h w 20 i) H0) (at0 h w i,(at0 h w i+m,(a.1,()))) a.2.1 s s.length k=_
    unfold b_S_l6One_6
    rw[decide_eq_true (by omega:(k:Int)<(s.length:Int)),cond_true,inB_lt hk,cond_true,toNat_cast]
    generalize s.getD k H0=x at*
    have c1:= @cutL_le l a.2.1 x.1
    have c2:= @cutL_le l x.1 (x.1+x.2.1)
    have hxl:x.1≤(l.length:Int):=Int.le_trans (Int.le_add_of_nonneg_right q2) q3
    rw[cutB_ok z2 z4 hxl,cond_true,rows_S1 1 _ (by omega),Option.bind_some]
    dsimp only
    rw[wrapE (L:=(l.length:Int)) (by omega) q1 q2 q3,roomB_ok (by rw[rowsK_len];omega),cond_true,cutB_ok q1 (Int.le_add_of_nonneg_right q2) q3,cond_true,rows_S1 2 _ (by omega),Option.bind_some]
    dsimp only
    rw[roomB_ok (by rw[List.length_append,rowsK_len,rowsK_len];omega),cond_true,rows_S1 3 _ (by omega),Option.bind_some]
    dsimp only
    rw[roomB_ok (by rw[List.length_append,List.length_append,rowsK_len,rowsK_len,rowsK_len];omega),cond_true,wrap64 (x:=(k:Int)+1) (by omega) (by omega)]
    rfl)
  (fun a _=>by
    show b_S_l6One_6 l w z (h.getD (lastF h w 20 i) H0) (at0 h w i,(at0 h w i+m,(a.1,()))) a.2.1 s s.length s.length=_
    unfold b_S_l6One_6
    rw[decide_eq_false (Int.lt_irrefl _),cond_false]) ([],at0 h w i,m)
  ⟨Nat.zero_le _,hG.a0,hG.a1,fun hk=>by rw[hs0];exact hG.a2,by show m -100*((0:Nat):Int)≤m;omega,by show m≤m+100*((0:Nat):Int);omega⟩
 obtain⟨hf,hI⟩:=hf
 have r0:=hI.rows
 have hres:s.foldl (stepR l) ([],at0 h w i,m)=res l h w i (lastF h w 20 i+1 -i) m:=by unfold res;rw[hS]
 rw[hres] at hf r0
 unfold f_S_l6One
 rw[show inB 0 s.length=true from inB_lt (i:=0) (by omega),cond_true,show((0:Int).toNat)=0 from rfl]
 rw[show(dflt Y_impl_Hunk:PV Y_impl_Hunk)=H0 from rfl] at*
 rw[hs0,w2]
 have ea:f_S_l1Most 0 ((h.getD i H0).1 -w)=some ((at0 h w i,()),()):=by
  unfold f_S_l1Most at0
  generalize (h.getD i H0).1=A
  by_cases c:A -w<0
  ·rw[if_pos c,decide_eq_true c];rfl
  ·rw[if_neg c,decide_eq_false c];rfl
 have ee:f_S_l1Least (l.length:Int) ((h.getD (lastF h w 20 i) H0).1+(h.getD (lastF h w 20 i) H0).2.1+w)=some ((end0 l h w (lastF h w 20 i),()),()):=by
  unfold f_S_l1Least end0
  generalize (h.getD (lastF h w 20 i) H0).1+(h.getD (lastF h w 20 i) H0).2.1+w=A
  by_cases c:(l.length:Int)<A
  ·rw[if_pos c,decide_eq_true c];rfl
  ·rw[if_neg c,decide_eq_false c];rfl
 rw[ea,Option.bind_some]
 dsimp only
 rw[show IntKind.wrap .i64 ((s.length:Int) -1)=((s.length -1:Nat):Int) from by rw[wrap64 (by omega) (by omega)];omega,inB_lt (by omega),cond_true,toNat_cast,hsn,wrap64 (x:=at0 h w i+m) (by omega) (by omega),hz]
 rw[show w_S_l6One_6 (l,w,z,h.getD (lastF h w 20 i) H0,(at0 h w i,(at0 h w i+m,(([]:PV S_impl_Row),()))),at0 h w i,s,(s.length:Int),0,())=_ from hf,Option.bind_some]
 dsimp only
 rw[w1,ee,Option.bind_some]
 dsimp only
 rw[hr,cutB_ok (Int.add_nonneg e3 e5) e1 e2,cond_true]
 have c3:= @cutL_le l ((h.getD (lastF h w 20 i) H0).1+(h.getD (lastF h w 20 i) H0).2.1) (end0 l h w (lastF h w 20 i))
 rw[rows_S1 1 _ (by omega),Option.bind_some]
 dsimp only
 rw[roomB_ok (by rw[rowsK_len];omega),cond_true]
 unfold grp
 rw[show i+(lastF h w 20 i+1 -i) -1=lastF h w 20 i from by omega,hr]
theorem step_S {l:TX}{h:HK}{w m:Int}{out:GR}{i:Nat}(hl:l.length≤40)(hg:hunksP (l.length:Int) h=true)(hw0:0≤w)(hw1:w≤20)(hi:i<h.length)(hm0: -5000≤m)(hm1:m≤5000)(hout:out.length≤100):
 b_S_l6Groups_4 l h w out m i=some (.inl (l,h,w,out++[grp l h w i (lastF h w 20 i+1 -i) m],(res l h w i (lastF h w 20 i+1 -i) m).2.2,((lastF h w 20 i+1:Nat):Int),())):=by
 obtain⟨_,_,h20,_⟩:=hunk_facts hg
 obtain⟨l1,l2⟩:=lastF_lt h w 20 i hi
 have hn:i+(lastF h w 20 i+1 -i)≤h.length:=by omega
 have ho:=segOk hl hg hn
 have hsl:=segL_len hn
 have hone:=one_S hl hg hw0 hw1 hi (m:=m) (by omega) (by omega)
 have hc:cutL (i:Int) ((lastF h w 20 i+1:Nat):Int) h=segL h i (lastF h w 20 i+1 -i):=cut_seg (by omega) (by omega)
 have hres:(res l h w i (lastF h w 20 i+1 -i) m).2.2=(segL h i (lastF h w 20 i+1 -i)).foldl (fun(m:Int) (x:PV Y_impl_Hunk)=>m+((List.length x.2.2.1:Int) -x.2.1)) m:=by
  unfold res
  rw[more_fold]
 rw[hres]
 unfold b_S_l6Groups_4
 rw[decide_eq_true (by omega:(i:Int)<(h.length:Int)),cond_true,show IntKind.wrap .i64 ((i:Int)+1)=((i+1:Nat):Int) from by rw[wrap64 (by omega) (by omega)];omega,last_S h20 20 i hi (by omega),Option.bind_some]
 dsimp only
 rw[cutB_ok (by omega) (by omega) (by omega),cond_true,hc,hone,Option.bind_some]
 dsimp only
 rw[roomB_ok (by simp only[List.length_cons,List.length_nil];omega),cond_true,cond_true]
 generalize segL h i (lastF h w 20 i+1 -i)=s at*
 generalize out++[grp l h w i (lastF h w 20 i+1 -i) m]=out2
 generalize ((lastF h w 20 i+1:Nat):Int)=jj
 have hf:=fix_fold (B:=fun d=>b_S_l6Groups_10 d.1 d.2.1 d.2.2.1 d.2.2.2.1 d.2.2.2.2.1 d.2.2.2.2.2.1 d.2.2.2.2.2.2.1 d.2.2.2.2.2.2.2.1 d.2.2.2.2.2.2.2.2.1) s (fun(m:Int) (x:PV Y_impl_Hunk)=>m+((List.length x.2.2.1:Int) -x.2.1))
  (fun a k=>(l,h,w,out2,a,jj,s,(s.length:Int),(k:Int),())) (fun a=>(l,h,w,out2,a,jj,())) (fun k a=>-5000 -100*(k:Int)≤a∧a≤5000+100*(k:Int))
  (fun k hk a hI=>by
    have hx:s[k]=s.getD k H0:=(getD_of hk).symm
    have h20s:=ho.len
    obtain⟨q1,q2,q3,q4,q5⟩:=ho.at_ k hk
    rw[hx]
    have hg40:(s.getD k H0).2.1≤40:=Int.le_trans (Int.le_trans (Int.le_add_of_nonneg_left q1) q3) (by omega)
    have key:∀v z:Int,0≤v→v≤40→0≤z→z≤40→-5000 -100*((k+1:Nat):Int)≤a+(v -z)∧a+(v -z)≤5000+100*((k+1:Nat):Int):=fun v z _ _ _ _=>by omega
    refine⟨key _ _ (Int.natCast_nonneg _) (by omega) q2 hg40,?_⟩
    show b_S_l6Groups_10 l h w out2 a jj s s.length k=_
    unfold b_S_l6Groups_10
    rw[decide_eq_true (by omega:(k:Int)<(s.length:Int)),cond_true,inB_lt hk,cond_true,toNat_cast]
    rw[show(dflt Y_impl_Hunk:PV Y_impl_Hunk)=H0 from rfl,wrapM (by omega) (by omega) (Int.natCast_nonneg _) (by omega) q2 hg40,wrap64 (x:=(k:Int)+1) (by omega) (by omega)]
    rfl)
  (fun a _=>by
    show b_S_l6Groups_10 l h w out2 a jj s s.length s.length=_
    unfold b_S_l6Groups_10
    rw[decide_eq_false (Int.lt_irrefl _),cond_false]) m ⟨by omega,by omega⟩
 rw[show w_S_l6Groups_10 (l,h,w,out2,m,jj,s,(s.length:Int),0,())=_ from hf.1,Option.bind_some]
theorem groups_loop_S {l:TX}{h:HK}{w:Int}(hl:l.length≤40)(hg:hunksP (l.length:Int) h=true)(hw0:0≤w)(hw1:w≤20):∀(f i:Nat) (out:GR) (m:Int),h.length -i≤f→i≤h.length→out.length≤i→-100*(i:Int)≤m→m≤100*(i:Int)→
 w_S_l6Groups_4 (l,h,w,out,m,(i:Int),())=some (out++groupsF l h w f i m,()):=by
 obtain⟨_,_,h20,_⟩:=hunk_facts hg
 have stop:∀(i:Nat) (out:GR) (m:Int),¬i<h.length→w_S_l6Groups_4 (l,h,w,out,m,(i:Int),())=some (out,()):=by
  intro i out m hi'
  refine fix_end (B:=fun d=>b_S_l6Groups_4 d.1 d.2.1 d.2.2.1 d.2.2.2.1 d.2.2.2.2.1 d.2.2.2.2.2.1) ?_
  show b_S_l6Groups_4 l h w out m i=_
  unfold b_S_l6Groups_4
  rw[decide_eq_false (by omega:¬((i:Int)<(h.length:Int))),cond_false]
 intro f
 induction f with
 |zero=>
  intro i out m hf hi ho hm0 hm1
  rw[stop i out m (by omega)]
  simp[groupsF]
 |succ f ih=>
  intro i out m hf hi ho hm0 hm1
  by_cases hi':i<h.length
  ·obtain⟨s2,s3,s4⟩:=step_bd (m:=m) hl hg hw0 hi'
   have s1:=step_S (out:=out) hl hg hw0 hw1 hi' (m:=m) (by omega) (by omega) (by omega)
   obtain⟨l1,l2⟩:=lastF_lt h w 20 i hi'
   refine Eq.trans (fix_go (B:=fun d=>b_S_l6Groups_4 d.1 d.2.1 d.2.2.1 d.2.2.2.1 d.2.2.2.2.1 d.2.2.2.2.2.1) s1) ?_
   refine Eq.trans (ih (lastF h w 20 i+1) _ _ (by omega) (by omega) (by rw[List.length_append,List.length_cons,List.length_nil];omega) (by omega) (by omega)) ?_
   simp only[groupsF,if_pos hi',List.append_assoc,List.cons_append,List.nil_append]
  ·rw[stop i out m hi']
   simp[groupsF,hi']
theorem rowsK_sm (k:Int){l:TX}(h:∀s∈l,s.length≤1048576):∀r∈rowsK k l,List.length (r:PV Y_impl_Row).2.1≤1048576:=by
 intro r hr
 unfold rowsK at hr
 obtain⟨s,hs,rfl⟩:=List.mem_map.1 hr
 exact h s hs
theorem seg_sm {l:TX}(hl:∀s∈l,s.length≤1048576):∀(s:HK) (a:St3),(∀x∈s,∀y∈((x:PV Y_impl_Hunk).2.2.1:TX),y.length≤1048576)→(∀r∈a.1,List.length (r:PV Y_impl_Row).2.1≤1048576)→∀r∈(s.foldl (stepR l) a).1,List.length (r:PV Y_impl_Row).2.1≤1048576
 |[],a,_,h=>h
 |x::s,a,hx,h=>by
  rw[List.foldl_cons]
  refine seg_sm hl s _ (fun y hy=>hx y (List.mem_cons_of_mem _ hy)) fun r hr=> ?_
  have hr:r∈((a.1++rowsK 1 (cutL a.2.1 x.1 l))++rowsK 2 (cutL x.1 (x.1+x.2.1) l))++rowsK 3 x.2.2.1:=hr
  rcases List.mem_append.1 hr with hr|hr
  ·rcases List.mem_append.1 hr with hr|hr
   ·rcases List.mem_append.1 hr with hr|hr
    ·exact h r hr
    ·exact rowsK_sm 1 (fun s hs=>hl s (cut_mem hs)) r hr
   ·exact rowsK_sm 2 (fun s hs=>hl s (cut_mem hs)) r hr
  ·exact rowsK_sm 3 (hx x (List.mem_cons_self ..)) r hr
def SmB (l:TX):Prop:=∀s∈l,s.length≤1048576
def SmBH (h:HK):Prop:=∀x∈h,∀y∈((x:PV Y_impl_Hunk).2.2.1:TX),y.length≤1048576
theorem seg_mem {h:HK}{i n:Nat}{x:PV Y_impl_Hunk}(hx:x∈segL h i n):x∈h:=List.mem_of_mem_drop (List.mem_of_mem_take hx)
theorem groupsF_sm {l:TX}{h:HK}{w:Int}(hl:l.length≤40)(hg:hunksP (l.length:Int) h=true)(hw0:0≤w)(hw1:w≤20)(hb:SmB l)(hbh:SmBH h):∀(f i:Nat) (m:Int),i≤h.length→-100*(i:Int)≤m→m≤100*(i:Int)→
 (groupsF l h w f i m).length≤f∧∀x∈groupsF l h w f i m,SmR (x:PV Y_impl_Group).2.2.1:=by
 obtain⟨_,_,h20,_⟩:=hunk_facts hg
 intro f
 induction f with
 |zero=>exact fun i m _ _ _=>⟨Nat.le_refl _,fun x hx=>by cases hx⟩
 |succ f ih=>
  intro i m hi hm0 hm1
  simp only[groupsF]
  by_cases hi':i<h.length
  ·rw[if_pos hi']
   obtain⟨s2,s3,s4⟩:=step_bd (m:=m) hl hg hw0 hi'
   obtain⟨l1,l2⟩:=lastF_lt h w 20 i hi'
   obtain⟨i1,i2⟩:=ih (lastF h w 20 i+1) (res l h w i (lastF h w 20 i+1 -i) m).2.2 (by omega) (by omega) (by omega)
   refine⟨by rw[List.length_cons];omega,fun x hx=> ?_⟩
   rcases List.mem_cons.1 hx with rfl|hx
   ·have c3:= @cutL_le l (res l h w i (lastF h w 20 i+1 -i) m).2.1 (end0 l h w (i+(lastF h w 20 i+1 -i) -1))
    refine⟨?_,fun r hr=> ?_⟩
    ·show List.length (_++rowsK 1 _)≤_
     rw[List.length_append,rowsK_len]
     omega
    ·have hr:r∈(res l h w i (lastF h w 20 i+1 -i) m).1++rowsK 1 (cutL (res l h w i (lastF h w 20 i+1 -i) m).2.1 (end0 l h w (i+(lastF h w 20 i+1 -i) -1)) l):=hr
     rcases List.mem_append.1 hr with hr|hr
     ·unfold res at hr
      exact seg_sm hb _ _ (fun x hx=>hbh x (seg_mem hx)) (fun r hr=>by cases hr) r hr
     ·exact rowsK_sm 1 (fun s hs=>hb s (cut_mem hs)) r hr
   ·exact i2 x hx
  ·rw[if_neg hi']
   exact⟨Nat.zero_le _,fun x hx=>by cases hx⟩
def goOk (l:TX)(h:HK)(w:Int):Bool:=patchOk l h&&inI w 0 20
def goR (l:TX)(h:HK)(w:Int):GR:=bif goOk l h w then groupsF l h w 20 0 0 else[]
theorem goOk_at {l:TX}{h:HK}{w:Int}(hk:goOk l h w=true):l.length≤40∧hunksP (l.length:Int) h=true∧0≤w∧w≤20∧h.length≤20:=by
 unfold goOk patchOk inI at hk
 simp only[Bool.and_eq_true,decide_eq_true_eq] at hk
 obtain⟨⟨h1,h2,h3⟩,h4,h5⟩:=hk
 obtain⟨_,_,h20,_⟩:=hunk_facts h2
 exact⟨goodP_len h1,h2,h4,h5,h20⟩
theorem groupsOf_S {l:TX}{h:HK}{w:Int}(hl:Sm l)(hh:SmH h):f_S_GroupsOf l h w=some ((goR l h w,goOk l h w,()),()):=by
 unfold f_S_GroupsOf goR
 rw[patch_S hl hh,Option.bind_some]
 dsimp only
 cases hp:patchOk l h
 ·unfold goOk;rw[hp];rfl
 ·rw[Bool.not_true,cond_false,in_S,Option.bind_some,Option.bind_some]
  dsimp only
  rw[show(decide (w≥0)&&decide (w≤20))=inI w 0 20 from rfl]
  cases hw:inI w 0 20
  ·unfold goOk;rw[hp,hw];rfl
  ·have hk:goOk l h w=true:=by unfold goOk;rw[hp,hw];rfl
   obtain⟨k1,k2,k3,k4,k5⟩:=goOk_at hk
   rw[hk,Bool.not_true,cond_false,cond_true]
   unfold f_S_l6Groups
   rw[show w_S_l6Groups_4 (l,h,w,[],0,0,())=_ from groups_loop_S k1 k2 k3 k4 20 0 [] 0 (by omega) (by omega) (Nat.le_refl _) (by simp) (by simp),Option.bind_some,Option.bind_some]
   rfl
theorem goR_sm {l:TX}{h:HK}{w:Int}(hb:SmB l)(hbh:SmBH h):SmG (goR l h w):=by
 unfold goR
 cases hk:goOk l h w
 ·exact⟨by simp,fun x hx=>by cases hx⟩
 ·obtain⟨k1,k2,k3,k4,k5⟩:=goOk_at hk
  obtain⟨q1,q2⟩:=groupsF_sm k1 k2 k3 k4 hb hbh 20 0 0 (by omega) (by simp) (by simp)
  exact⟨by rw[cond_true];omega,q2⟩
end R.G
end

section
/- The drawn inputs: choices, lines, hunks; what is drawn is small. -/
open Go Go.Dn
namespace R.G
set_option linter.unusedVariables false
abbrev Cur:=PV Y_spec_l1Cur
structure CurOk (K:Int)(c:Cur):Prop where
 by_:∀x∈(c.1:List Int),0≤x∧x≤255
 a0:(0:Int)≤c.2.1
 a1:(c.2.1:Int)≤K
theorem CurOk.up {K K':Int}{c:Cur}(h:CurOk K c)(hk:K≤K'):CurOk K' c:=⟨h.by_,h.a0,Int.le_trans h.a1 hk⟩
theorem wrapU {n:Nat}(h:n≤255):IntKind.wrap .u64 (n:Int)=n:=by
 simp[IntKind.wrap,IntKind.min,IntKind.max,IntKind.signed,IntKind.bits]
 omega
theorem and255 (X:Int):(BitVec.ofInt (IntKind.bits .u64) X&&&BitVec.ofInt (IntKind.bits .u64) 255).toNat≤255:=by
 rw[BitVec.toNat_and]
 exact Nat.le_trans Nat.and_le_right (by decide)
theorem and255w (X:Int):0≤IntKind.wrap .i64 (IntKind.wrap .u64 ((BitVec.ofInt (IntKind.bits .u64) X&&&BitVec.ofInt (IntKind.bits .u64) 255).toNat:Int))∧IntKind.wrap .i64 (IntKind.wrap .u64 ((BitVec.ofInt (IntKind.bits .u64) X&&&BitVec.ofInt (IntKind.bits .u64) 255).toNat:Int))≤255:=by
 have h:=and255 X
 generalize (BitVec.ofInt (IntKind.bits .u64) X&&&BitVec.ofInt (IntKind.bits .u64) 255).toNat=n at*
 rw[wrapU h,wrap64 (by omega) (by omega)]
 omega
theorem next_ok {K:Int}{c:Cur}(h:CurOk K c)(hK:K≤4611686018427387904):∃(r:Int) (c':Cur),f_S_l1Cur_next c=some ((r,()),(c',()))∧0≤r∧r≤255∧CurOk (K+1) c':=by
 obtain⟨code,at_,seed,u⟩:=c
 obtain⟨h1,h2,h3⟩:=h
 have h1:∀x∈(code:List Int),0≤x∧x≤255:=h1
 have h2:(0:Int)≤at_:=h2
 have h3:(at_:Int)≤K:=h3
 have e:∀a:Int,0≤a→a≤K→IntKind.wrap .i64 (a+1)=a+1∧0≤a+1∧a+1≤K+1:=fun a _ _=>⟨wrap64 (by omega) (by omega),by omega,by omega⟩
 obtain⟨e1,e2,e3⟩:=e _ h2 h3
 have fin:∀(b:Int),0≤b→b≤255→∃(r:Int) (c':Cur),(bif (decide ((IntKind.wrap .i64 (at_+1))≤(List.length code:Int))) then
  some ((b,()),((code,((IntKind.wrap .i64 (at_+1)),((IntKind.wrap .u64 ((IntKind.wrap .u64 ((IntKind.wrap .u64 (seed*6364136223846793005))+(IntKind.wrap .u64 b)))+1442695040888963407)),u))),()))
  else
   bif decide ((0:Int)≤40) then
    some (((IntKind.wrap .i64 (IntKind.wrap .u64 ((BitVec.ofInt (IntKind.bits .u64) ((IntKind.wrap .u64 ((IntKind.wrap .u64 ((IntKind.wrap .u64 (seed*6364136223846793005))+(IntKind.wrap .u64 b)))+1442695040888963407)).fdiv (2^(min (40:Int).toNat (IntKind.bits .u64))))&&&BitVec.ofInt (IntKind.bits .u64) 255).toNat:Int))),()),((code,((IntKind.wrap .i64 (at_+1)),((IntKind.wrap .u64 ((IntKind.wrap .u64 ((IntKind.wrap .u64 (seed*6364136223846793005))+(IntKind.wrap .u64 b)))+1442695040888963407)),u))),()))
   else
    none:Option (PVs [(.int .i64)]×PVs [Y_spec_l1Cur]))=some ((r,()),(c',()))∧0≤r∧r≤255∧CurOk (K+1) c':=by
  intro b b0 b1
  cases decide ((IntKind.wrap .i64 (at_+1))≤(List.length code:Int))
  ·rw[cond_false,decide_eq_true (by omega:(0:Int)≤40),cond_true]
   refine⟨_,_,rfl,(and255w _).1,(and255w _).2,h1,?_,?_⟩
   ·show 0≤IntKind.wrap .i64 (at_+1);rw[e1];exact e2
   ·show IntKind.wrap .i64 (at_+1)≤K+1;rw[e1];exact e3
  ·rw[cond_true]
   refine⟨_,_,rfl,b0,b1,h1,?_,?_⟩
   ·show 0≤IntKind.wrap .i64 (at_+1);rw[e1];exact e2
   ·show IntKind.wrap .i64 (at_+1)≤K+1;rw[e1];exact e3
 unfold f_S_l1Cur_next
 dsimp only
 cases hc:decide (at_<(List.length code:Int))
 ·rw[cond_false,Option.bind_some]
  exact fin 0 (by omega) (by omega)
 ·have hlt:at_<(List.length code:Int):=of_decide_eq_true hc
  obtain⟨i,rfl⟩:∃i:Nat,at_=(i:Int):=⟨at_.toNat,(Int.toNat_of_nonneg h2).symm⟩
  have hi:i<List.length code:=Int.ofNat_lt.1 hlt
  obtain⟨b0,b1⟩:=h1 _ (List.getElem_mem hi)
  rw[cond_true,inB_lt hi,cond_true,Option.bind_some]
  dsimp only
  rw[toNat_cast,getD_of hi]
  have e4:∀b:Int,0≤b→b≤255→IntKind.wrap .i64 b=b:=fun b _ _=>wrap64 (by omega) (by omega)
  rw[e4 _ b0 b1]
  exact fin _ b0 b1
theorem pick_ok {K n:Int}{c:Cur}(h:CurOk K c)(hK:K≤4611686018427387000)(hn:n≤1000000):∃(r:Int) (c':Cur),f_S_l1Cur_pick c n=some ((r,()),(c',()))∧0≤r∧(1≤n→r<n)∧(n≤1→r=0)∧CurOk (K+2) c':=by
 unfold f_S_l1Cur_pick
 by_cases h1:n≤1
 ·rw[decide_eq_true h1,cond_true]
  exact⟨0,c,rfl,Int.le_refl _,fun _=>by omega,fun _=>rfl,h.up (by omega)⟩
 ·rw[decide_eq_false h1,cond_false]
  obtain⟨r,c1,q1,q2,q3,q4⟩:=next_ok h (by omega)
  rw[q1,Option.bind_some]
  dsimp only
  have fin:∀(x:Int) (c2:Cur),0≤x→CurOk (K+2) c2→∃(r:Int) (c':Cur),(bif n==0 then none else some ((x.tmod n,()),(c2,())):Option (PVs [(.int .i64)]×PVs [Y_spec_l1Cur]))=some ((r,()),(c',()))∧0≤r∧(1≤n→r<n)∧(n≤1→r=0)∧CurOk (K+2) c':=by
   intro x c2 hx hc
   rw[show(n==0)=false from by rw[beq_eq_false_iff_ne];omega,cond_false]
   exact⟨_,_,rfl,Int.tmod_nonneg n hx,fun _=>Int.tmod_lt_of_pos x (by omega),fun q=>absurd q h1,hc⟩
  by_cases h2:n>200
  ·obtain⟨r2,c2,p1,p2,p3,p4⟩:=next_ok q4 (by omega)
   rw[decide_eq_true h2,cond_true,p1,Option.bind_some,Option.bind_some]
   dsimp only
   rw[wrap64 (x:=r*256) (by omega) (by omega),wrap64 (x:=r*256+r2) (by omega) (by omega)]
   exact fin _ _ (by omega) (p4.up (by omega))
  ·rw[decide_eq_false h2,cond_false,Option.bind_some]
   exact fin _ _ q2 (q4.up (by omega))
theorem one_ok {K n:Int}{c:Cur}(h:CurOk K c)(hK:K≤4611686018427387000)(hn:n≤1000000):∃(r:Bool) (c':Cur),f_S_l1Cur_one c n=some ((r,()),(c',()))∧CurOk (K+2) c':=by
 obtain⟨r,c1,q1,_,_,_,q4⟩:=pick_ok h hK hn
 unfold f_S_l1Cur_one
 rw[q1,Option.bind_some]
 exact⟨_,_,rfl,q4⟩
def wl:List (List UInt8):=[[97],[98],[99],[100],[],[46],[46,46],[111,110,101,32,116,119,111],[43,120],[45,121],[92,32,122],[64,64]]
theorem wl_sm:∀i<12,(wl.getD i []).length≤8:=by decide
def wl3:List (List UInt8):=[[97],[101,110,100],[46]]
theorem wl3_sm:∀i<3,1≤(wl3.getD i []).length∧(wl3.getD i []).length≤8:=by decide
theorem line_ok {K:Int}{c:Cur}(h:CurOk K c)(hK:K≤4611686018427387000):∃(s:List UInt8) (c':Cur),f_S_l1Cur_line c=some ((s,()),(c',()))∧s.length≤8∧CurOk (K+2) c':=by
 obtain⟨r,c1,q1,q2,q3,_,q4⟩:=pick_ok (n:=12) h hK (by omega)
 have e:f_S_l1Cur_line c=(f_S_l1Cur_pick c 12).bind fun r1=>bif inB r1.1.1 12 then some ((wl.getD r1.1.1.toNat [],()),(r1.2.1,())) else none:=rfl
 obtain⟨i,rfl⟩:∃i:Nat,r=(i:Int):=⟨r.toNat,(Int.toNat_of_nonneg q2).symm⟩
 have hi:i<12:=by have:=q3 (by omega);omega
 rw[e,q1,Option.bind_some]
 dsimp only
 rw[show inB (i:Int) 12=true from inB_lt hi,cond_true,toNat_cast]
 exact⟨_,_,rfl,wl_sm i hi,q4⟩
def SmL (l:TX):Prop:=∀s∈l,1≤s.length∧s.length≤9
theorem SmL.snoc {l:TX}{s:List UInt8}(h:SmL l)(h1:1≤s.length)(h2:s.length≤9):SmL (l++[s]):=by
 intro x hx
 rcases List.mem_append.1 hx with hx|hx
 ·exact h x hx
 ·obtain rfl:=List.mem_singleton.1 hx
  exact⟨h1,h2⟩
theorem SmL.sm {l:TX}(h:SmL l)(hl:l.length≤1000):Sm l:=⟨by omega,fun s hs=>by have:=h s hs;omega⟩
theorem text_loop:∀(n:Nat) {K:Int} {c:Cur} {l:TX},CurOk K c→K+2*(n:Int)≤4611686018427380000→n≤100→l.length+n≤500→SmL l→∃(c':Cur) (l':TX),w_S_l1Cur_text_3 (c,l,(n:Int),())=some (c',l',())∧l'.length=l.length+n∧SmL l'∧CurOk (K+2*n) c'
 |0,K,c,l,h,hK,hn,hl,hs=>by
  refine⟨c,l,fix_end (B:=fun d=>b_S_l1Cur_text_3 d.1 d.2.1 d.2.2.1) ?_,rfl,hs,h.up (by omega)⟩
  show b_S_l1Cur_text_3 c l 0=_
  unfold b_S_l1Cur_text_3
  rw[decide_eq_false (by omega:¬((0:Int)>0)),cond_false]
 |n+1,K,c,l,h,hK,hn,hl,hs=>by
  obtain⟨s,c1,q1,q2,q3⟩:=line_ok h (by omega)
  obtain⟨c',l',p1,p2,p3,p4⟩:=text_loop n (c:=c1) (l:=l++[s++[10]]) q3 (by omega) (by omega) (by simp;omega) (hs.snoc (by simp) (by simp;omega))
  refine⟨c',l',?_,by rw[p2];simp;omega,p3,p4.up (by omega)⟩
  rw[←p1]
  refine fix_go (B:=fun d=>b_S_l1Cur_text_3 d.1 d.2.1 d.2.2.1) ?_
  show b_S_l1Cur_text_3 c l ((n+1:Nat):Int)=_
  unfold b_S_l1Cur_text_3
  rw[decide_eq_true (by omega:((n+1:Nat):Int)>0),cond_true,q1,Option.bind_some]
  dsimp only
  rw[decide_eq_true (by rw[List.length_cons,List.length_nil];omega),cond_true,roomB_ok (by rw[List.length_cons,List.length_nil];omega),cond_true,show IntKind.wrap .i64 (((n+1:Nat):Int) -1)=(n:Int) from by rw[wrap64 (by omega) (by omega)];omega]
theorem text_ok {K:Int}{c:Cur}(h:CurOk K c)(hK:K≤4611686018427370000):∃(l:TX) (c':Cur),f_S_l1Cur_text c=some ((l,()),(c',()))∧l.length≤9∧SmL l∧CurOk (K+30) c':=by
 obtain⟨r,c1,q1,q2,q3,_,q4⟩:=pick_ok (n:=9) h (by omega) (by omega)
 obtain⟨n,rfl⟩:∃n:Nat,r=(n:Int):=⟨r.toNat,(Int.toNat_of_nonneg q2).symm⟩
 have hn:n<9:=by have:=q3 (by omega);omega
 obtain⟨c2,l,p1,p2,p3,p4⟩:=text_loop n (l:=[]) q4 (by omega) (by omega) (by simp;omega) (fun s hs=>by cases hs)
 obtain⟨b,c3,o1,o2⟩:=one_ok (n:=5) p4 (by omega) (by omega)
 have hl:l.length≤8:=by rw[p2];simp;omega
 unfold f_S_l1Cur_text
 rw[q1,Option.bind_some]
 dsimp only
 rw[p1,Option.bind_some]
 dsimp only
 rw[o1,Option.bind_some]
 dsimp only
 cases b
 ·rw[cond_false,Option.bind_some]
  exact⟨_,_,rfl,by show List.length l≤9;omega,p3,o2.up (by omega)⟩
 ·obtain⟨r4,c4,s1,s2,s3,_,s4⟩:=pick_ok (n:=3) o2 (by omega) (by omega)
  obtain⟨i,rfl⟩:∃i:Nat,r4=(i:Int):=⟨r4.toNat,(Int.toNat_of_nonneg s2).symm⟩
  have hi:i<3:=by have:=s3 (by omega);omega
  rw[cond_true,show([[97],[101,110,100],[46]].length:Int)=3 from rfl,s1,Option.bind_some]
  dsimp only
  rw[show inB (i:Int) [[97],[101,110,100],[46]].length=true from inB_lt hi,cond_true,roomB_ok (by rw[List.length_cons,List.length_nil];omega),cond_true,Option.bind_some,toNat_cast]
  have hw:=wl3_sm i hi
  exact⟨_,_,rfl,by rw[List.length_append,List.length_cons,List.length_nil];omega,p3.snoc hw.1 (by have:=hw.2;show List.length (wl3.getD i [])≤9;omega),s4.up (by omega)⟩
def SmX (x:PV Y_impl_Hunk):Prop:=List.length x.2.2.1≤200∧SmL x.2.2.1
theorem new_loop:∀(n:Nat) {K:Int} {c:Cur} {x:PV Y_impl_Hunk} (l:TX) (out:HK) (p len:Int) (bb:Bool),CurOk K c→K+2*(n:Int)≤4611686018427380000→n≤10→List.length x.2.2.1+n≤100→SmL x.2.2.1→
 ∃(c':Cur) (x':PV Y_impl_Hunk),w_S_l1Cur_hunks_6 (c,l,out,p,x,(n:Int),len,bb,())=some (c',l,out,p,x',len,bb,())∧x'.1=x.1∧x'.2.1=x.2.1∧List.length x'.2.2.1=List.length x.2.2.1+n∧SmL x'.2.2.1∧CurOk (K+2*n) c'
 |0,K,c,x,l,out,p,len,bb,h,hK,hn,hl,hs=>by
  refine⟨c,x,fix_end (B:=fun d=>b_S_l1Cur_hunks_6 d.1 d.2.1 d.2.2.1 d.2.2.2.1 d.2.2.2.2.1 d.2.2.2.2.2.1 d.2.2.2.2.2.2.1 d.2.2.2.2.2.2.2.1) ?_,rfl,rfl,rfl,hs,h.up (by omega)⟩
  show b_S_l1Cur_hunks_6 c l out p x 0 len bb=_
  unfold b_S_l1Cur_hunks_6
  rw[decide_eq_false (by omega:¬((0:Int)>0)),cond_false]
 |n+1,K,c,x,l,out,p,len,bb,h,hK,hn,hl,hs=>by
  obtain⟨s,c1,q1,q2,q3⟩:=line_ok h (by omega)
  obtain⟨c',x',p1,p2,p3,p4,p5,p6⟩:=new_loop n (c:=c1) (x:=(x.1,(x.2.1,((x.2.2.1++[s++[10]]),x.2.2.2)))) l out p len bb q3 (by omega) (by omega) (by show List.length (x.2.2.1++[s++[10]])+n≤100;rw[List.length_append,List.length_cons,List.length_nil];omega) (hs.snoc (by simp) (by simp;omega))
  refine⟨c',x',?_,p2,p3,by rw[p4];show List.length (x.2.2.1++[s++[10]])+n=_;rw[List.length_append,List.length_cons,List.length_nil];omega,p5,p6.up (by omega)⟩
  rw[←p1]
  refine fix_go (B:=fun d=>b_S_l1Cur_hunks_6 d.1 d.2.1 d.2.2.1 d.2.2.2.1 d.2.2.2.2.1 d.2.2.2.2.2.1 d.2.2.2.2.2.2.1 d.2.2.2.2.2.2.2.1) ?_
  show b_S_l1Cur_hunks_6 c l out p x ((n+1:Nat):Int) len bb=_
  unfold b_S_l1Cur_hunks_6
  rw[decide_eq_true (by omega:((n+1:Nat):Int)>0),cond_true,q1,Option.bind_some]
  dsimp only
  rw[decide_eq_true (by rw[List.length_cons,List.length_nil];omega),cond_true,roomB_ok (by rw[List.length_cons,List.length_nil];omega),cond_true,show IntKind.wrap .i64 (((n+1:Nat):Int) -1)=(n:Int) from by rw[wrap64 (by omega) (by omega)];omega]
theorem least_S (a b:Int):f_S_l1Least a b=some ((if a<b then a else b,()),()):=by
 unfold f_S_l1Least
 by_cases h:a<b
 ·rw[decide_eq_true h,if_pos h];rfl
 ·rw[decide_eq_false h,if_neg h];rfl
theorem whole_S {l:TX}(hl:l.length≤100)(hs:SmL l):∃b:Bool,f_S_l1Whole l=some ((b,()),()):=by
 unfold f_S_l1Whole
 by_cases h:l.length=0
 ·rw[show((l.length:Int)==0)=true from by rw[h];rfl]
  exact⟨_,rfl⟩
 ·have hi:l.length -1<l.length:=by omega
  obtain⟨h1,h2⟩:=hs _ (List.getElem_mem hi)
  rw[show((l.length:Int)==0)=false from by rw[beq_eq_false_iff_ne];omega,cond_false,show IntKind.wrap .i64 ((l.length:Int) -1)=((l.length -1:Nat):Int) from by rw[wrap64 (by omega) (by omega)];omega,inB_lt hi,cond_true,toNat_cast,getD_of hi,ends_S _ h1 (by omega),Option.bind_some]
  exact⟨_,rfl⟩
def SmHK (h:HK):Prop:=∀x∈h,SmX x
theorem hunks_loop {l:TX}(hl:l.length≤100)(hs:SmL l):∀(f:Nat) {K:Int} {c:Cur} {out:HK} {p:Int},CurOk K c→K+20*(f:Int)≤4611686018427300000→f≤200→(l.length:Int)+1 -p≤f→0≤p→p≤1000→out.length≤6→SmHK out→
 ∃(c':Cur) (h:HK),w_S_l1Cur_hunks_3 (c,l,out,p,())=some (c',h,())∧h.length≤6∧SmHK h∧CurOk (K+20*f) c':=by
 have stop:∀{K:Int} {c:Cur} {out:HK} {p:Int},¬(p≤(l.length:Int)∧(out.length:Int)<6)→w_S_l1Cur_hunks_3 (c,l,out,p,())=some (c,out,()):=by
  intro K c out p hp
  refine fix_end (B:=fun d=>b_S_l1Cur_hunks_3 d.1 d.2.1 d.2.2.1 d.2.2.2.1) ?_
  show b_S_l1Cur_hunks_3 c l out p=_
  unfold b_S_l1Cur_hunks_3
  by_cases h1:p≤(l.length:Int)
  ·rw[decide_eq_true h1,cond_true,decide_eq_false (fun q=>hp ⟨h1,q⟩),cond_false]
  ·rw[decide_eq_false h1,cond_false]
 intro f
 induction f with
 |zero=>
  intro K c out p h hK hf hm hp0 hp1 ho hso
  exact⟨c,out,stop (K:=K) (fun q=>by omega),ho,hso,h.up (by omega)⟩
 |succ f ih=>
  intro K c out p h hK hf hm hp0 hp1 ho hso
  by_cases hg:p≤(l.length:Int)∧(out.length:Int)<6
  ·obtain⟨g1,g2⟩:=hg
   generalize hL:(if (3:Int)<(l.length:Int) -p then(3:Int) else(l.length:Int) -p)=m
   have hm0:0≤m∧m≤3:=by rw[←hL];split<;>omega
   obtain⟨r1,c1,a1,a2,a3,a4,a5⟩:=pick_ok (n:=m+1) h (by omega) (by omega)
   have a3:=a3 (by omega)
   obtain⟨r2,c2,b1,b2,b3,b4,b5⟩:=pick_ok (n:=3) a5 (by omega) (by omega)
   have b3:=b3 (by omega)
   obtain⟨n,rfl⟩:∃n:Nat,r2=(n:Int):=⟨r2.toNat,(Int.toNat_of_nonneg b2).symm⟩
   obtain⟨c3,x,d1,d2,d3,d4,d5,d6⟩:=new_loop n (x:=(p,(r1,(([]:PV S_string),())))) l out p (out.length:Int) (decide ((out.length:Int)<6)) b5 (by omega) (by omega) (by show 0+n≤100;omega) (fun s hs=>by cases hs)
   have d4:List.length x.2.2.1=n:=by rw[d4];show 0+n=n;omega
   obtain⟨r3,c4,e1,e2,e3,e4,e5⟩:=pick_ok (n:=3) d6 (by omega) (by omega)
   have e3:=e3 (by omega)
   obtain⟨wb,hw⟩:=whole_S hl hs
   have hx:SmX x:=⟨by omega,d5⟩
   have key:∃out2:HK,out2.length≤6∧SmHK out2∧w_S_l1Cur_hunks_3 (c,l,out,p,())=w_S_l1Cur_hunks_3 (c4,l,out2,p+(r1+1+r3),()):=by
    have hgo:∀{s t},b_S_l1Cur_hunks_3 s.1 s.2.1 s.2.2.1 s.2.2.2.1=some (.inl t)→w_S_l1Cur_hunks_3 s=w_S_l1Cur_hunks_3 t:=fun hh=>fix_go (B:=fun d=>b_S_l1Cur_hunks_3 d.1 d.2.1 d.2.2.1 d.2.2.2.1) hh
    have hbody:∃bb:Bool,b_S_l1Cur_hunks_3 c l out p=some (.inl (c4,l,(if bb then out++[x] else out),p+(r1+1+r3),())):=by
     unfold b_S_l1Cur_hunks_3
     rw[decide_eq_true g1,cond_true,decide_eq_true g2,cond_true,wrap64 (x:=(l.length:Int) -p) (by omega) (by omega),least_S,Option.bind_some]
     dsimp only
     rw[hL,wrap64 (x:=m+1) (by omega) (by omega),a1,Option.bind_some]
     dsimp only
     rw[b1,Option.bind_some]
     dsimp only
     rw[decide_eq_true g2] at d1
     rw[d1,Option.bind_some]
     dsimp only
     rw[d3,hw,Option.bind_some]
     dsimp only
     have w1:IntKind.wrap .i64 (p+IntKind.wrap .i64 (IntKind.wrap .i64 (r1+1)+r3))=p+(r1+1+r3):=by
      rw[wrap64 (x:=r1+1) (by omega) (by omega),wrap64 (x:=r1+1+r3) (by omega) (by omega),wrap64 (by omega) (by omega)]
     have hroom:roomB (out.length+[x].length)=true:=roomB_ok (by rw[List.length_cons,List.length_nil];omega)
     cases decide (IntKind.wrap .i64 (r1+(List.length x.2.2.1:Int))>0)
     ·refine⟨false,?_⟩
      rw[cond_false,Option.bind_some]
      dsimp only
      rw[cond_false,Option.bind_some]
      dsimp only
      rw[e1,Option.bind_some]
      dsimp only
      rw[d3,w1]
      rfl
     ·rw[cond_true]
      have tail:∀q:Bool,∃bb:Bool,((((some (c3,l,out,p,x,(out.length:Int),true,q,()):Option (PV Y_spec_l1Cur×PV S_string×PV S_impl_Hunk×PV (.int .i64)×PV Y_impl_Hunk×PV (.int .i64)×PV .bool×PV .bool×Unit)).bind fun j33=>
       bif j33.2.2.2.2.2.2.2.1 then
        bif roomB (j33.2.2.1.length+[j33.2.2.2.2.1].length) then
         some (j33.1,j33.2.1,(j33.2.2.1++[j33.2.2.2.2.1]),j33.2.2.2.1,j33.2.2.2.2.1,j33.2.2.2.2.2.1,j33.2.2.2.2.2.2.1,())
        else
         none
       else
        some (j33.1,j33.2.1,j33.2.2.1,j33.2.2.2.1,j33.2.2.2.2.1,j33.2.2.2.2.2.1,j33.2.2.2.2.2.2.1,()):Option ((PV Y_spec_l1Cur×PV S_string×PV S_impl_Hunk×PV (.int .i64)×PV Y_impl_Hunk×PV (.int .i64)×PV .bool×Unit))).bind fun j34=>
       (f_S_l1Cur_pick j34.1 3).bind fun r35=>
         some (.inl (r35.2.1,j34.2.1,j34.2.2.1,(IntKind.wrap .i64 (j34.2.2.2.1+(IntKind.wrap .i64 ((IntKind.wrap .i64 (j34.2.2.2.2.1.2.1+1))+r35.1.1)))),()))):Option ((PV Y_spec_l1Cur×PV S_string×PV S_impl_Hunk×PV (.int .i64)×Unit)⊕((PV Y_spec_l1Cur×PV S_impl_Hunk×Unit))))=some (.inl (c4,l,(if bb then out++[x] else out),p+(r1+1+r3),())):=by
       intro q
       refine⟨q,?_⟩
       rw[Option.bind_some]
       dsimp only
       cases q
       ·rw[cond_false,Option.bind_some]
        dsimp only
        rw[e1,Option.bind_some]
        dsimp only
        rw[d3,w1]
        rfl
       ·rw[cond_true,hroom,cond_true,Option.bind_some]
        dsimp only
        rw[e1,Option.bind_some]
        dsimp only
        rw[d3,w1]
        rfl
      cases decide (IntKind.wrap .i64 (p+r1)<(l.length:Int))
      ·rw[cond_false]
       cases wb
       ·exact tail _
       ·exact tail true
      ·exact tail true
    obtain⟨bb,hbody⟩:=hbody
    refine⟨if bb then out++[x] else out,?_,?_,hgo (s:=(c,l,out,p,())) hbody⟩
    ·cases bb
     ·exact ho
     ·rw[if_pos rfl,List.length_append,List.length_cons,List.length_nil];omega
    ·cases bb
     ·exact hso
     ·intro y hy
      rw[if_pos rfl] at hy
      rcases List.mem_append.1 hy with hy|hy
      ·exact hso y hy
      ·obtain rfl:=List.mem_singleton.1 hy
       exact hx
   obtain⟨out2,k1,k2,k3⟩:=key
   obtain⟨c',h',i1,i2,i3,i4⟩:=ih (out:=out2) (p:=p+(r1+1+r3)) e5 (by omega) (by omega) (by omega) (by omega) (by omega) k1 k2
   exact⟨c',h',k3.trans i1,i2,i3,i4.up (by omega)⟩
  ·exact⟨c,out,stop (K:=K) hg,ho,hso,h.up (by omega)⟩
theorem hunks_ok {l:TX}(hl:l.length≤100)(hs:SmL l){K:Int}{c:Cur}(h:CurOk K c)(hK:K≤4611686018427200000):∃(hh:HK) (c':Cur),f_S_l1Cur_hunks c l=some ((hh,()),(c',()))∧hh.length≤6∧SmHK hh∧CurOk (K+5000) c':=by
 obtain⟨r,c1,q1,q2,q3,_,q4⟩:=pick_ok (n:=3) h (by omega) (by omega)
 have q3:=q3 (by omega)
 obtain⟨c2,hh,p1,p2,p3,p4⟩:=hunks_loop hl hs 150 (out:=[]) (p:=r) q4 (by omega) (by omega) (by omega) q2 (by omega) (by simp) (fun x hx=>by cases hx)
 unfold f_S_l1Cur_hunks
 rw[q1,Option.bind_some]
 dsimp only
 rw[p1,Option.bind_some]
 exact⟨_,_,rfl,p2,p3,p4.up (by omega)⟩
theorem SmHK.sm {h:HK}(hl:h.length≤1000)(hs:SmHK h):SmH h:=⟨by omega,fun x hx=>(hs x hx).2.sm (by have:=(hs x hx).1;omega)⟩
end R.G
end

section
/- Drawn texts that are like others: they are small. -/
open Go Go.Dn
namespace R.G
set_option linter.unusedVariables false
def SmN (m:Nat)(l:TX):Prop:=∀s∈l,1≤s.length∧s.length≤m
theorem SmN.snoc {m:Nat}{l:TX}{s:List UInt8}(h:SmN m l)(h1:1≤s.length)(h2:s.length≤m):SmN m (l++[s]):=by
 intro x hx
 rcases List.mem_append.1 hx with hx|hx
 ·exact h x hx
 ·obtain rfl:=List.mem_singleton.1 hx
  exact⟨h1,h2⟩
theorem SmN.app {m:Nat}{l l':TX}(h:SmN m l)(h':SmN m l'):SmN m (l++l'):=fun x hx=>(List.mem_append.1 hx).elim (h x) (h' x)
theorem SmN.set {m:Nat}{l:TX}{i:Nat}{s:List UInt8}(h:SmN m l)(h1:1≤s.length)(h2:s.length≤m):SmN m (l.set i s):=by
 intro x hx
 rcases List.mem_or_eq_of_mem_set hx with hx|rfl
 ·exact h x hx
 ·exact⟨h1,h2⟩
theorem SmN.up {m m':Nat}{l:TX}(h:SmN m l)(hm:m≤m'):SmN m' l:=fun x hx=>⟨(h x hx).1,Nat.le_trans (h x hx).2 hm⟩
theorem cutG_mem {l:TX}{a b:Int}{x:List UInt8}(hx:x∈cutL a b l):x∈l:=List.mem_of_mem_take (List.mem_of_mem_drop hx)
theorem SmN.cut {m:Nat}{l:TX}{a b:Int}(h:SmN m l):SmN m (cutL a b l):=fun x hx=>h x (cutG_mem hx)
theorem cutG_len {α:Type}{l:List α}{a b:Int}:(cutL a b l).length≤b.toNat -a.toNat:=by
 unfold cutL
 rw[List.length_drop,List.length_take]
 omega
theorem cutG_ok {a b:Int}{n:Nat}(h0:0≤a)(h1:a≤b)(h2:b≤(n:Int)):cutB a b n=true:=by
 unfold cutB
 rw[decide_eq_true h0,decide_eq_true h1,decide_eq_true h2]
 rfl
theorem SmN.sm {m:Nat}{l:TX}(h:SmN m l)(hm:m≤1000)(hl:l.length≤1000):Sm l:=⟨by omega,fun s hs=>by have:=h s hs;omega⟩
theorem wholeN_S {l:TX}(hl:l.length≤100){m:Nat}(hm:m≤1000)(hs:SmN m l):∃b:Bool,f_S_l1Whole l=some ((b,()),()):=by
 unfold f_S_l1Whole
 by_cases h:l.length=0
 ·rw[show((l.length:Int)==0)=true from by rw[h];rfl]
  exact⟨_,rfl⟩
 ·have hi:l.length -1<l.length:=by omega
  obtain⟨h1,h2⟩:=hs _ (List.getElem_mem hi)
  rw[show((l.length:Int)==0)=false from by rw[beq_eq_false_iff_ne];omega,cond_false,show IntKind.wrap .i64 ((l.length:Int) -1)=((l.length -1:Nat):Int) from by rw[wrap64 (by omega) (by omega)];omega,inB_lt hi,cond_true,toNat_cast,getD_of hi,ends_S _ h1 (by omega),Option.bind_some]
  exact⟨_,rfl⟩
theorem plainN_S {s:List UInt8}(h1:1≤s.length)(h2:s.length≤1000):∃r:List UInt8,f_S_l1Plain s=some ((r,()),())∧r.length≤s.length:=by
 unfold f_S_l1Plain
 rw[ends_S s h1 (by omega),Option.bind_some]
 dsimp only
 cases endP s
 ·exact⟨_,rfl,Nat.le_refl _⟩
 ·have hw:IntKind.wrap .i64 ((s.length:Int) -1)=((s.length -1:Nat):Int):=by rw[wrap64 (by omega) (by omega)];omega
  rw[cond_true,hw,cutG_ok (by omega) (by omega) (by omega),cond_true]
  refine⟨_,rfl,?_⟩
  have:=cutG_len (l:=s) (a:=0) (b:=((s.length -1:Nat):Int))
  rw[toNat_cast] at this
  omega
theorem own_Sx (l:TX)(h:l.length≤1099511627776):f_S_l1OwnT l=some ((l,()),()):=by
 unfold f_S_l1OwnT
 rw[roomB_ok (by simpa using h)]
 rfl
theorem other_step {m:Nat}(hm9:9≤m)(hm:m≤100)(n:Nat)(hn:n≤10){K:Int}{c:Cur}{l:TX}(h:CurOk K c)(hK:K≤4611686018427380000)(hl:l.length≤60)(hs:SmN m l):
 ∃(c':Cur) (l':TX),b_S_l1Cur_other_3 c l ((n+1:Nat):Int)=some (.inl (c',l',(n:Int),()))∧l'.length≤l.length+1∧SmN m l'∧CurOk (K+6) c':=by
 obtain⟨r1,c1,a1,a2,a3,a4,a5⟩:=pick_ok (n:=(l.length:Int)+1) h (by omega) (by omega)
 have a3:=a3 (by omega)
 obtain⟨r2,c2,b1,b2,b3,b4,b5⟩:=pick_ok (n:=3) a5 (by omega) (by omega)
 obtain⟨k,rfl⟩:∃k:Nat,r1=(k:Int):=⟨r1.toNat,(Int.toNat_of_nonneg a2).symm⟩
 obtain⟨s,c3,e1,e2,e3⟩:=line_ok b5 (by omega)
 obtain⟨wb,hw⟩:=wholeN_S (l:=l) (by omega) (by omega) hs
 have w1:IntKind.wrap .i64 (((n+1:Nat):Int) -1)=(n:Int):=by rw[wrap64 (by omega) (by omega)];omega
 have hsl:1≤(s++[10]).length∧(s++[10]).length≤m:=by simp;omega
 unfold b_S_l1Cur_other_3
 rw[decide_eq_true (by omega:((n+1:Nat):Int)>0),cond_true,wrap64 (x:=(l.length:Int)+1) (by omega) (by omega),a1,Option.bind_some]
 dsimp only
 rw[b1,Option.bind_some]
 dsimp only
 cases hr0:(r2==0)
 ·rw[cond_false]
  cases hr1:(r2==1)
  ·rw[cond_false]
   have tail:∀q:Bool,∃(c':Cur) (l':TX),(((some (c2,l,((n+1:Nat):Int),(k:Int),q,()):Option ((PV Y_spec_l1Cur×PV S_string×PV (.int .i64)×PV (.int .i64)×PV .bool×Unit))).bind fun j14=>
    bif j14.2.2.2.2.1 then
     bif cutB 0 j14.2.2.2.1 j14.2.1.length then
      (f_S_l1OwnT (cutL 0 j14.2.2.2.1 j14.2.1)).bind fun r15=>
        (f_S_l1Cur_line j14.1).bind fun r16=>
          bif decide (r16.1.1.length+[10].length≤1099511627776) then
           bif roomB (r15.1.1.length+[(r16.1.1++[10])].length) then
            bif cutB j14.2.2.2.1 (j14.2.1.length:Int) j14.2.1.length then
             bif roomB ((r15.1.1++[(r16.1.1++[10])]).length+(cutL j14.2.2.2.1 (j14.2.1.length:Int) j14.2.1).length) then
              some (r16.2.1,((r15.1.1++[(r16.1.1++[10])])++(cutL j14.2.2.2.1 (j14.2.1.length:Int) j14.2.1)),j14.2.2.1,())
             else
              none
            else
             none
           else
            none
          else
           none
     else
      none
    else
     some (j14.1,j14.2.1,j14.2.2.1,()):Option ((PV Y_spec_l1Cur×PV S_string×PV (.int .i64)×Unit))).bind fun j17=>some (.inl (j17.1,j17.2.1,(IntKind.wrap .i64 (j17.2.2.1 -1)),())):Option ((PV Y_spec_l1Cur×PV S_string×PV (.int .i64)×Unit)⊕((PV Y_spec_l1Cur×PV S_string×Unit))))=some (.inl (c',l',(n:Int),()))∧l'.length≤l.length+1∧SmN m l'∧CurOk (K+6) c':=by
    intro q
    rw[Option.bind_some]
    dsimp only
    cases q
    ·rw[cond_false,Option.bind_some]
     dsimp only
     rw[w1]
     exact⟨_,_,rfl,by omega,hs,b5.up (by omega)⟩
    ·have l1:=cutG_len (l:=l) (a:=0) (b:=(k:Int))
     have l2:=cutG_len (l:=l) (a:=(k:Int)) (b:=(l.length:Int))
     rw[toNat_cast] at l1 l2
     rw[toNat_cast] at l2
     rw[cond_true,cutG_ok (by omega) (by omega) (by omega),cond_true,own_Sx _ (by omega),Option.bind_some]
     dsimp only
     rw[e1,Option.bind_some]
     dsimp only
     rw[decide_eq_true (by rw[List.length_cons,List.length_nil];omega),cond_true,roomB_ok (by rw[List.length_cons,List.length_nil];omega),cond_true,cutG_ok (by omega) (by omega) (by omega),cond_true,roomB_ok (by rw[List.length_append,List.length_cons,List.length_nil];omega),cond_true,Option.bind_some]
     dsimp only
     rw[w1]
     exact⟨_,_,rfl,by rw[List.length_append,List.length_append,List.length_cons,List.length_nil];omega,(hs.cut.snoc hsl.1 hsl.2).app hs.cut,e3.up (by omega)⟩
   cases decide ((k:Int)<(l.length:Int))
   ·rw[cond_false,hw,Option.bind_some]
    exact tail wb
   ·exact tail true
  ·rw[cond_true]
   have tail:∀q:Bool,k<l.length∨q=false→∃(c':Cur) (l':TX),(((some (c2,l,((n+1:Nat):Int),(k:Int),q,()):Option ((PV Y_spec_l1Cur×PV S_string×PV (.int .i64)×PV (.int .i64)×PV .bool×Unit))).bind fun j11=>
    bif j11.2.2.2.2.1 then
     (f_S_l1Cur_line j11.1).bind fun r12=>
       bif decide (r12.1.1.length+[10].length≤1099511627776) then
        bif inB j11.2.2.2.1 j11.2.1.length then
         some (r12.2.1,(j11.2.1.set j11.2.2.2.1.toNat (r12.1.1++[10])),j11.2.2.1,())
        else
         none
       else
        none
    else
     some (j11.1,j11.2.1,j11.2.2.1,()):Option ((PV Y_spec_l1Cur×PV S_string×PV (.int .i64)×Unit))).bind fun j17=>some (.inl (j17.1,j17.2.1,(IntKind.wrap .i64 (j17.2.2.1 -1)),())):Option ((PV Y_spec_l1Cur×PV S_string×PV (.int .i64)×Unit)⊕((PV Y_spec_l1Cur×PV S_string×Unit))))=some (.inl (c',l',(n:Int),()))∧l'.length≤l.length+1∧SmN m l'∧CurOk (K+6) c':=by
    intro q hq
    rw[Option.bind_some]
    dsimp only
    cases q
    ·rw[cond_false,Option.bind_some]
     dsimp only
     rw[w1]
     exact⟨_,_,rfl,by omega,hs,b5.up (by omega)⟩
    ·have hk:k<l.length:=by rcases hq with hq|hq;exact hq;cases hq
     rw[cond_true,e1,Option.bind_some]
     dsimp only
     rw[decide_eq_true (by rw[List.length_cons,List.length_nil];omega),cond_true,inB_lt hk,cond_true,Option.bind_some]
     dsimp only
     rw[w1]
     exact⟨_,_,rfl,by rw[List.length_set];omega,hs.set hsl.1 hsl.2,e3.up (by omega)⟩
   by_cases hk:k<l.length
   ·obtain⟨h1,h2⟩:=hs _ (List.getElem_mem hk)
    rw[decide_eq_true (by omega:(k:Int)<(l.length:Int)),cond_true,inB_lt hk,cond_true,toNat_cast,getD_of hk,ends_S _ h1 (by omega),Option.bind_some]
    exact tail _ (.inl hk)
   ·rw[decide_eq_false (by omega:¬(k:Int)<(l.length:Int)),cond_false]
    exact tail false (.inr rfl)
 ·rw[cond_true]
  by_cases hk:k<l.length
  ·have l1:=cutG_len (l:=l) (a:=0) (b:=(k:Int))
   have l2:=cutG_len (l:=l) (a:=((k+1:Nat):Int)) (b:=(l.length:Int))
   rw[toNat_cast] at l1 l2
   rw[toNat_cast] at l2
   rw[decide_eq_true (by omega:(k:Int)<(l.length:Int)),cond_true,cutG_ok (by omega) (by omega) (by omega),cond_true,own_Sx _ (by omega),Option.bind_some]
   dsimp only
   rw[show IntKind.wrap .i64 ((k:Int)+1)=((k+1:Nat):Int) from by rw[wrap64 (by omega) (by omega)];omega,cutG_ok (by omega) (by omega) (by omega),cond_true,roomB_ok (by omega),cond_true,Option.bind_some]
   dsimp only
   rw[w1]
   exact⟨_,_,rfl,by rw[List.length_append];omega,hs.cut.app hs.cut,b5.up (by omega)⟩
  ·rw[decide_eq_false (by omega:¬(k:Int)<(l.length:Int)),cond_false,Option.bind_some]
   dsimp only
   rw[w1]
   exact⟨_,_,rfl,by omega,hs,b5.up (by omega)⟩
theorem other_loop {m:Nat}(hm9:9≤m)(hm:m≤100):∀(n:Nat) {K:Int} {c:Cur} {l:TX},CurOk K c→K+6*(n:Int)≤4611686018427370000→n≤10→l.length+n≤60→SmN m l→
 ∃(c':Cur) (l':TX),w_S_l1Cur_other_3 (c,l,(n:Int),())=some (c',l',())∧l'.length≤l.length+n∧SmN m l'∧CurOk (K+6*n) c'
 |0,K,c,l,h,hK,hn,hl,hs=>by
  refine⟨c,l,fix_end (B:=fun d=>b_S_l1Cur_other_3 d.1 d.2.1 d.2.2.1) ?_,by omega,hs,h.up (by omega)⟩
  show b_S_l1Cur_other_3 c l 0=_
  unfold b_S_l1Cur_other_3
  rw[decide_eq_false (by omega:¬((0:Int)>0)),cond_false]
 |n+1,K,c,l,h,hK,hn,hl,hs=>by
  obtain⟨c1,l1,q1,q2,q3,q4⟩:=other_step hm9 hm n (by omega) h (by omega) (by omega) hs
  obtain⟨c',l',p1,p2,p3,p4⟩:=other_loop hm9 hm n q4 (by omega) (by omega) (by omega) q3
  refine⟨c',l',?_,by omega,p3,p4.up (by omega)⟩
  rw[←p1]
  exact fix_go (B:=fun d=>b_S_l1Cur_other_3 d.1 d.2.1 d.2.2.1) q1
theorem other_ok {m:Nat}(hm9:9≤m)(hm:m≤50){K:Int}{c:Cur}{l:TX}(h:CurOk K c)(hK:K≤4611686018427300000)(hl:l.length≤50)(hs:SmN m l):
 ∃(l':TX) (c':Cur),f_S_l1Cur_other c l=some ((l',()),(c',()))∧l'.length≤l.length+3∧SmN (m+1) l'∧CurOk (K+30) c':=by
 obtain⟨r,c1,q1,q2,q3,_,q4⟩:=pick_ok (n:=4) h (by omega) (by omega)
 have q3:=q3 (by omega)
 obtain⟨n,rfl⟩:∃n:Nat,r=(n:Int):=⟨r.toNat,(Int.toNat_of_nonneg q2).symm⟩
 obtain⟨c2,l2,p1,p2,p3,p4⟩:=other_loop hm9 (by omega) n q4 (by omega) (by omega) (by omega) hs
 unfold f_S_l1Cur_other
 rw[own_Sx _ (by omega),Option.bind_some]
 dsimp only
 rw[q1,Option.bind_some]
 dsimp only
 rw[p1,Option.bind_some]
 dsimp only
 by_cases hl0:(l2.length:Int)>0
 ·obtain⟨o,c3,o1,o2⟩:=one_ok (n:=6) p4 (by omega) (by omega)
  rw[decide_eq_true hl0,cond_true,o1,Option.bind_some,Option.bind_some]
  dsimp only
  cases o
  ·rw[cond_false,Option.bind_some]
   exact⟨_,_,rfl,by show List.length l2≤_;omega,p3.up (by omega),o2.up (by omega)⟩
  ·have hi:l2.length -1<l2.length:=by omega
   have hw:IntKind.wrap .i64 ((l2.length:Int) -1)=((l2.length -1:Nat):Int):=by rw[wrap64 (by omega) (by omega)];omega
   obtain⟨h1,h2⟩:=p3 _ (List.getElem_mem hi)
   obtain⟨pl,pe,pll⟩:=plainN_S (s:=l2[l2.length -1]) h1 (by omega)
   rw[cond_true,hw,inB_lt hi,cond_true,toNat_cast,getD_of hi,pe,Option.bind_some]
   dsimp only
   rw[cond_true,ends_S _ h1 (by omega),Option.bind_some]
   dsimp only
   cases endP l2[l2.length -1]
   ·rw[Bool.not_false,cond_true,decide_eq_true (by rw[List.length_cons,List.length_nil];omega),cond_true,cond_true,Option.bind_some]
    exact⟨_,_,rfl,by show List.length (l2.set _ _)≤_;rw[List.length_set];omega,(p3.up (by omega)).set (by simp) (by rw[List.length_append,List.length_cons,List.length_nil];omega),o2.up (by omega)⟩
   ·rw[Bool.not_true,cond_false]
    cases hpe:(pl==([]:List UInt8))
    ·rw[Bool.not_false,cond_true,cond_true,Option.bind_some]
     have hne:pl.length≠0:=fun hz=>by
      have:pl=[]:=List.length_eq_zero_iff.1 hz
      rw[this] at hpe
      cases hpe
     exact⟨_,_,rfl,by show List.length (l2.set _ _)≤_;rw[List.length_set];omega,(p3.up (by omega)).set (by omega) (by omega),o2.up (by omega)⟩
    ·rw[Bool.not_true,cond_false,Option.bind_some]
     exact⟨_,_,rfl,by show List.length l2≤_;omega,p3.up (by omega),o2.up (by omega)⟩
 ·rw[decide_eq_false hl0,cond_false,Option.bind_some]
  dsimp only
  rw[cond_false,Option.bind_some]
  exact⟨_,_,rfl,by show List.length l2≤_;omega,p3.up (by omega),p4.up (by omega)⟩
end R.G
end

section
/- Drawn groups, and drawn texts of them: they are small. -/
open Go Go.Dn
namespace R.G
set_option linter.unusedVariables false
theorem hunk_some {many:Int}{h:HK}(hh:hunksP many h=true){i:Nat}(hi:i<h.length):¬((h.getD i H0).2.1=0∧List.length (h.getD i H0).2.2.1=0):=by
 unfold hunksP at hh
 simp only[Bool.and_eq_true,Bool.not_eq_true'] at hh
 have hb:badK many h i=false:=by
  cases hb:badK many h i with
  |false=>rfl
  |true=>
   have:=hh.2.2
   rw[show anyN h.length (badK many h)=true from anyN_iff.2 ⟨i,hi,hb⟩] at this
   cases this
 unfold badK badH at hb
 simp only[Bool.or_eq_false_iff] at hb
 rintro⟨e1,e2⟩
 have:=hb.1.2.2.2
 rw[e1,e2] at this
 cases this
theorem foldl_ge {l:TX}:∀(s:HK) (a:St3),a.1.length≤(s.foldl (stepR l) a).1.length
 |[],a=>Nat.le_refl _
 |x::s,a=>by
  rw[List.foldl_cons]
  refine Nat.le_trans ?_ (foldl_ge s _)
  unfold stepR
  simp only[List.length_append]
  omega
theorem cut_len2 {l:TX}{A G:Int}(h0:0≤A)(h1:0≤G)(h2:A+G≤(l.length:Int)):(cutL A (A+G) l).length=G.toNat:=by
 unfold cutL
 rw[List.length_drop,List.length_take]
 omega
theorem app_ge {α:Type}(a b c d:List α):c.length+d.length≤(((a++b)++c)++d).length:=by
 simp only[List.length_append]
 omega
theorem step_ge {l:TX}{a:St3}{x:PV Y_impl_Hunk}(h0:0≤(x.1:Int))(h1:0≤(x.2.1:Int))(h2: @LE.le Int _ (x.1+x.2.1) (l.length:Int)):(x.2.1:Int).toNat+List.length x.2.2.1≤(stepR l a x).1.length:=by
 have hc:(cutL x.1 (x.1+x.2.1) l).length=(x.2.1:Int).toNat:=cut_len2 h0 h1 h2
 have e2:(rowsK 2 (cutL x.1 (x.1+x.2.1) l)).length=(x.2.1:Int).toNat:=(rowsK_len 2 _).trans hc
 have e3:(rowsK 3 x.2.2.1).length=List.length x.2.2.1:=rowsK_len 3 _
 rw[←e2,←e3]
 exact app_ge a.1 _ _ _
theorem pos_aux {G:Int}{N R:Nat}(h0:0≤G)(hs:¬(G=0∧N=0))(h1:G.toNat+N≤R):0<R:=by omega
theorem grp_ne {l:TX}{h:HK}{w m:Int}{i n:Nat}(hg:hunksP (l.length:Int) h=true)(hi:i<h.length)(hn:1≤n):0<List.length (grp l h w i n m).2.2.1:=by
 obtain⟨_,_,_,hf⟩:=hunk_facts hg
 obtain⟨f1,f2,f3,f4,_⟩:=hf i hi
 have hs:=hunk_some hg hi
 have e:segL h i n=h.getD i H0::segL h (i+1) (n -1):=by
  unfold segL
  rw[List.drop_eq_getElem_cons hi,show n=(n -1)+1 from by omega,List.take_succ_cons,getD_of hi]
  rfl
 show 0<List.length ((res l h w i n m).1++_)
 rw[List.length_append]
 have h1:(h.getD i H0).2.1.toNat+List.length (h.getD i H0).2.2.1≤(res l h w i n m).1.length:=by
  unfold res
  rw[e,List.foldl_cons]
  exact Nat.le_trans (step_ge f1 f3 f4) (foldl_ge _ _)
 exact Nat.lt_of_lt_of_le (pos_aux f3 hs h1) (Nat.le_add_right _ _)
def NeG (g:GR):Prop:=∀x∈g,0<List.length (x:PV Y_impl_Group).2.2.1∧List.length (x:PV Y_impl_Group).2.2.1≤5000
theorem groupsF_ne {l:TX}{h:HK}{w:Int}(hl:l.length≤40)(hg:hunksP (l.length:Int) h=true)(hw0:0≤w)(hw1:w≤20):∀(f i:Nat) (m:Int),i≤h.length→-100*(i:Int)≤m→m≤100*(i:Int)→(groupsF l h w f i m).length≤f∧NeG (groupsF l h w f i m):=by
 obtain⟨_,_,h20,_⟩:=hunk_facts hg
 intro f
 induction f with
 |zero=>exact fun i m _ _ _=>⟨Nat.le_refl _,fun x hx=>by cases hx⟩
 |succ f ih=>
  intro i m hi hm0 hm1
  simp only[groupsF]
  by_cases hi':i<h.length
  ·rw[if_pos hi']
   obtain⟨s2,s3,s4⟩:=step_bd (m:=m) hl hg hw0 hi'
   obtain⟨l1,l2⟩:=lastF_lt h w 20 i hi'
   obtain⟨i1,i2⟩:=ih (lastF h w 20 i+1) (res l h w i (lastF h w 20 i+1 -i) m).2.2 (by omega) (by omega) (by omega)
   refine⟨by rw[List.length_cons];omega,fun x hx=> ?_⟩
   rcases List.mem_cons.1 hx with rfl|hx
   ·refine⟨grp_ne hg hi' (by omega),?_⟩
    have c3:= @cutL_le l (res l h w i (lastF h w 20 i+1 -i) m).2.1 (end0 l h w (i+(lastF h w 20 i+1 -i) -1))
    show List.length (_++rowsK 1 _)≤_
    rw[List.length_append,rowsK_len]
    omega
   ·exact i2 x hx
  ·rw[if_neg hi']
   exact⟨Nat.zero_le _,fun x hx=>by cases hx⟩
theorem goR_ne (l:TX)(h:HK)(w:Int):(goR l h w).length≤20∧NeG (goR l h w):=by
 unfold goR
 cases hk:goOk l h w
 ·exact⟨Nat.zero_le _,fun x hx=>by cases hx⟩
 ·obtain⟨k1,k2,k3,k4,k5⟩:=goOk_at hk
  exact groupsF_ne k1 k2 k3 k4 20 0 0 (Nat.zero_le _) (by simp) (by simp)
theorem of_ok {K:Int}{c:Cur}{l:TX}(h:CurOk K c)(hK:K≤4611686018427387000)(h0:0<l.length)(h1:l.length≤1000):∃(s:List UInt8) (c':Cur),f_S_l1Cur_of c l=some ((s,()),(c',()))∧s∈l∧CurOk (K+2) c':=by
 obtain⟨r,c1,q1,q2,q3,_,q4⟩:=pick_ok (n:=(l.length:Int)) h hK (by omega)
 have q3:=q3 (by omega)
 obtain⟨i,rfl⟩:∃i:Nat,r=(i:Int):=⟨r.toNat,(Int.toNat_of_nonneg q2).symm⟩
 have hi:i<l.length:=by omega
 unfold f_S_l1Cur_of
 rw[q1,Option.bind_some]
 dsimp only
 rw[inB_lt hi,cond_true,toNat_cast,getD_of hi]
 exact⟨_,_,rfl,List.getElem_mem hi,q4⟩
theorem smG_set {g:GR}{i:Nat}{x:PV Y_impl_Group}(h:SmG g)(hx:SmR x.2.2.1):SmG (g.set i x):=by
 refine⟨by rw[List.length_set];exact h.1,fun y hy=> ?_⟩
 rcases List.mem_or_eq_of_mem_set hy with hy|rfl
 ·exact h.2 y hy
 ·exact hx
theorem smR_set {r:RW}{i:Nat}{x:PV Y_impl_Row}(h:SmR r)(hx:List.length x.2.1≤1048576):SmR (r.set i x):=by
 refine⟨by rw[List.length_set];exact h.1,fun y hy=> ?_⟩
 rcases List.mem_or_eq_of_mem_set hy with hy|rfl
 ·exact h.2 y hy
 ·exact hx
theorem groups_ok {K:Int}{c:Cur}(h:CurOk K c)(hK:K≤4611686018427000000):∃(l:TX) (g:GR) (c':Cur),f_S_l1Cur_groups c=some ((l,g,()),(c',()))∧SmG g∧g.length≤20∧CurOk (K+6000) c':=by
 obtain⟨l,c1,a1,a2,a3,a4⟩:=text_ok h (by omega)
 obtain⟨hh,c2,b1,b2,b3,b4⟩:=hunks_ok (l:=l) (by omega) a3 a4 (by omega)
 obtain⟨r,c3,d1,d2,d3,_,d4⟩:=pick_ok (n:=4) b4 (by omega) (by omega)
 have d3:=d3 (by omega)
 obtain⟨wi,rfl⟩:∃i:Nat,r=(i:Int):=⟨r.toNat,(Int.toNat_of_nonneg d2).symm⟩
 have hbl:SmB l:=fun s hs=>by have:=(a3 s hs).2;omega
 have hbh:SmBH hh:=fun x hx s hs=>by have:=((b3 x hx).2 s hs).2;omega
 have tail:∀(l:TX) (g:GR) (c:Cur),l.length≤9→SmL l→SmG g→g.length≤20→CurOk (K+5900) c→∃(l':TX) (g':GR) (c':Cur),(((
              (f_S_l1Cur_one c 4).bind fun r30=>
                bif r30.1.1 then
                 (f_S_l1Cur_other r30.2.1 l).bind fun r31=>
                   some (r31.2.1,r31.1.1,g,())
                else
                 some (r30.2.1,l,g,()):Option ((PV Y_spec_l1Cur×PV S_string×PV S_impl_Group×Unit)))).bind fun j32=>
  some (((j32.2.1,j32.2.2.1,()),(j32.1,())):(PVs [S_string,S_impl_Group]×PVs [Y_spec_l1Cur])))=some ((l',g',()),(c',()))∧SmG g'∧g'.length≤20∧CurOk (K+6000) c':=by
  intro l g c hl hs hg hgl hc
  obtain⟨b,c',o1,o2⟩:=one_ok (n:=4) hc (by omega) (by omega)
  rw[o1,Option.bind_some]
  dsimp only
  cases b
  ·exact⟨_,_,_,rfl,hg,hgl,o2.up (by omega)⟩
  ·obtain⟨l',c2,p1,_,_,p4⟩:=other_ok (m:=9) (by omega) (by omega) o2 (by omega) (by omega) (fun s hs'=>hs s hs')
   rw[cond_true,p1]
   exact⟨_,_,_,rfl,hg,hgl,p4.up (by omega)⟩
 unfold f_S_l1Cur_groups
 rw[a1,Option.bind_some]
 dsimp only
 rw[b1,Option.bind_some]
 dsimp only
 have ham:f_S_l1Cur_among c2 [0,1,2,3]=some (((([0,1,2,3]:List Int).getD ((wi:Int)).toNat 0),()),(c3,())):=by
  unfold f_S_l1Cur_among
  rw[show((List.length ([0,1,2,3]:PV S_int):Nat):Int)=4 from rfl,d1,Option.bind_some]
  dsimp only
  rw[show inB (wi:Int) (List.length ([0,1,2,3]:PV S_int))=true from inB_lt (by show wi<4;omega),cond_true]
 rw[ham,Option.bind_some]
 dsimp only
 rw[groupsOf_S (a3.sm (by omega)) (b3.sm (by omega)),Option.bind_some]
 dsimp only
 have hsm:=goR_sm (l:=l) (h:=hh) (w:=([0,1,2,3]:List Int).getD ((wi:Int)).toNat 0) hbl hbh
 have hne:=goR_ne l hh (([0,1,2,3]:List Int).getD ((wi:Int)).toNat 0)
 generalize goR l hh (([0,1,2,3]:List Int).getD ((wi:Int)).toNat 0)=g at*
 obtain⟨hgl,hne⟩:=hne
 by_cases h0:(g.length:Int)>0
 ·obtain⟨r1,c4,e1,e2,e3,_,e5⟩:=pick_ok (n:=(g.length:Int)) d4 (by omega) (by omega)
  have e3:=e3 (by omega)
  obtain⟨k,rfl⟩:∃k:Nat,r1=(k:Int):=⟨r1.toNat,(Int.toNat_of_nonneg e2).symm⟩
  have hk:k<g.length:=by omega
  obtain⟨n1,n2⟩:=hne _ (List.getElem_mem hk)
  have hR:=hsm.2 _ (List.getElem_mem hk)
  rw[decide_eq_true h0,cond_true,e1,Option.bind_some]
  dsimp only
  rw[inB_lt hk,toNat_cast,getD_of hk]
  simp only[cond_true]
  generalize g[k]=x at*
  obtain⟨r2,c5,i1,i2,i3,_,i5⟩:=pick_ok (n:=(List.length x.2.2.1:Int)) e5 (by omega) (by omega)
  have i3:=i3 (by omega)
  obtain⟨j,rfl⟩:∃j:Nat,r2=(j:Int):=⟨r2.toNat,(Int.toNat_of_nonneg i2).symm⟩
  have hj:j<List.length x.2.2.1:=by omega
  obtain⟨r3,c6,j1,j2,j3,_,j5⟩:=pick_ok (n:=15) i5 (by omega) (by omega)
  rw[i1,Option.bind_some]
  dsimp only
  rw[j1,Option.bind_some]
  dsimp only
  rw[inB_lt hj,toNat_cast,getD_of hj]
  simp only[cond_true]
  have line:=hR.2 _ (List.getElem_mem hj)
  have hset:∀y:PV Y_impl_Group,SmR y.2.2.1→SmG (g.set k y)∧(g.set k y).length≤20:=fun y hy=>⟨smG_set hsm hy,by rw[List.length_set];exact hgl⟩
  cases(r3==0)
  ·simp only[cond_false]
   cases(r3==1)
   ·simp only[cond_false]
    cases(r3==2)
    ·simp only[cond_false]
     cases(r3==3)
     ·simp only[cond_false]
      cases(r3==4)
      ·simp only[cond_false,Option.bind_some]
       exact tail _ _ _ a2 a3 hsm hgl (j5.up (by omega))
      ·simp only[cond_true,Option.bind_some]
       exact tail _ _ _ a2 a3 (by exact(hset _ (by exact hR)).1) (by exact(hset _ (by exact hR)).2) (j5.up (by omega))
     ·obtain⟨s,c7,m1,m2,m3⟩:=of_ok (l:=[[],[122,10],[122]]) j5 (by omega) (by decide) (by decide)
      have hs:List.length s≤1048576:=by
       have:∀y∈([[],[122,10],[122]]:TX),List.length y≤2:=by decide
       have:=this s m2
       omega
      simp only[cond_true]
      rw[m1,Option.bind_some]
      dsimp only
      rw[Option.bind_some]
      exact tail _ _ _ a2 a3 (by exact(hset _ (by exact smR_set hR (by exact hs))).1) (by exact(hset _ (by exact smR_set hR (by exact hs))).2) (m3.up (by omega))
    ·obtain⟨r4,c7,m1,m2,m3,_,m5⟩:=pick_ok (n:=5) j5 (by omega) (by omega)
     simp only[cond_true]
     rw[m1,Option.bind_some]
     dsimp only
     rw[Option.bind_some]
     exact tail _ _ _ a2 a3 (by exact(hset _ (by exact smR_set hR (by exact line))).1) (by exact(hset _ (by exact smR_set hR (by exact line))).2) (m5.up (by omega))
   ·simp only[cond_true,Option.bind_some]
    exact tail _ _ _ a2 a3 (by exact(hset _ (by exact hR)).1) (by exact(hset _ (by exact hR)).2) (j5.up (by omega))
  ·simp only[cond_true,Option.bind_some]
   exact tail _ _ _ a2 a3 (by exact(hset _ (by exact hR)).1) (by exact(hset _ (by exact hR)).2) (j5.up (by omega))
 ·rw[decide_eq_false h0,cond_false,Option.bind_some]
  exact tail _ _ _ a2 a3 hsm hgl (d4.up (by omega))
end R.G
end

section
/- Unified: the law answers true. -/
open Go Go.Dn
namespace R.G
set_option linter.unusedVariables false
theorem cutS_len {α:Type}{l:List α}{a b:Int}:(cutL a b l).length≤l.length:=by
 unfold cutL
 rw[List.length_drop,List.length_take]
 omega
theorem cutS_ok {a b:Int}{n:Nat}(h0:0≤a)(h1:a≤b)(h2:b≤(n:Int)):cutB a b n=true:=by
 unfold cutB
 simp
 omega
theorem spoilt_loop {ws:List UInt8}(hw0:0<ws.length)(hw1:ws.length≤1000):∀(n:Nat) {K:Int} {c:Cur} (s:List UInt8),CurOk K c→K+6*(n:Int)≤4611686018427380000→s.length+n≤900000→
 ∃(c':Cur) (s':List UInt8),w_S_l1Cur_spoilt_2 (c,s,ws,(n:Int),())=some (c',s',())∧CurOk (K+6*n) c'
 |0,K,c,s,h,hK,hs=>by
  refine⟨c,s,fix_end (B:=fun d=>b_S_l1Cur_spoilt_2 d.1 d.2.1 d.2.2.1 d.2.2.2.1) ?_,h.up (by omega)⟩
  show b_S_l1Cur_spoilt_2 c s ws 0=_
  unfold b_S_l1Cur_spoilt_2
  rw[decide_eq_false (by omega:¬((0:Int)>0)),cond_false]
 |n+1,K,c,s,h,hK,hs=>by
  by_cases h0:(s.length:Int)>0
  ·obtain⟨r1,c1,a1,a2,a3,_,a5⟩:=pick_ok (n:=(s.length:Int)) h (by omega) (by omega)
   have a3:=a3 (by omega)
   obtain⟨i,rfl⟩:∃i:Nat,r1=(i:Int):=⟨r1.toNat,(Int.toNat_of_nonneg a2).symm⟩
   obtain⟨r2,c2,b1,b2,b3,_,b5⟩:=pick_ok (n:=(ws.length:Int)) a5 (by omega) (by omega)
   have b3:=b3 (by omega)
   obtain⟨j,rfl⟩:∃j:Nat,r2=(j:Int):=⟨r2.toNat,(Int.toNat_of_nonneg b2).symm⟩
   obtain⟨r3,c3,d1,d2,d3,_,d5⟩:=pick_ok (n:=3) b5 (by omega) (by omega)
   have hs':∃s':List UInt8,b_S_l1Cur_spoilt_2 c s ws ((n+1:Nat):Int)=some (.inl (c3,s',ws,(n:Int),()))∧s'.length≤s.length+1:=by
    unfold b_S_l1Cur_spoilt_2
    rw[decide_eq_true (by omega:((n+1:Nat):Int)>0),cond_true,decide_eq_true h0,cond_true,a1,Option.bind_some]
    dsimp only
    rw[b1,Option.bind_some]
    dsimp only
    rw[inB_lt (by omega),cond_true,d1,Option.bind_some]
    dsimp only
    have w1:IntKind.wrap .i64 ((i:Int)+1)=((i+1:Nat):Int):=by rw[wrap64 (by omega) (by omega)];omega
    have w2:IntKind.wrap .i64 (((n+1:Nat):Int) -1)=(n:Int):=by rw[wrap64 (by omega) (by omega)];omega
    have k1:cutB 0 (i:Int) s.length=true:=cutS_ok (by omega) (by omega) (by omega)
    have k2:cutB (i:Int) (s.length:Int) s.length=true:=cutS_ok (by omega) (by omega) (by omega)
    have k3:cutB ((i+1:Nat):Int) (s.length:Int) s.length=true:=cutS_ok (by omega) (by omega) (by omega)
    have l1:(cutL 0 (i:Int) s).length≤s.length:=cutS_len
    have l2:(cutL (i:Int) (s.length:Int) s).length≤s.length:=cutS_len
    have l3:(cutL ((i+1:Nat):Int) (s.length:Int) s).length≤s.length:=cutS_len
    have e1:(cutL 0 (i:Int) s).length+(cutL (i:Int) (s.length:Int) s).length=s.length:=by
     unfold cutL
     rw[List.length_drop,List.length_take,List.length_drop,List.length_take]
     omega
    have e2:(cutL 0 (i:Int) s).length+(cutL ((i+1:Nat):Int) (s.length:Int) s).length+1=s.length:=by
     unfold cutL
     rw[List.length_drop,List.length_take,List.length_drop,List.length_take]
     omega
    have lb:∀x:Int,(bytesOfInts [x]).length=1:=fun x=>rfl
    rw[k1,k2,w1,k3]
    simp only[cond_true]
    cases(r3==0)
    ·simp only[cond_false]
     cases(r3==1)
     ·simp only[cond_false]
      rw[decide_eq_true (by omega),cond_true,Option.bind_some]
      dsimp only
      rw[w2]
      exact⟨_,rfl,by rw[List.length_append];omega⟩
     ·simp only[cond_true]
      rw[decide_eq_true (by rw[lb];omega),cond_true,decide_eq_true (by rw[List.length_append,lb];omega),cond_true,Option.bind_some]
      dsimp only
      rw[w2]
      exact⟨_,rfl,by rw[List.length_append,List.length_append,lb];omega⟩
    ·simp only[cond_true]
     rw[decide_eq_true (by rw[lb];omega),cond_true,decide_eq_true (by rw[List.length_append,lb];omega),cond_true,Option.bind_some]
     dsimp only
     rw[w2]
     exact⟨_,rfl,by rw[List.length_append,List.length_append,lb];omega⟩
   obtain⟨s',e1,e2⟩:=hs'
   obtain⟨c',s2,p1,p2⟩:=spoilt_loop hw0 hw1 n s' d5 (by omega) (by omega)
   exact⟨c',s2,Eq.trans (fix_go (B:=fun d=>b_S_l1Cur_spoilt_2 d.1 d.2.1 d.2.2.1 d.2.2.2.1) e1) p1,p2.up (by omega)⟩
  ·refine⟨c,s,fix_end (B:=fun d=>b_S_l1Cur_spoilt_2 d.1 d.2.1 d.2.2.1 d.2.2.2.1) ?_,h.up (by omega)⟩
   show b_S_l1Cur_spoilt_2 c s ws ((n+1:Nat):Int)=_
   unfold b_S_l1Cur_spoilt_2
   rw[decide_eq_true (by omega:((n+1:Nat):Int)>0),cond_true,decide_eq_false h0,cond_false]
theorem spoilt_ok {ws:List UInt8}(hw0:0<ws.length)(hw1:ws.length≤1000){K:Int}{c:Cur}(s:List UInt8)(h:CurOk K c)(hK:K≤4611686018427370000)(hs:s.length≤800000):
 ∃(s':List UInt8) (c':Cur),f_S_l1Cur_spoilt c s ws=some ((s',()),(c',())):=by
 obtain⟨r,c1,q1,q2,q3,_,q4⟩:=pick_ok (n:=2) h (by omega) (by omega)
 have q3:=q3 (by omega)
 obtain⟨n,rfl⟩:∃n:Nat,r=(n:Int):=⟨r.toNat,(Int.toNat_of_nonneg q2).symm⟩
 obtain⟨c2,s2,p1,p2⟩:=spoilt_loop hw0 hw1 (n+1) s q4 (by omega) (by omega)
 unfold f_S_l1Cur_spoilt
 rw[q1,Option.bind_some]
 dsimp only
 rw[show IntKind.wrap .i64 (1+(n:Int))=((n+1:Nat):Int) from by rw[wrap64 (by omega) (by omega)];omega,p1]
 exact⟨_,_,rfl⟩
theorem start_ok {t:PV S_uint8}(hw:WfV S_uint8 t):CurOk 0 ((t,(0,(0,()))):Cur):=⟨fun x hx=>by have:=hw.2 x hx;exact this,Int.le_refl _,Int.le_refl _⟩
theorem big_L {t0 t1:PV S_uint8}:∃b:Bool,f_L_big t0 t1=some ((b,()),()):=by
 unfold f_L_big
 cases decide ((List.length t0:Int)>1048576)
 ·exact⟨_,rfl⟩
 ·exact⟨_,rfl⟩
theorem sameRows_self (g:PV Y_impl_Group)(hg:SmR g.2.2.1):f_L_sameGroup g g=some ((true,()),()):=by
 have hl:=hg.1
 have hF:=fix_all (B:=fun d=>b_L_sameGroup_4 d.1 d.2.1 d.2.2.1 d.2.2.2.1) (fun i=>(g,g,(List.length g.2.2.1:Int),(i:Int),())) (List.length g.2.2.1) (r:=(.inl ()))
  (fun i hi=>by
    show b_L_sameGroup_4 g g (List.length g.2.2.1) i=_
    unfold b_L_sameGroup_4
    rw[decide_eq_true (by omega:(i:Int)<(List.length g.2.2.1:Int)),cond_true,inB_lt hi,cond_true,cond_true,toNat_cast]
    rw[beq_self_eq_true,beq_self_eq_true,Bool.and_self,Bool.not_true,cond_false,wrap64 (x:=(i:Int)+1) (by omega) (by omega)]
    rfl)
  (by
    show b_L_sameGroup_4 g g (List.length g.2.2.1) (List.length g.2.2.1)=_
    unfold b_L_sameGroup_4
    rw[decide_eq_false (Int.lt_irrefl _),cond_false])
 unfold f_L_sameGroup
 simp only[beq_self_eq_true,Bool.not_true,cond_false,Option.bind_some]
 rw[show w_L_sameGroup_4 (g,g,(List.length g.2.2.1:Int),0,())=_ from hF,Option.bind_some]
theorem sameGroups_self (a:GR)(ha:SmG a):f_L_sameGroups a a=some ((true,()),()):=by
 have hl:=ha.1
 have hF:=fix_all (B:=fun d=>b_L_sameGroups_4 d.1 d.2.1 d.2.2.1 d.2.2.2.1) (fun i=>(a,a,(List.length a:Int),(i:Int),())) (List.length a) (r:=(.inl ()))
  (fun i hi=>by
    show b_L_sameGroups_4 a a (List.length a) i=_
    unfold b_L_sameGroups_4
    rw[decide_eq_true (by omega:(i:Int)<(List.length a:Int)),cond_true,inB_lt hi,cond_true,cond_true,toNat_cast,sameRows_self _ (by rw[getD_of hi];exact ha.2 _ (List.getElem_mem hi)),Option.bind_some]
    dsimp only
    rw[Bool.not_true,cond_false,wrap64 (x:=(i:Int)+1) (by omega) (by omega)]
    rfl)
  (by
    show b_L_sameGroups_4 a a (List.length a) (List.length a)=_
    unfold b_L_sameGroups_4
    rw[decide_eq_false (Int.lt_irrefl _),cond_false])
 unfold f_L_sameGroups
 rw[beq_self_eq_true,Bool.not_true,cond_false,show w_L_sameGroups_4 (a,a,(List.length a:Int),0,())=_ from hF,Option.bind_some]
end R.G
end

section
/- Groups side by side: the law. -/
open Go Go.Dn
namespace R.G
set_option linter.unusedVariables false
theorem tot_le {e:TypeId}{t:Ty}{c:Nat}:∀{l:List (PV t)},(∀x∈l,tot t x≤c)→tot (.slice e t) l≤(c+1)*l.length:=by
 intro l h
 have:tot (.slice e t) l=l.length+(l.map (tot t)).sum:=tot_slice
 rw[this]
 have hs:(l.map (tot t)).sum≤c*l.length:=by
  clear this
  induction l with
  |nil=>simp
  |cons x l ih=>
   have h1:=h x (List.mem_cons_self ..)
   have h2:=ih fun y hy=>h y (List.mem_cons_of_mem _ hy)
   rw[List.map_cons,List.sum_cons,List.length_cons,Nat.mul_add]
   omega
 rw[Nat.add_mul,Nat.one_mul]
 omega
theorem good_tot {gs:GR}(h:goodGs gs=true):tot S_impl_Group gs≤1000000:=by
 have hlen:gs.length≤20:=by
  unfold goodGs at h
  rw[Bool.and_eq_true,decide_eq_true_eq] at h
  exact h.1
 have hx:∀x∈gs,tot Y_impl_Group x≤10000:=by
  intro x hx
  obtain⟨i,hi,rfl⟩:=List.mem_iff_getElem.1 hx
  obtain⟨hg,_⟩:=good_mem' h hi
  obtain⟨r1,r2⟩:=rowsOk hg
  have hr:∀r∈(gs[i].2.2.1:RW),tot Y_impl_Row r≤40:=by
   intro r hr
   have h3:=(r2 r hr).2.2
   have:tot .str r.2.1=List.length r.2.1:=tot_str
   simp only[tot] at this ⊢
   omega
  have h4:tot S_impl_Row gs[i].2.2.1≤(40+1)*List.length gs[i].2.2.1:=tot_le hr
  simp only[tot] at h4 ⊢
  omega
 have h5:tot S_impl_Group gs≤(10000+1)*gs.length:=tot_le hx
 omega
theorem good_smG {gs:GR}(h:goodGs gs=true):SmG gs:=SmG.of (e:=0) (Nat.le_trans (good_tot h) (by omega))
theorem sidesTextR_S {g:GR}(hs:SmG g):f_S_SidesText g=some ((stR g,stOk g,()),()):=by
 unfold f_S_SidesText stR stOk
 rw[groups_S hs,Option.bind_some]
 dsimp only
 cases hg:goodGs g
 ·rfl
 ·rw[Bool.not_true,cond_false,sidesText_S' hs hg,Option.bind_some,Option.bind_some]
  dsimp only
  by_cases h:(sidesT g).length≤3000
  ·rw[decide_eq_false (by omega:¬((sidesT g).length:Int)>3000),decide_eq_true h,cond_false,sidesText_S' hs hg,Option.bind_some];rfl
  ·rw[decide_eq_true (by omega:((sidesT g).length:Int)>3000),decide_eq_false h];rfl
theorem back_I {g:GR}(h:stOk g=true):f_I_ReadContext (sidesT g)=some ((g,0,true,()),()):=by
 unfold stOk at h
 rw[Bool.and_eq_true,decide_eq_true_eq] at h
 obtain⟨gs,c,q,e,h1⟩:=read_I (sidesT g)
 rcases h1 with⟨a1,a2,a3,rfl,rfl⟩|⟨a1,_⟩
 ·have r1:=raw_good a1 (by rw[a2];exact a3)
  have r2:=raw_good h.1 h.2
  rw[a2] at r1
  rw[r1] at r2
  have:gs=g:=(Prod.mk.inj (Prod.mk.inj (Option.some.inj r2)).1).1
  subst this
  exact e
 ·exact(a1 g h.1 rfl h.2).elim
theorem both_told (s:List UInt8):∃(gs:GR) (c:Int) (q:Bool),f_I_ReadContext s=some ((gs,c,q,()),())∧f_S_ReadContext s=some ((gs,c,q,()),())∧
 ((goodGs gs=true∧sidesT gs=s∧s.length≤3000∧c=0∧q=true)∨(gs=[]∧c=1∧q=false)):=by
 obtain⟨gs,c,q,e1,e2,_⟩:=context_both s
 obtain⟨g1,c1,q1,e,h⟩:=read_I s
 have e:some ((gs,c,q,()),())=some ((g1,c1,q1,()),()):=e1.symm.trans e
 have e':=(Prod.mk.inj (Option.some.inj e)).1
 obtain⟨y1,e'⟩:=Prod.mk.inj e'
 obtain⟨y2,e'⟩:=Prod.mk.inj e'
 obtain⟨y3,_⟩:=Prod.mk.inj e'
 subst y1;subst y2;subst y3
 refine⟨gs,c,q,e1,e2,?_⟩
 rcases h with h|⟨_,h⟩
 ·exact .inl h
 ·exact .inr h
theorem stR_len (g:GR):(stR g).length≤3000:=by
 unfold stR
 cases h:stOk g
 ·exact Nat.zero_le _
 ·unfold stOk at h
  rw[Bool.and_eq_true,decide_eq_true_eq] at h
  exact h.2
theorem drawSides_ok {t:PV S_uint8}(hw:WfV S_uint8 t):∃g:GR,f_S_DrawSidesText t=some ((g,()),())∧f_S_DrawGoodGroups t=some ((g,()),())∧SmG g:=by
 obtain⟨l,g,c',e,h1,h2,_⟩:=groups_ok (start_ok hw) (by omega)
 have e2:f_S_DrawGoodGroups t=some ((g,()),()):=by unfold f_S_DrawGoodGroups;rw[e];rfl
 unfold f_S_DrawSidesText
 rw[e2]
 exact⟨g,rfl,rfl,h1⟩
theorem ofB_ok {K:Int}{c:Cur}(q:CurOk K c)(hK:K≤1000000)(L:TX)(h1:1≤L.length)(h2:L.length≤1000):
 ∃s:List UInt8,(((f_S_l1Cur_pick c (L.length:Int)).bind fun r12=>bif inB r12.1.1 L.length then some (L.getD r12.1.1.toNat [],()) else none:Option (PV .str×Unit)).bind fun j13=>some ((j13.1,()),()):Option (PVs [.str]×PVs []))=some ((s,()),()):=by
 obtain⟨r3,c3,p3,a3,b3,_,q3⟩:=pick_ok (n:=(L.length:Int)) q (by omega) (by omega)
 have b3:=b3 (by omega)
 obtain⟨i,rfl⟩:∃i:Nat,r3=(i:Int):=⟨r3.toNat,(Int.toNat_of_nonneg a3).symm⟩
 rw[p3,Option.bind_some]
 dsimp only
 rw[inB_lt (by omega),cond_true]
 exact⟨_,rfl⟩
theorem drawRead_ok {t:PV S_uint8}(hw:WfV S_uint8 t):∃s:List UInt8,f_S_DrawReadContext t=some ((s,()),()):=by
 obtain⟨l,g,c1,e,h1,h2,q1⟩:=groups_ok (start_ok hw) (by omega)
 obtain⟨r,c2,p2,a2,b2,_,q2⟩:=pick_ok (n:=4) q1 (by omega) (by omega)
 have:=stR_len g
 unfold f_S_DrawReadContext
 rw[e,Option.bind_some]
 dsimp only
 rw[sidesTextR_S h1,Option.bind_some]
 dsimp only
 rw[p2,Option.bind_some]
 dsimp only
 cases h0:(r==0)
 ·rw[cond_false]
  cases h3:(r==1)
  ·exact⟨_,rfl⟩
  ·rw[cond_true]
   exact ofB_ok q2 (by omega) [[],[42,42,42,42,42,42,42,42,42,42,42,42,42,42,42,10,42,42,42,32,49,32,42,42,42,42,10,45,32,97,10,45,45,45,32,48,32,45,45,45,45,10],[42,42,42,42,42,42,42,42,42,42,42,42,42,42,42,10,42,42,42,32,49,32,42,42,42,42,10,33,32,97,10,45,45,45,32,49,32,45,45,45,45,10,33,32,98,10],[42,42,42,42,42,42,42,42,42,42,42,42,42,42,42,10,42,42,42,32,48,32,42,42,42,42,10,45,45,45,32,49,32,45,45,45,45,10,43,32,97,10,92,32,110,111,110,101,10],[42,42,42,42,42,42,42,42,42,42,42,42,42,42,42,10,42,42,42,32,49,32,42,42,42,42,10,45,45,45,32,49,32,45,45,45,45,10]] (by decide) (by decide)
 ·obtain⟨s',c3,e3⟩:=spoilt_ok (ws:=[42,45,43,33,32,44,49,10]) (by decide) (by decide) (stR g) q2 (by omega) (by omega)
  rw[cond_true,e3]
  exact⟨_,rfl⟩
theorem drawHalf_ok {t:PV S_uint8}(hw:WfV S_uint8 t):∃(g:PV Y_impl_Group) (b:Bool),f_S_DrawHalfText t=some ((g,b,()),())∧SmR g.2.2.1:=by
 obtain⟨g,_,e,h1⟩:=drawSides_ok hw
 obtain⟨b,c',e2,_⟩:=one_ok (n:=2) (start_ok hw) (by omega) (by omega)
 have key:∃x:PV Y_impl_Group,f_S_DrawOldOf t=some ((x,()),())∧SmR x.2.2.1:=by
  unfold f_S_DrawOldOf
  rw[e,Option.bind_some]
  dsimp only
  by_cases h0:g.length=0
  ·rw[show((g.length:Int)==0)=true from by rw[h0];rfl,cond_true]
   refine⟨_,rfl,⟨by show 1≤_;omega,fun r hr=> ?_⟩⟩
   obtain rfl:=List.mem_singleton.1 hr
   show 2≤_
   omega
  ·rw[show((g.length:Int)==0)=false from beq_eq_false_iff_ne.2 (by omega),cond_false,show inB 0 g.length=true from inB_lt (i:=0) (by omega),cond_true]
   refine⟨_,rfl,?_⟩
   rw[show((0:Int).toNat)=0 from rfl,getD_of (by omega)]
   exact h1.2 _ (List.getElem_mem (by omega))
 obtain⟨x,e3,h3⟩:=key
 unfold f_S_DrawHalfText
 rw[e3,Option.bind_some]
 dsimp only
 rw[e2]
 exact⟨x,b,rfl,h3⟩
theorem half_both {g:PV Y_impl_Group}(h:SmR g.2.2.1)(old:Bool):∃(s:List UInt8) (q:Bool),f_I_HalfText g old=some ((s,q,()),())∧f_S_HalfText g old=some ((s,q,()),()):=by
 unfold f_I_HalfText f_S_HalfText
 rw[group_I h,group_S h,Option.bind_some,Option.bind_some]
 dsimp only
 cases hg:goodG g
 ·exact⟨[],false,rfl,rfl⟩
 ·have hr:=rowsOk_of hg
  rw[Bool.not_true,cond_false,cond_false,half_loop_S rfl hr old]
  cases old
  ·rw[cond_false,half_loop_I rfl hr 2]
   exact⟨_,true,rfl,rfl⟩
  ·rw[cond_true,half_loop_I rfl hr 3]
   exact⟨_,true,rfl,rfl⟩
theorem tail_ok {t1:PV S_uint8}(hw:WfV S_uint8 t1)(s:List UInt8):(
 (f_I_ReadContext s).bind fun r26=>
   (f_S_ReadContext s).bind fun r28=>
     ((
       bif (!(r26.1.2.2.1==r28.1.2.2.1)) then
        some (t1,s,r26.1.1,r26.1.2.2.1,true,())
       else
        bif (!(r26.1.2.1==r28.1.2.1)) then
         some (t1,s,r26.1.1,r26.1.2.2.1,true,())
        else
         (f_L_sameGroups r26.1.1 r28.1.1).bind fun r32=>
           some (t1,s,r26.1.1,r26.1.2.2.1,(!r32.1.1),()):Option ((PV S_uint8×PV .str×PV S_impl_Group×PV .bool×PV .bool×Unit)))).bind fun j33=>
       bif j33.2.2.2.2.1 then
        some ((false,()),())
       else
        ((
          bif j33.2.2.2.1 then
           (f_I_SidesText j33.2.2.1).bind fun r38=>
             ((
               bif (!r38.1.2.1) then
                some (j33.1,true,())
               else
                some (j33.1,(!(r38.1.1==j33.2.1)),()):Option ((PV S_uint8×PV .bool×Unit)))).bind fun j39=>
               bif j39.2.1 then
                some (.inr (false,()))
               else
                some (.inl (j39.1,()))
          else
           some (.inl (j33.1,())):Option ((PV S_uint8×Unit)⊕(PV .bool×Unit)))).bind fun x50=>
          match x50 with
          | .inl j40=>
            (f_S_DrawHalfText j40.1).bind fun r42=>
              (f_I_HalfText r42.1.1 r42.1.2.1).bind fun r44=>
                (f_S_HalfText r42.1.1 r42.1.2.1).bind fun r46=>
                  bif (r44.1.2.1==r46.1.2.1) then
                   some (((r44.1.1==r46.1.1),()),())
                  else
                   some ((false,()),())
          | .inr j47=>
            some ((j47.1,()),()):Option (PVs [.bool]×PVs []))=some ((true,()),()):=by
 obtain⟨gs,c,q,e1,e2,h⟩:=both_told s
 obtain⟨g,b,e3,h3⟩:=drawHalf_ok hw
 obtain⟨u,v,e4,e5⟩:=half_both h3 b
 rw[e1,Option.bind_some,e2,Option.bind_some]
 dsimp only
 simp only[beq_self_eq_true,Bool.not_true,cond_false]
 rcases h with⟨h1,h2,h4,rfl,rfl⟩|⟨rfl,rfl,rfl⟩
 ·have hs:=good_smG h1
  rw[sameGroups_self gs hs,Option.bind_some]
  dsimp only
  rw[Option.bind_some]
  dsimp only
  have hk:stOk gs=true:=by unfold stOk;rw[h1,h2,decide_eq_true h4];rfl
  rw[Bool.not_true,cond_false,cond_true,sidesTextR_I hs,Option.bind_some]
  dsimp only
  rw[hk,Bool.not_true,cond_false]
  unfold stR
  rw[hk,cond_true,h2,beq_self_eq_true,Bool.not_true,Option.bind_some]
  dsimp only
  rw[cond_false,Option.bind_some]
  dsimp only
  rw[e3,Option.bind_some]
  dsimp only
  rw[e4,Option.bind_some,e5,Option.bind_some]
  dsimp only
  rw[beq_self_eq_true,cond_true,beq_self_eq_true]
 ·rw[sameGroups_self [] ⟨Nat.zero_le _,fun x hx=>by cases hx⟩,Option.bind_some]
  dsimp only
  rw[Option.bind_some]
  dsimp only
  rw[Bool.not_true,cond_false,cond_false,Option.bind_some]
  dsimp only
  rw[e3,Option.bind_some]
  dsimp only
  rw[e4,Option.bind_some,e5,Option.bind_some]
  dsimp only
  rw[beq_self_eq_true,cond_true,beq_self_eq_true]
end R.G
namespace R
open R.G
theorem law_Context (t0 t1:PV S_uint8)(hw:WfV S_uint8 t0)(hw1:WfV S_uint8 t1):f_L_FnContext t0 t1=some ((true,()),()):=by
 obtain⟨b,eb⟩:=G.big_L (t0:=t0) (t1:=t1)
 obtain⟨g,eg,_,h1⟩:=G.drawSides_ok hw
 obtain⟨s,es⟩:=G.drawRead_ok hw1
 unfold f_L_FnContext
 rw[eb,Option.bind_some]
 dsimp only
 cases b
 case true=>rfl
 rw[cond_false,eg,Option.bind_some]
 dsimp only
 rw[sidesTextR_I h1,Option.bind_some]
 dsimp only
 rw[G.sidesTextR_S h1,Option.bind_some]
 dsimp only
 simp only[beq_self_eq_true,Bool.not_true,cond_false,Option.bind_some]
 cases hk:stOk g
 ·rw[cond_false,Option.bind_some]
  dsimp only
  rw[es,Option.bind_some]
  exact G.tail_ok hw1 s
 ·have hR:stR g=sidesT g:=by unfold stR;rw[hk];rfl
  rw[cond_true,hR,G.back_I hk,Option.bind_some]
  dsimp only
  simp only[beq_self_eq_true,Bool.not_true,cond_false,G.sameGroups_self g h1,Option.bind_some]
  rw[es,Option.bind_some]
  exact G.tail_ok hw1 s
end R
end
